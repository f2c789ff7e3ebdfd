/- What the law needs: laws of the abstract machine, and contracts of functions. -/
import Derived.Test.YtbgkimkbngocjaaM1
import Derived.Test.YtbgkimkbngocjaaSh
import Derived.Test.YtbgkimkbngocjaaM2
set_option linter.unusedVariables false
set_option linter.unusedSimpArgs false
namespace Go.Proofs.Ytbgkimkbngocjaa.Ax
open Go
theorem k101 (x : Nd) (left : Int) (hx : x.s.size ≤ 9223372036854775807) (hl : 0 ≤ left ∧ left ≤ 9000000000000000000) (H : Hp) (n : Nat) : Rt Try.prog 101 [.agg ⟨x.cells⟩,.int .i64 left] H n (.int .i64 (if left - x.s.size < 0 then -1 else left - x.s.size)):=by
 unfold Rt
 rw [c101]; unfold S101
 have hw : IntKind.i64.wrap (left - (x.s.size : Int)) = left - x.s.size:=w64 (by omega)
 simp(disch:=omega)only[↓reduceIte,ask_true,↓X0,X1,Nat.reduceEqDiff,Int.reduceEq,Nat.reduceAdd,Nat.reduceSub,vcells_agg,Nd.cells,ld_set,hw]
 by_cases h : left - (x.s.size : Int) < 0
 ·simp(disch:=omega)only[↓reduceIte,ask_true,↓X0,X1,Nat.reduceEqDiff,Int.reduceEq,Nat.reduceAdd,Nat.reduceSub,h]
  exact ⟨_,_,by omega,(Same.refl _ _).set (Nat.le_refl _) _,rfl⟩
 ·simp(disch:=omega)only[↓reduceIte,ask_true,↓X0,X1,Nat.reduceEqDiff,Int.reduceEq,Nat.reduceAdd,Nat.reduceSub,h]
  exact ⟨_,_,by omega,(Same.refl _ _).set (Nat.le_refl _) _,rfl⟩
theorem l66 {n0 : Nat} {H0 : Hp} {v : Value} {l : List Nd} (hv : Li eNode n0 H0 v l) (hs : ∀ x ∈ l,x.s.size ≤ 9223372036854775807) (hl : l.length ≤ 1048576) (m : Int) (hm : m ≤ 1048576) : ∀ t n,n0 ≤ n → t 0 = v → t 5 = .int .i64 0 → t 1 = .int .i64 m → 0 ≤ m →
  Wp (Loop (S66L0 (Call Try.prog) Loop) t H0 n) (fun o => n ≤ o.n ∧ Same n0 H0 o.H ∧ ((o.e = .exit 0 ∧ ∃ r : Int,0 ≤ r ∧ r ≤ m ∧ o.t 1 = .int .i64 r ∧ ∀ x ∈ l,(x.s.size : Int) ≤ m) ∨ (o.e = .ret ∧ o.t 4 = .int .i64 (-1)))):=by
 intro t n hn0 e0 e5 e1 hm0
 refine Loop_rule (fun d t H n' => ∃ (j : Nat) (r : Int),j + d = l.length ∧ n ≤ n' ∧ Same n0 H0 H ∧ t 0 = v ∧ t 5 = .int .i64 j ∧ t 1 = .int .i64 r ∧ 0 ≤ r ∧ r ≤ m ∧ ∀ x ∈ l.take j,(x.s.size : Int) ≤ m) _ ?_ l.length t H0 n ⟨0,m,by omega,by omega,Same.refl _ _,e0,e5,e1,hm0,by omega,by simp⟩
 rintro d t H n' ⟨j,r,hj,hn,hsm,e0,e5,e1,hr0,hr1,hx⟩
 unfold S66L0
 have hv':=hv.keep hsm (Nat.le_refl _)
 by_cases hlt : (j : Int) < l.length
 ·have hlt' : j < l.length:=by omega
  have g:=hv'.nAll (by omega) hlt
  have hmem:=gi_mem (l:=l) (by omega) hlt
  obtain ⟨H1,n1,a1,a2,a3⟩:=k101 (gi l (j : Int)) r (hs _ hmem) (by omega) H (n' + 11)
  by_cases h : r - ((gi l (j : Int)).s.size : Int) < 0
  ·(repeat(first|((with_reducible first|apply Wp.gs|apply Wp.cs|apply Wp.cselX|apply Wp.askT|apply Wp.iteKT|apply Wp.ikb|apply Wp.askb|apply Wp.step);case h=>((try simp(disch:=omega)only[↓reduceIte,ask_true,↓X0,X1,Nat.reduceEqDiff,Int.reduceEq,Nat.reduceAdd,Nat.reduceSub,e0,e5,e1,hv'.len,hlt,g,a3,h]);with_reducible first|done|exact rfl|exact bT|exact bF))|apply Wp.andS|apply Wp.orS|with_reducible apply Wp.gu|simp only[↓X3]|simp(disch:=decide)only[asks_nil,asks_in,asks_out,askB_nil,askB_in,askB_out]|with_reducible apply Wp.assoc))
   exact Wp.pure (Nxt.ret ⟨by simp only; omega,hsm.trans (a2.less (show n0 ≤ n' + 11 by omega)) (Nat.le_refl _),.inr ⟨rfl,by simp [put_at]⟩⟩)
  ·have hw:=wj (j:=j) (len:=l.length) hlt' (by omega)
   (repeat(first|((with_reducible first|apply Wp.gs|apply Wp.cs|apply Wp.cselX|apply Wp.askT|apply Wp.iteKT|apply Wp.ikb|apply Wp.askb|apply Wp.step);case h=>((try simp(disch:=omega)only[↓reduceIte,ask_true,↓X0,X1,Nat.reduceEqDiff,Int.reduceEq,Nat.reduceAdd,Nat.reduceSub,e0,e5,e1,hv'.len,hlt,g,a3,h,hw]);with_reducible first|done|exact rfl|exact bT|exact bF))|apply Wp.andS|apply Wp.orS|with_reducible apply Wp.gu|simp only[↓X3]|simp(disch:=decide)only[asks_nil,asks_in,asks_out,askB_nil,askB_in,askB_out]|with_reducible apply Wp.assoc))
   refine Wp.pure (Nxt.go (d - 1) (by omega) ⟨j + 1,r - (gi l (j : Int)).s.size,by omega,by omega,hsm.trans (a2.less (show n0 ≤ n' + 11 by omega)) (Nat.le_refl _),by simp [put_at,e0],by simp [put_at],by simp [put_at],by omega,by omega,?_⟩)
   intro x hx'
   rw [take_next hlt'] at hx'
   rcases List.mem_append.1 hx' with h' | h'
   ·exact hx x h'
   ·simp only [List.mem_cons,List.not_mem_nil,or_false] at h'
    rw [h',← gi_nat hlt']; omega
 ·((repeat(first|((with_reducible first|apply Wp.gs|apply Wp.cs|apply Wp.cselX|apply Wp.askT|apply Wp.iteKT|apply Wp.ikb|apply Wp.askb|apply Wp.step);case h=>((try simp(disch:=omega)only[↓reduceIte,ask_true,↓X0,X1,Nat.reduceEqDiff,Int.reduceEq,Nat.reduceAdd,Nat.reduceSub,e0,e5,e1,hv'.len,hlt]);with_reducible first|done|exact rfl|exact bT|exact bF))|apply Wp.andS|apply Wp.orS|with_reducible apply Wp.gu|simp only[↓X3]|simp(disch:=decide)only[asks_nil,asks_in,asks_out,askB_nil,askB_in,askB_out]|with_reducible apply Wp.assoc));try(with_reducible apply Wp.cargs;case h=>((try simp(disch:=omega)only[↓reduceIte,ask_true,↓X0,X1,Nat.reduceEqDiff,Int.reduceEq,Nat.reduceAdd,Nat.reduceSub,e0,e5,e1,hv'.len,hlt]);with_reducible exact rfl)))
  rw [List.take_of_length_le (by omega)] at hx
  exact Wp.pure (Nxt.exit ⟨by simp only; omega,hsm,.inl ⟨rfl,r,hr0,hr1,by simp [put_at,e1],hx⟩⟩)
def Light (l : List Nd) (left r : Int) : Prop:=-1 ≤ r ∧ r ≤ left ∧ (0 ≤ r → (l.length : Int) ≤ left ∧ ∀ x ∈ l,(x.s.size : Int) ≤ left)
theorem k66 {n : Nat} {H : Hp} {v : Value} {l : List Nd} (hv : Li eNode n H v l) (hs : ∀ x ∈ l,x.s.size ≤ 9223372036854775807) (hl : l.length ≤ 9223372036854775807) (left : Int) (hleft : 0 ≤ left ∧ left ≤ 1048576) : ∃ r,Light l left r ∧ Rt Try.prog 66 [v,.int .i64 left] H n (.int .i64 r):=by
 unfold Rt Light
 rw [c66]; unfold S66
 have hw : IntKind.i64.wrap (left - (l.length : Int)) = left - l.length:=w64 (by omega)
 by_cases h : left - (l.length : Int) < 0
 ·refine ⟨-1,⟨by omega,by omega,fun h => by omega⟩,?_⟩
  simp(disch:=omega)only[↓reduceIte,ask_true,↓X0,X1,Nat.reduceEqDiff,Int.reduceEq,Nat.reduceAdd,Nat.reduceSub,hv.len,hw,h]
  exact ⟨_,_,by omega,Same.refl _ _,rfl⟩
 ·simp(disch:=omega)only[↓reduceIte,ask_true,↓X0,X1,Nat.reduceEqDiff,Int.reduceEq,Nat.reduceAdd,Nat.reduceSub,hv.len,hw,h]
  generalize hT : put _ _ _ = T
  obtain ⟨⟨oe,ot,oH,on⟩,f1,f2,f3,f4⟩:=l66 hv hs (by omega) (left - l.length) (by omega) T (n + 9) (by omega) (by rw [← hT]; simp [put_at,argsT_at]) (by rw [← hT]; simp [put_at]) (by rw [← hT]; simp [put_at]) (by omega)
  simp only at f2 f3 f4
  rw [f1]
  rcases f4 with ⟨rfl,r,f4,f5,f6,f7⟩ | ⟨rfl,f4⟩
  ·refine ⟨r,⟨by omega,by omega,fun _ => ⟨by omega,fun x hx => by have:=f7 x hx; omega⟩⟩,?_⟩
   simp(disch:=omega)only[↓reduceIte,ask_true,↓X0,X1,Nat.reduceEqDiff,Int.reduceEq,Nat.reduceAdd,Nat.reduceSub,outOf,f6]
   exact ⟨_,_,by omega,f3,rfl⟩
  ·refine ⟨-1,⟨by omega,by omega,fun h => by omega⟩,?_⟩
   simp(disch:=omega)only[↓reduceIte,ask_true,↓X0,X1,Nat.reduceEqDiff,Int.reduceEq,Nat.reduceAdd,Nat.reduceSub,outOf,f4]
   exact ⟨_,_,by omega,f3,rfl⟩
theorem k23 {n : Nat} {H : Hp} {v : Value} {l : List Nd} (hv : Li eNode n H v l) (hs : ∀ x ∈ l,x.s.size ≤ 9223372036854775807) (hl : l.length ≤ 9223372036854775807) (left : Int) (hleft : 0 ≤ left ∧ left ≤ 1048576) : ∃ r,Light l left r ∧ Rt Try.prog 23 [.agg ⟨[v]⟩,.int .i64 left] H n (.int .i64 r):=by
 unfold Rt
 rw [c23]; unfold S23
 have s1 : Same n H (H.set n (some (.row [v] 0 true))):=(Same.refl _ _).set (Nat.le_refl _) _
 obtain ⟨r,hr,H1,n1,a1,a2,a3⟩:=k66 ((hv.keep s1 (Nat.le_refl _)).up (show n ≤ n + 7 by omega)) hs hl left hleft
 have s2:=s1.trans (a2.less (show n ≤ n + 7 by omega)) (Nat.le_refl _)
 refine ⟨r,hr,?_⟩
 by_cases h : r < 0
 ·have : r = -1:=by have:=hr.1; omega
  subst this
  simp(disch:=omega)only[↓reduceIte,ask_true,↓X0,X1,Nat.reduceEqDiff,Int.reduceEq,Nat.reduceAdd,Nat.reduceSub,vcells_agg,ld_set,a3,h]
  exact ⟨_,_,by omega,s2,rfl⟩
 ·simp(disch:=omega)only[↓reduceIte,ask_true,↓X0,X1,Nat.reduceEqDiff,Int.reduceEq,Nat.reduceAdd,Nat.reduceSub,vcells_agg,ld_set,a3,h]
  exact ⟨_,_,by omega,s2,rfl⟩
theorem k102 (x : Nd) (H : Hp) (n : Nat) : Rt Try.prog 102 [.agg ⟨x.cells⟩] H n (.agg ⟨x.cells⟩):=by
 unfold Rt
 rw [c102]; unfold S102
 simp(disch:=omega)only[↓reduceIte,ask_true,↓X0,X1,Nat.reduceEqDiff,Int.reduceEq,Nat.reduceAdd,Nat.reduceSub,X2,Hp_ne,Nat.reduceLeDiff,Nd.cells]
 refine ⟨_,_,?_,?_,rfl⟩
 ·omega
 ·(repeat (first | exact Same.refl _ _ | refine Same.set ?_ (by omega) _))
theorem l67 {n0 id : Nat} {H0 : Hp} {v : Value} {l : List Nd} (hv : Li eNode n0 H0 v l) (hid : n0 ≤ id) (hl : l.length ≤ 100000000) : ∀ t H n,id < n → Same n0 H0 H → t 0 = v → t 3 = sl id 0 l.length → t 4 = .int .i64 0 → H id = some (.row ((List.replicate l.length (default : Nd)).flatMap eNode.cells) 5 true) →
  Wp (Loop (S67L0 (Call Try.prog) Loop) t H n) (fun o => n ≤ o.n ∧ Same n0 H0 o.H ∧ o.e = .exit 0 ∧ o.t 3 = sl id 0 l.length ∧ o.H id = some (.row (l.flatMap eNode.cells) 5 true)):=by
 intro t H n hn0 hsm e0 e3 e4 hH
 refine Loop_rule (fun d t H n' => ∃ (j : Nat),j + d = l.length ∧ n ≤ n' ∧ Same n0 H0 H ∧ t 0 = v ∧ t 3 = sl id 0 l.length ∧ t 4 = .int .i64 j ∧ H id = some (.row ((l.take j ++ List.replicate d (default : Nd)).flatMap eNode.cells) 5 true)) _ ?_ l.length t H n ⟨0,by omega,by omega,hsm,e0,e3,e4,by simpa using hH⟩
 rintro d t H n' ⟨j,hj,hn,hsm,e0,e3,e4,hH⟩
 unfold S67L0
 have hv':=hv.keep hsm (Nat.le_refl _)
 by_cases hlt : (j : Int) < l.length
 ·have hlt' : j < l.length:=by omega
  obtain ⟨d,rfl⟩ : ∃ d',d = d' + 1:=⟨d - 1,by omega⟩
  have g:=hv'.nAll (by omega) hlt
  have hw:=wj (j:=j) (len:=l.length) hlt' (by omega)
  obtain ⟨H1,n1,a1,a2,a3⟩:=k102 (gi l (j : Int)) H (n' + 13)
  have hix : idxA 5 (sl id 0 l.length) (.int .i64 j) = some (ptr id (j * 5)):=by simp [idxA,hlt']
  have hst : st true 5 (ptr id (j * 5)) (.agg ⟨(gi l (j : Int)).cells⟩) H1 = some (H1.set id (some (.row ((l.take (j + 1) ++ List.replicate d (default : Nd)).flatMap eNode.cells) 5 true))):=by
   rw [st_agg,if_pos (show (gi l (j : Int)).cells.length = 5 from rfl)]
   have hH1 : H1 id = some (.row ((l.take j ++ List.replicate (d + 1) (default : Nd)).flatMap eNode.cells) 5 true):=by rw [a2 id (by omega)]; exact hH
   have:=st_el (E:=eNode) hH1 (j:=j) (by simp; omega) (gi l (j : Int))
   have hset : (l.take j ++ List.replicate (d + 1) (default : Nd)).set j (gi l (j : Int)) = l.take (j + 1) ++ List.replicate d default:=by
    rw [take_next hlt',gi_nat hlt',List.replicate_succ,List.set_append_right _ _ (by rw [List.length_take]; omega)]
    rw [List.length_take,Nat.min_eq_left (by omega),Nat.sub_self,List.set_cons_zero,List.append_assoc]
    rfl
   rw [hset] at this
   exact this
  (repeat(first|((with_reducible first|apply Wp.gs|apply Wp.cs|apply Wp.cselX|apply Wp.askT|apply Wp.iteKT|apply Wp.ikb|apply Wp.askb|apply Wp.step);case h=>((try simp(disch:=omega)only[↓reduceIte,ask_true,↓X0,X1,Nat.reduceEqDiff,Int.reduceEq,Nat.reduceAdd,Nat.reduceSub,e0,e3,e4,hv'.len,hlt,g,a3,hix,hst,hw]);with_reducible first|done|exact rfl|exact bT|exact bF))|apply Wp.andS|apply Wp.orS|with_reducible apply Wp.gu|simp only[↓X3]|simp(disch:=decide)only[asks_nil,asks_in,asks_out,askB_nil,askB_in,askB_out]|with_reducible apply Wp.assoc))
  exact Wp.pure (Nxt.go d (by omega) ⟨j + 1,by omega,by omega,(hsm.trans (a2.less (show n0 ≤ n' + 13 by omega)) (Nat.le_refl _)).set hid _,by simp [put_at,e0],by simp [put_at,e3],by simp [put_at],Hp_same _ _ _⟩)
 ·((repeat(first|((with_reducible first|apply Wp.gs|apply Wp.cs|apply Wp.cselX|apply Wp.askT|apply Wp.iteKT|apply Wp.ikb|apply Wp.askb|apply Wp.step);case h=>((try simp(disch:=omega)only[↓reduceIte,ask_true,↓X0,X1,Nat.reduceEqDiff,Int.reduceEq,Nat.reduceAdd,Nat.reduceSub,e0,e3,e4,hv'.len,hlt]);with_reducible first|done|exact rfl|exact bT|exact bF))|apply Wp.andS|apply Wp.orS|with_reducible apply Wp.gu|simp only[↓X3]|simp(disch:=decide)only[asks_nil,asks_in,asks_out,askB_nil,askB_in,askB_out]|with_reducible apply Wp.assoc));try(with_reducible apply Wp.cargs;case h=>((try simp(disch:=omega)only[↓reduceIte,ask_true,↓X0,X1,Nat.reduceEqDiff,Int.reduceEq,Nat.reduceAdd,Nat.reduceSub,e0,e3,e4,hv'.len,hlt]);with_reducible exact rfl)))
  have hd : d = 0:=by omega
  subst hd
  rw [List.take_of_length_le (by omega)] at hH
  exact Wp.pure (Nxt.exit ⟨Nat.le_trans hn (Nat.le_add_right _ _),hsm,rfl,by simp [put_at,e3],by simpa using hH⟩)
theorem k67 {n : Nat} {H : Hp} {v : Value} {l : List Nd} (hv : Li eNode n H v l) (hl : l.length ≤ 100000000) : RtN Try.prog 67 [v] H n (fun w H' n' => New eNode n n' H' w l):=by
 unfold RtN
 rw [c67]; unfold S67
 have hm:=mks_new eNode (default : Nd) (id:=n + 3) (bytes:=48) (k:=l.length) H (by decide) (by omega)
 have hz : eNode.cells (default : Nd) = [.int .i64 0,.int .i64 0,.string ⟨#[]⟩,.int .i64 0,.int .i64 0]:=rfl
 rw [hz] at hm
 simp(disch:=omega)only[↓reduceIte,ask_true,↓X0,X1,Nat.reduceEqDiff,Int.reduceEq,Nat.reduceAdd,Nat.reduceSub,hv.len,hm]
 generalize hT : put _ _ _ = T
 obtain ⟨⟨oe,ot,oH,on⟩,f1,f2,f3,f4,f5,f6⟩:=l67 (id:=n + 3) hv (by omega) hl T (H.set (n + 3) (some (.row ((List.replicate l.length (default : Nd)).flatMap eNode.cells) 5 true))) (n + 6) (by omega) ((Same.refl _ _).set (by omega) _) (by rw [← hT]; simp [put_at,argsT_at]) (by rw [← hT]; simp [put_at]) (by rw [← hT]; simp [put_at]) (Hp_same _ _ _)
 simp only at f2 f3 f4 f5 f6
 rw [f1]
 simp(disch:=omega)only[↓reduceIte,ask_true,↓X0,X1,Nat.reduceEqDiff,Int.reduceEq,Nat.reduceAdd,Nat.reduceSub,f5]
 exact ⟨_,_,_,by omega,f3,rfl,n + 3,by omega,by omega,.inr ⟨rfl,f6⟩⟩
theorem k24 {n : Nat} {H : Hp} {v : Value} {l : List Nd} (hv : Li eNode n H v l) (hl : l.length ≤ 100000000) : RtN Try.prog 24 [.agg ⟨[v]⟩] H n (fun w H' n' => ∃ u,w = .agg ⟨[u]⟩ ∧ New eNode n n' H' u l):=by
 unfold RtN
 rw [c24]; unfold S24
 have s1 : Same n H (((H.set n (some (.row [v] 0 true))).set (n + 1) (some (.row [nilS] 0 true))).set (n + 2) (some (.row [nilS] 0 true))):=by (repeat (first | exact Same.refl _ _ | refine Same.set ?_ (by omega) _))
 obtain ⟨u,H1,n1,a1,a2,a3,id,a4,a5,a6⟩:=k67 ((hv.keep s1 (Nat.le_refl _)).up (show n ≤ n + 8 by omega)) hl
 have h2 : H1 (n + 2) = some (.row [nilS] 0 true):=by rw [a2 _ (by omega)]; exact Hp_same _ _ _
 have h1 : H1 (n + 1) = some (.row [nilS] 0 true):=by rw [a2 _ (by omega),Hp_ne _ _ (by omega),Hp_same]
 simp(disch:=omega)only[↓reduceIte,ask_true,↓X0,X1,Nat.reduceEqDiff,Int.reduceEq,Nat.reduceAdd,Nat.reduceSub,X2,Hp_ne,Nat.reduceLeDiff,a3,st_c a6.cell,h1,h2]
 refine ⟨_,_,_,?_,?_,rfl,u,rfl,id,?_,?_,?_⟩
 ·omega
 ·exact ((s1.trans (a2.less (show n ≤ n + 8 by omega)) (Nat.le_refl _)).set (by omega) _).set (by omega) _
 ·omega
 ·omega
 ·exact a6.keep (by rw [Hp_ne _ _ (by omega),Hp_ne _ _ (by omega)])
theorem k105 (x y : Nd) (H : Hp) (n : Nat) : Rt Try.prog 105 [.agg ⟨x.cells⟩,.agg ⟨y.cells⟩] H n (.bool (decide (x = y))):=by
 unfold Rt
 rw [c105]; unfold S105
 have hxy : (x = y) = (x.k = y.k ∧ x.n = y.n ∧ x.s = y.s ∧ x.a = y.a ∧ x.b = y.b):=by
  apply propext; constructor
  ·rintro rfl; exact ⟨rfl,rfl,rfl,rfl,rfl⟩
  ·rintro ⟨a,b,c,d,e⟩; cases x; cases y; simp_all
 have fin : ∀ (b : Bool) (c : Nat),∃ H' n',n ≤ n' ∧ Same n H H' ∧ some (Value.bool b,(H.set n (some (.row x.cells 0 true))).set (n + 1) (some (.row y.cells 0 true)),n + c) = some (Value.bool b,H',n'):=by
  intro b c
  refine ⟨_,_,?_,?_,rfl⟩
  ·omega
  ·(repeat (first | exact Same.refl _ _ | refine Same.set ?_ (by omega) _))
 by_cases h1 : x.k = y.k
 ·by_cases h2 : x.n = y.n
  ·by_cases h3 : x.s = y.s
   ·by_cases h4 : x.a = y.a
    ·by_cases h5 : x.b = y.b
     ·simp(disch:=omega)only[↓reduceIte,ask_true,↓X0,X1,Nat.reduceEqDiff,Int.reduceEq,Nat.reduceAdd,Nat.reduceSub,X2,Hp_ne,Nat.reduceLeDiff,Nd.cells,h1,h2,h3,h4,h5,hxy,and_self,and_true,true_and]
      simpa [Nd.cells,h1,h2,h3,h4,h5] using fin true 29
     ·simp(disch:=omega)only[↓reduceIte,ask_true,↓X0,X1,Nat.reduceEqDiff,Int.reduceEq,Nat.reduceAdd,Nat.reduceSub,X2,Hp_ne,Nat.reduceLeDiff,Nd.cells,h1,h2,h3,h4,h5,hxy,and_self,and_false]
      simpa [Nd.cells,h1,h2,h3,h4,h5] using fin false 29
    ·simp(disch:=omega)only[↓reduceIte,ask_true,↓X0,X1,Nat.reduceEqDiff,Int.reduceEq,Nat.reduceAdd,Nat.reduceSub,X2,Hp_ne,Nat.reduceLeDiff,Nd.cells,h1,h2,h3,h4,hxy,and_self,and_false,false_and]
     simpa [Nd.cells,h1,h2,h3] using fin false 24
   ·simp(disch:=omega)only[↓reduceIte,ask_true,↓X0,X1,Nat.reduceEqDiff,Int.reduceEq,Nat.reduceAdd,Nat.reduceSub,X2,Hp_ne,Nat.reduceLeDiff,Nd.cells,h1,h2,h3,hxy,and_self,and_false,false_and]
    simpa [Nd.cells,h1,h2] using fin false 19
  ·simp(disch:=omega)only[↓reduceIte,ask_true,↓X0,X1,Nat.reduceEqDiff,Int.reduceEq,Nat.reduceAdd,Nat.reduceSub,X2,Hp_ne,Nat.reduceLeDiff,Nd.cells,h1,h2,hxy,and_self,and_false,false_and]
   simpa [Nd.cells,h1] using fin false 14
 ·simp(disch:=omega)only[↓reduceIte,ask_true,↓X0,X1,Nat.reduceEqDiff,Int.reduceEq,Nat.reduceAdd,Nat.reduceSub,X2,Hp_ne,Nat.reduceLeDiff,Nd.cells,h1,hxy,and_self,and_false,false_and]
  simpa [Nd.cells] using fin false 9
theorem l70 {n0 : Nat} {H0 : Hp} {v1 v2 : Value} {a b : List Nd} (h1 : Li eNode n0 H0 v1 a) (h2 : Li eNode n0 H0 v2 b) (hab : a.length = b.length) (hl : a.length ≤ 1000000000) : ∀ t n,n0 ≤ n → t 0 = v1 → t 1 = v2 → t 5 = .int .i64 0 →
  Wp (Loop (S70L0 (Call Try.prog) Loop) t H0 n) (fun o => n ≤ o.n ∧ Same n0 H0 o.H ∧ ((o.e = .exit 0 ∧ a = b) ∨ (o.e = .ret ∧ o.t 4 = .bool false ∧ a ≠ b))):=by
 intro t n hn0 e0 e1 e5
 refine Loop_rule (fun d t H n' => ∃ (j : Nat),j + d = a.length ∧ n ≤ n' ∧ Same n0 H0 H ∧ t 0 = v1 ∧ t 1 = v2 ∧ t 5 = .int .i64 j ∧ a.take j = b.take j) _ ?_ a.length t H0 n ⟨0,by omega,by omega,Same.refl _ _,e0,e1,e5,by simp⟩
 rintro d t H n' ⟨j,hj,hn,hsm,e0,e1,e5,htk⟩
 unfold S70L0
 have g1:=h1.keep hsm (Nat.le_refl _)
 have g2:=h2.keep hsm (Nat.le_refl _)
 by_cases hlt : (j : Int) < a.length
 ·have ha : j < a.length:=by omega
  have hb : j < b.length:=by omega
  have q1:=g1.nAll (by omega) hlt
  have q2:=g2.nAll (i:=(j : Int)) (by omega) (by omega)
  have hw:=wj (j:=j) (len:=a.length) ha (by omega)
  obtain ⟨H1,n1,a1,a2,a3⟩:=k105 (gi a (j : Int)) (gi b (j : Int)) H (n' + 14)
  have s2:=hsm.trans (a2.less (show n0 ≤ n' + 14 by omega)) (Nat.le_refl _)
  by_cases he : gi a (j : Int) = gi b (j : Int)
  ·rw [decide_eq_true he] at a3
   (repeat(first|((with_reducible first|apply Wp.gs|apply Wp.cs|apply Wp.cselX|apply Wp.askT|apply Wp.iteKT|apply Wp.ikb|apply Wp.askb|apply Wp.step);case h=>((try simp(disch:=omega)only[↓reduceIte,ask_true,↓X0,X1,Nat.reduceEqDiff,Int.reduceEq,Nat.reduceAdd,Nat.reduceSub,e0,e1,e5,g1.len,hlt,q1,q2,a3,hw]);with_reducible first|done|exact rfl|exact bT|exact bF))|apply Wp.andS|apply Wp.orS|with_reducible apply Wp.gu|simp only[↓X3]|simp(disch:=decide)only[asks_nil,asks_in,asks_out,askB_nil,askB_in,askB_out]|with_reducible apply Wp.assoc))
   exact Wp.pure (Nxt.go (d - 1) (by omega) ⟨j + 1,by omega,by omega,s2,by simp [put_at,e0],by simp [put_at,e1],by simp [put_at],by rw [take_next ha,take_next hb,htk,← gi_nat ha,← gi_nat hb,he]⟩)
  ·rw [decide_eq_false he] at a3
   (repeat(first|((with_reducible first|apply Wp.gs|apply Wp.cs|apply Wp.cselX|apply Wp.askT|apply Wp.iteKT|apply Wp.ikb|apply Wp.askb|apply Wp.step);case h=>((try simp(disch:=omega)only[↓reduceIte,ask_true,↓X0,X1,Nat.reduceEqDiff,Int.reduceEq,Nat.reduceAdd,Nat.reduceSub,e0,e1,e5,g1.len,hlt,q1,q2,a3,hw]);with_reducible first|done|exact rfl|exact bT|exact bF))|apply Wp.andS|apply Wp.orS|with_reducible apply Wp.gu|simp only[↓X3]|simp(disch:=decide)only[asks_nil,asks_in,asks_out,askB_nil,askB_in,askB_out]|with_reducible apply Wp.assoc))
   exact Wp.pure (Nxt.ret ⟨by simp only; omega,s2,.inr ⟨rfl,by simp [put_at],fun h => he (by rw [h])⟩⟩)
 ·((repeat(first|((with_reducible first|apply Wp.gs|apply Wp.cs|apply Wp.cselX|apply Wp.askT|apply Wp.iteKT|apply Wp.ikb|apply Wp.askb|apply Wp.step);case h=>((try simp(disch:=omega)only[↓reduceIte,ask_true,↓X0,X1,Nat.reduceEqDiff,Int.reduceEq,Nat.reduceAdd,Nat.reduceSub,e0,e1,e5,g1.len,hlt]);with_reducible first|done|exact rfl|exact bT|exact bF))|apply Wp.andS|apply Wp.orS|with_reducible apply Wp.gu|simp only[↓X3]|simp(disch:=decide)only[asks_nil,asks_in,asks_out,askB_nil,askB_in,askB_out]|with_reducible apply Wp.assoc));try(with_reducible apply Wp.cargs;case h=>((try simp(disch:=omega)only[↓reduceIte,ask_true,↓X0,X1,Nat.reduceEqDiff,Int.reduceEq,Nat.reduceAdd,Nat.reduceSub,e0,e1,e5,g1.len,hlt]);with_reducible exact rfl)))
  rw [List.take_of_length_le (by omega),List.take_of_length_le (by omega)] at htk
  exact Wp.pure (Nxt.exit ⟨Nat.le_trans hn (Nat.le_add_right _ _),hsm,.inl ⟨rfl,htk⟩⟩)
theorem k70 {n : Nat} {H : Hp} {v1 v2 : Value} {a b : List Nd} (h1 : Li eNode n H v1 a) (h2 : Li eNode n H v2 b) (hl : a.length ≤ 1000000000) : Rt Try.prog 70 [v1,v2] H n (.bool (decide (a = b))):=by
 unfold Rt
 rw [c70]; unfold S70
 by_cases hab : (a.length : Int) = b.length
 ·simp(disch:=omega)only[↓reduceIte,ask_true,↓X0,X1,Nat.reduceEqDiff,Int.reduceEq,Nat.reduceAdd,Nat.reduceSub,h1.len,h2.len,hab]
  generalize hT : put _ _ _ = T
  obtain ⟨⟨oe,ot,oH,on⟩,f1,f2,f3,f4⟩:=l70 h1 h2 (by omega) hl T (n + 7) (by omega) (by rw [← hT]; simp [put_at,argsT_at]) (by rw [← hT]; simp [put_at,argsT_at]) (by rw [← hT]; simp [put_at])
  simp only at f2 f3 f4
  rw [f1]
  rcases f4 with ⟨rfl,f4⟩ | ⟨rfl,f4,f5⟩
  ·simp(disch:=omega)only[↓reduceIte,ask_true,↓X0,X1,Nat.reduceEqDiff,Int.reduceEq,Nat.reduceAdd,Nat.reduceSub,outOf,f4]
   exact ⟨_,_,by omega,f3,rfl⟩
  ·simp(disch:=omega)only[↓reduceIte,ask_true,↓X0,X1,Nat.reduceEqDiff,Int.reduceEq,Nat.reduceAdd,Nat.reduceSub,outOf,f4,f5]
   exact ⟨_,_,by omega,f3,rfl⟩
 ·have hne : ¬ a = b:=fun h => hab (by rw [h])
  simp(disch:=omega)only[↓reduceIte,ask_true,↓X0,X1,Nat.reduceEqDiff,Int.reduceEq,Nat.reduceAdd,Nat.reduceSub,h1.len,h2.len,hab,hne]
  exact ⟨_,_,by omega,Same.refl _ _,rfl⟩
theorem k27 {n : Nat} {H : Hp} {v1 v2 : Value} {a b : List Nd} (h1 : Li eNode n H v1 a) (h2 : Li eNode n H v2 b) (hl : a.length ≤ 1000000000) : Rt Try.prog 27 [.agg ⟨[v1]⟩,.agg ⟨[v2]⟩] H n (.bool (decide (a = b))):=by
 unfold Rt
 rw [c27]; unfold S27
 have s1 : Same n H ((H.set n (some (.row [v1] 0 true))).set (n + 1) (some (.row [v2] 0 true))):=by (repeat (first | exact Same.refl _ _ | refine Same.set ?_ (by omega) _))
 obtain ⟨H1,n1,a1,a2,a3⟩:=k70 ((h1.keep s1 (Nat.le_refl _)).up (show n ≤ n + 9 by omega)) ((h2.keep s1 (Nat.le_refl _)).up (show n ≤ n + 9 by omega)) hl
 have s2:=s1.trans (a2.less (show n ≤ n + 9 by omega)) (Nat.le_refl _)
 by_cases h : a = b
 ·simp(disch:=omega)only[↓reduceIte,ask_true,↓X0,X1,Nat.reduceEqDiff,Int.reduceEq,Nat.reduceAdd,Nat.reduceSub,X2,Hp_ne,Nat.reduceLeDiff,a3,h]
  exact ⟨_,_,by omega,s2,rfl⟩
 ·simp(disch:=omega)only[↓reduceIte,ask_true,↓X0,X1,Nat.reduceEqDiff,Int.reduceEq,Nat.reduceAdd,Nat.reduceSub,X2,Hp_ne,Nat.reduceLeDiff,a3,h]
  exact ⟨_,_,by omega,s2,rfl⟩
end Go.Proofs.Ytbgkimkbngocjaa.Ax
set_option linter.unusedVariables false
set_option linter.unusedSimpArgs false
namespace Go.Proofs.Ytbgkimkbngocjaa.Ax
open Go
theorem k61 (a b c : Int) (H : Hp) (n : Nat) : Call Try.prog 61 [.int .i64 a,.int .i64 b,.int .i64 c] H n = some (.bool (decide (b ≤ a ∧ a ≤ c)),H,n + 10):=by
 rw [c61]; unfold S61
 by_cases h1 : b ≤ a <;> simp [argsT_at,put_at,i_geq,i_leq,gsel_true,pickV_bool,h1]
theorem k56 (a b c : Int) (H : Hp) (n : Nat) : Call Try.prog 56 [.int .i64 a,.int .i64 b,.int .i64 c] H n = some (.bool (decide (b ≤ a ∧ a ≤ c)),H,n + 10):=by
 rw [c56]; unfold S56
 by_cases h1 : b ≤ a <;> simp [argsT_at,put_at,i_geq,i_leq,gsel_true,pickV_bool,h1]
def nameByte (a : Int) : Bool:=decide (97 ≤ a ∧ a ≤ 122) || (decide (a = 43) || (decide (a = 45) || (decide (a = 42) || (decide (a = 60) || (decide (a = 61) || (decide (a = 63) || (decide (a = 33) || decide (a = 47))))))))
theorem k100 (a : Int) (H : Hp) (n : Nat) : Call Try.prog 100 [.int .u8 a] H n = some (.bool (nameByte a),H,n + 40):=by
 rw [c100]; unfold S100 nameByte
 by_cases h1 : 97 ≤ a
 ·by_cases h2 : a ≤ 122
  ·simp [argsT_at,put_at,i_geq,i_leq,i_eql,gsel_true,gsel_false,pickV_bool,h1,h2]
  ·by_cases e43 : a = 43
   ·simp [argsT_at,put_at,i_geq,i_leq,i_eql,gsel_true,gsel_false,pickV_bool,h1,h2,e43]
   ·by_cases e45 : a = 45
    ·simp [argsT_at,put_at,i_geq,i_leq,i_eql,gsel_true,gsel_false,pickV_bool,h1,h2,e43,e45]
    ·by_cases e42 : a = 42
     ·simp [argsT_at,put_at,i_geq,i_leq,i_eql,gsel_true,gsel_false,pickV_bool,h1,h2,e43,e45,e42]
     ·by_cases e60 : a = 60
      ·simp [argsT_at,put_at,i_geq,i_leq,i_eql,gsel_true,gsel_false,pickV_bool,h1,h2,e43,e45,e42,e60]
      ·by_cases e61 : a = 61
       ·simp [argsT_at,put_at,i_geq,i_leq,i_eql,gsel_true,gsel_false,pickV_bool,h1,h2,e43,e45,e42,e60,e61]
       ·by_cases e63 : a = 63
        ·simp [argsT_at,put_at,i_geq,i_leq,i_eql,gsel_true,gsel_false,pickV_bool,h1,h2,e43,e45,e42,e60,e61,e63]
        ·by_cases e33 : a = 33
         ·simp [argsT_at,put_at,i_geq,i_leq,i_eql,gsel_true,gsel_false,pickV_bool,h1,h2,e43,e45,e42,e60,e61,e63,e33]
         ·by_cases e47 : a = 47
          ·simp [argsT_at,put_at,i_geq,i_leq,i_eql,gsel_true,gsel_false,pickV_bool,h1,h2,e43,e45,e42,e60,e61,e63,e33,e47]
          ·simp [argsT_at,put_at,i_geq,i_leq,i_eql,gsel_true,gsel_false,pickV_bool,h1,h2,e43,e45,e42,e60,e61,e63,e33,e47]
 ·by_cases e43 : a = 43
  ·simp [argsT_at,put_at,i_geq,i_leq,i_eql,gsel_true,gsel_false,pickV_bool,h1,e43]
  ·by_cases e45 : a = 45
   ·simp [argsT_at,put_at,i_geq,i_leq,i_eql,gsel_true,gsel_false,pickV_bool,h1,e43,e45]
   ·by_cases e42 : a = 42
    ·simp [argsT_at,put_at,i_geq,i_leq,i_eql,gsel_true,gsel_false,pickV_bool,h1,e43,e45,e42]
    ·by_cases e60 : a = 60
     ·simp [argsT_at,put_at,i_geq,i_leq,i_eql,gsel_true,gsel_false,pickV_bool,h1,e43,e45,e42,e60]
     ·by_cases e61 : a = 61
      ·simp [argsT_at,put_at,i_geq,i_leq,i_eql,gsel_true,gsel_false,pickV_bool,h1,e43,e45,e42,e60,e61]
      ·by_cases e63 : a = 63
       ·simp [argsT_at,put_at,i_geq,i_leq,i_eql,gsel_true,gsel_false,pickV_bool,h1,e43,e45,e42,e60,e61,e63]
       ·by_cases e33 : a = 33
        ·simp [argsT_at,put_at,i_geq,i_leq,i_eql,gsel_true,gsel_false,pickV_bool,h1,e43,e45,e42,e60,e61,e63,e33]
        ·by_cases e47 : a = 47
         ·simp [argsT_at,put_at,i_geq,i_leq,i_eql,gsel_true,gsel_false,pickV_bool,h1,e43,e45,e42,e60,e61,e63,e33,e47]
         ·simp [argsT_at,put_at,i_geq,i_leq,i_eql,gsel_true,gsel_false,pickV_bool,h1,e43,e45,e42,e60,e61,e63,e33,e47]
theorem l125 {C : Calling} {H : Hp} {v : Value} {l : List Int} (hv : View H 1 v (bytesV l) l.length) (hl : l.length ≤ 1048576) (x : Int) : ∀ (d j : Nat) (t : Tm) (n : Nat),j + d = l.length → t 0 = v → t 1 = .int .u8 x → t 7 = .int .i64 l.length → t 8 = .int .i64 j →
  ∃ o,Loop (S125L0 C Loop) t H n = some o ∧ n ≤ o.n ∧ o.H = H ∧ ((o.e = .exit 0 ∧ x ∉ l.drop j) ∨ (o.e = .ret ∧ ∃ k : Nat,o.t 4 = .int .i64 k ∧ x ∈ l.drop j)):=by
 intro d
 induction d with
 | zero =>
  intro j t n hj h0 h1 h7 h8
  rw [Loop_eq]
  unfold S125L0
  have : ¬ (j : Int) < l.length:=by omega
  simp [h7,h8,i_lss,csel_bool,this,thenO]
  rw [List.drop_eq_nil_of_le (by omega)]; simp
 | succ d ih =>
  intro j t n hj h0 h1 h7 h8
  have hlt : j < l.length:=by omega
  obtain ⟨p,hp,hc,_⟩:=hv.idx (k:=.i64) (j:=(j : Int)) (by omega) (by omega)
  have hld:=hc (.int .u8 l[j]) rfl (by simp [hlt])
  rw [Loop_eq]
  unfold S125L0
  have hd : l.drop j = l[j] :: l.drop (j + 1):=(List.drop_eq_getElem_cons hlt)
  by_cases hx : x = l[j]
  ·simp [h0,h1,h7,h8,i_lss,i_eql,csel_bool,hlt,thenO,hp,hld,← hx,put_at]
   rw [hd,hx]
   exact ⟨⟨j,rfl⟩,List.mem_cons_self ..⟩
  ·have hw : IntKind.i64.wrap ((j : Int) + 1) = ((j + 1 : Nat) : Int):=by rw [w64 (by omega)]; omega
   simp only [h0,h1,h7,h8,i_lss,i_eql,i_add,csel_bool,hp,hld,Option.bind_some,hx,decide_false,Bool.false_eq_true,if_false,Int.ofNat_lt,hlt,decide_true,if_true,hw,thenO]
   obtain ⟨o,e1,e2,e3,e4⟩:=ih (j + 1) (put (put (put (put (put (put (put (put (put (put (put t 9 (.bool true)) 10 (.int .i64 j)) 5 (.int .i64 j)) 11 (.int .u8 x)) 12 v) 13 (.int .i64 j)) 14 p) 15 (.int .u8 l[j])) 16 (.bool false)) 18 (.int .i64 ((j + 1 : Nat) : Int))) 8 (.int .i64 ((j + 1 : Nat) : Int))) (n + 11) (by omega) (by simp [put_at,h0]) (by simp [put_at,h1]) (by simp [put_at,h7]) (by simp [put_at])
   refine ⟨o,e1,by omega,e3,?_⟩
   rw [hd]
   rcases e4 with ⟨e4,e5⟩ | ⟨e4,k,e5,e6⟩
   ·exact .inl ⟨e4,by simp only [List.mem_cons,not_or]; exact ⟨hx,e5⟩⟩
   ·exact .inr ⟨e4,k,e5,List.mem_cons_of_mem _ e6⟩
theorem k125 {H : Hp} {v : Value} {l : List Int} (hv : View H 1 v (bytesV l) l.length) (hl : l.length ≤ 1048576) (x : Int) (n : Nat) : ∃ (r : Int) (n' : Nat),n ≤ n' ∧ Call Try.prog 125 [v,.int .u8 x] H n = some (.int .i64 r,H,n') ∧ (0 ≤ r ↔ x ∈ l):=by
 rw [c125]; unfold S125
 simp only [argsT_at,List.getD_cons_zero,hv.len,Option.bind_some]
 obtain ⟨o,e1,e2,e3,e4⟩:=l125 (C:=Call Try.prog) hv hl x l.length 0 (put (put (put (put (argsT [v,.int .u8 x]) 4 (.int .i64 0)) 6 v) 7 (.int .i64 l.length)) 8 (.int .i64 0)) (n + 4) (by omega) (by simp [put_at,argsT_at]) (by simp [put_at,argsT_at]) (by simp [put_at]) (by simp [put_at])
 rw [e1]
 obtain ⟨oe,ot,oH,on⟩:=o
 simp only at e2 e3 e4
 subst e3
 rcases e4 with ⟨rfl,e4⟩ | ⟨rfl,k,e4,e5⟩
 ·refine ⟨-1,on + 1,by omega,?_,?_⟩
  ·simp [outOf,thenK]
  ·simpa using e4
 ·refine ⟨k,on,by omega,?_,?_⟩
  ·simp [outOf,thenK,e4]
  ·simp at e5; simp [e5]
theorem k119 {H : Hp} {v : Value} {l : List Int} (hv : View H 1 v (bytesV l) l.length) (hl : l.length ≤ 1048576) (x : Int) (n : Nat) : ∃ (n' : Nat),n ≤ n' ∧ Call Try.prog 119 [v,.int .u8 x] H n = some (.bool (decide (x ∈ l)),H,n'):=by
 rw [c119]; unfold S119
 obtain ⟨r,n',h1,h2,h3⟩:=k125 hv hl x (n + 6)
 refine ⟨n',by omega,?_⟩
 simp [argsT_at,h2,i_geq,h3]
theorem k98 (a : Int) (H : Hp) (n : Nat) : ∃ (H' : Hp) (n' : Nat),n ≤ n' ∧ Same n H H' ∧ Call Try.prog 98 [.int .u8 a] H n = some (.bool (nameByte a),H',n'):=by
 rw [c98]; unfold S98
 by_cases h1 : 97 ≤ a ∧ a ≤ 122
 ·refine ⟨H,n + 14,by omega,fun _ _ => rfl,?_⟩
  simp [argsT_at,put_at,i_geq,i_leq,gsel_true,gsel_false,pickV_bool,h1,nameByte]
 ·have hv : View (H.set (n + 8) (some (.row (bytesV [43,45,42,60,61,63,33,47]) 1 true))) 1 (sl (n + 8) 0 8) (bytesV [43,45,42,60,61,63,33,47]) 8:=View.new (e:=1) (rw:=true) (by simp [Hp.set]) rfl
  obtain ⟨n',e1,e2⟩:=k119 hv (by decide) a (n + 14)
  refine ⟨H.set (n + 8) (some (.row (bytesV [43,45,42,60,61,63,33,47]) 1 true)),n',by omega,fun i hi => by simp [Hp.set]; omega,?_⟩
  have hb : bsl (n + 8) 1 8 [.int .u8 0] [(0,1,.int .u8 43),(1,1,.int .u8 45),(2,1,.int .u8 42),(3,1,.int .u8 60),(4,1,.int .u8 61),(5,1,.int .u8 63),(6,1,.int .u8 33),(7,1,.int .u8 47)] H = some (sl (n + 8) 0 8,H.set (n + 8) (some (.row (bytesV [43,45,42,60,61,63,33,47]) 1 true))):=rfl
  have hm : conv .mark (n + 9) (sl (n + 8) 0 8) (H.set (n + 8) (some (.row (bytesV [43,45,42,60,61,63,33,47]) 1 true))) = some (sl (n + 8) 0 8,H.set (n + 8) (some (.row (bytesV [43,45,42,60,61,63,33,47]) 1 true))):=by simp [conv,Hp.set]
  have hn : nameByte a = decide (a ∈ [43,45,42,60,61,63,33,47]):=by
   unfold nameByte
   rw [decide_eq_false h1]
   simp
  rw [hn]
  by_cases h2 : 97 ≤ a
  ·have h3 : ¬ a ≤ 122:=fun h => h1 ⟨h2,h⟩
   simp only [argsT_at,put_at,i_geq,i_leq,gsel_true,gsel_false,pickV_bool,h2,h3,List.getD_cons_zero,Option.bind_some,decide_true,decide_false,if_true,Nat.reduceEqDiff,if_false,Bool.false_eq_true,hb,hm,e2]
  ·simp only [argsT_at,put_at,i_geq,i_leq,gsel_true,gsel_false,pickV_bool,h2,List.getD_cons_zero,Option.bind_some,decide_true,decide_false,if_true,Nat.reduceEqDiff,if_false,Bool.false_eq_true,hb,hm,e2]
def numsOf (s : ByteArray) : List Int:=s.data.toList.map fun b => (b.toNat : Int)
theorem numsOf_length (s : ByteArray) : (numsOf s).length = s.size:=by simp [numsOf]
theorem idx_nums {s : ByteArray} {k : IntKind} {j : Nat} (h1 : j < s.size) : idxS (.string s) (.int k j) = some (.int .u8 ((numsOf s)[j]'(by rw [numsOf_length]; exact h1))):=by
 have hd : j < s.data.toList.length:=by simpa using h1
 simp [idxS,h1,numsOf,hd]
theorem l60 (s : ByteArray) (hs : s.size ≤ 1048576) : ∀ (d j : Nat) (t : Tm) (H : Hp) (n : Nat),j + d = s.size → t 0 = .string s → t 3 = .int .i64 j →
  ∃ o,Loop (S60L0 (Call Try.prog) Loop) t H n = some o ∧ n ≤ o.n ∧ o.H = H ∧ ((o.e = .exit 0 ∧ o.t 0 = .string s ∧ ((numsOf s).drop j).all nameByte = true) ∨ (o.e = .ret ∧ o.t 2 = .bool false ∧ ((numsOf s).drop j).all nameByte = false)):=by
 intro d
 induction d with
 | zero =>
  intro j t H n hj h0 h3
  rw [Loop_eq]
  unfold S60L0
  have : ¬ (j : Int) < s.size:=by omega
  simp [h0,h3,len_str,i_lss,csel_bool,this,thenO,put_at]
  rw [List.drop_eq_nil_of_le (by rw [numsOf_length]; omega)]
  simp
 | succ d ih =>
  intro j t H n hj h0 h3
  have hlt : j < s.size:=by omega
  have hlt' : j < (numsOf s).length:=by rw [numsOf_length]; exact hlt
  have hd : (numsOf s).drop j = (numsOf s)[j] :: (numsOf s).drop (j + 1):=List.drop_eq_getElem_cons hlt'
  rw [Loop_eq]
  generalize hLL : Loop (S60L0 (Call Try.prog) Loop) = LL at ih ⊢
  unfold S60L0
  have hix:=idx_nums (k:=.i64) hlt
  cases hb : nameByte (numsOf s)[j] with
  | false =>
   simp [h0,h3,len_str,i_lss,csel_bool,hlt,thenO,hix,k100,un_not,hb,put_at]
   rw [hd]
   exact ⟨by omega,_,List.mem_cons_self ..,hb⟩
  | true =>
   have hw : IntKind.i64.wrap ((j : Int) + 1) = ((j + 1 : Nat) : Int):=by rw [w64 (by omega)]; omega
   simp only [h0,h3,len_str,i_lss,csel_bool,Int.ofNat_lt,hlt,decide_true,if_true,hix,k100,un_not,hb,i_add,Option.bind_some,Bool.not_true,Bool.false_eq_true,if_false,thenO,hw]
   generalize hT : put _ _ _ = T
   obtain ⟨o,e1,e2,e3,e4⟩:=ih (j + 1) T H (n + 9 + 40 + 3) (by omega) (by rw [← hT]; simp [put_at,h0]) (by rw [← hT]; simp [put_at])
   refine ⟨o,e1,by omega,e3,?_⟩
   rw [hd,List.all_cons,hb,Bool.true_and]
   exact e4
theorem k60 (s : ByteArray) (hs : s.size ≤ 1048576) (H : Hp) (n : Nat) : ∃ n',n ≤ n' ∧ Call Try.prog 60 [.string s] H n = some (.bool (decide (1 ≤ s.size ∧ s.size ≤ 12) && (numsOf s).all nameByte),H,n'):=by
 rw [c60]; unfold S60
 obtain ⟨⟨oe,ot,oH,on⟩,e1,e2,e3,e4⟩:=l60 s hs s.size 0 (put (put (argsT [.string s]) 2 (.bool false)) 3 (.int .i64 0)) H (n + 2) (by omega) (by simp [put_at,argsT_at]) (by simp [put_at])
 rw [e1]
 simp only at e2 e3 e4
 subst e3
 rw [List.drop_zero] at e4
 rcases e4 with ⟨rfl,e4,e5⟩ | ⟨rfl,e4,e5⟩
 ·refine ⟨on + 4 + 10,by omega,?_⟩
  have hz : ((1 : Int) ≤ s.size ∧ (s.size : Int) ≤ 12) = (1 ≤ s.size ∧ s.size ≤ 12):=by apply propext; omega
  simp only [outOf,thenK,if_true,e4,len_str,Option.bind_some,k61,hz,e5,Bool.and_true]
 ·refine ⟨on,by omega,?_⟩
  simp [outOf,thenK,e4,e5]
theorem l55 (s : ByteArray) (hs : s.size ≤ 1048576) : ∀ (d j : Nat) (t : Tm) (H : Hp) (n : Nat),j + d = s.size → t 0 = .string s → t 9 = .int .i64 s.size → t 10 = .int .i64 j →
  ∃ o,Loop (S55L0 (Call Try.prog) Loop) t H n = some o ∧ n ≤ o.n ∧ Same n H o.H ∧ ((o.e = .exit 0 ∧ ((numsOf s).drop j).all nameByte = true) ∨ (o.e = .ret ∧ o.t 2 = .bool false ∧ ((numsOf s).drop j).all nameByte = false)):=by
 intro d
 induction d with
 | zero =>
  intro j t H n hj h0 h9 h10
  rw [Loop_eq]
  unfold S55L0
  have : ¬ (j : Int) < s.size:=by omega
  simp [h9,h10,i_lss,csel_bool,this,thenO,put_at]
  refine ⟨Same.refl _ _,?_⟩
  rw [List.drop_eq_nil_of_le (by rw [numsOf_length]; omega)]
  simp
 | succ d ih =>
  intro j t H n hj h0 h9 h10
  have hlt : j < s.size:=by omega
  have hlt' : j < (numsOf s).length:=by rw [numsOf_length]; exact hlt
  have hd : (numsOf s).drop j = (numsOf s)[j] :: (numsOf s).drop (j + 1):=List.drop_eq_getElem_cons hlt'
  rw [Loop_eq]
  generalize hLL : Loop (S55L0 (Call Try.prog) Loop) = LL at ih ⊢
  unfold S55L0
  have hix:=idx_nums (k:=.i64) hlt
  obtain ⟨H1,n1,f1,f2,f3⟩:=k98 (numsOf s)[j] H (n + 8)
  cases hb : nameByte (numsOf s)[j] with
  | false =>
   rw [hb] at f3
   simp [h0,h9,h10,i_lss,csel_bool,hlt,thenO,hix,f3,un_not,put_at]
   rw [hd]
   exact ⟨by omega,f2.less (by omega),_,List.mem_cons_self ..,hb⟩
  | true =>
   rw [hb] at f3
   have hw : IntKind.i64.wrap ((j : Int) + 1) = ((j + 1 : Nat) : Int):=by rw [w64 (by omega)]; omega
   simp only [h0,h9,h10,i_lss,csel_bool,Int.ofNat_lt,hlt,decide_true,if_true,hix,f3,un_not,i_add,Option.bind_some,Bool.not_true,Bool.false_eq_true,if_false,thenO,hw]
   generalize hT : put _ _ _ = T
   obtain ⟨o,e1,e2,e3,e4⟩:=ih (j + 1) T H1 (n1 + 2) (by omega) (by rw [← hT]; simp [put_at,h0]) (by rw [← hT]; simp [put_at,h9]) (by rw [← hT]; simp [put_at])
   refine ⟨o,e1,by omega,(f2.less (by omega)).trans e3 (by omega),?_⟩
   rw [hd,List.all_cons,hb,Bool.true_and]
   exact e4
theorem k55 (s : ByteArray) (hs : s.size ≤ 1048576) (H : Hp) (n : Nat) : ∃ H' n',n ≤ n' ∧ Same n H H' ∧ Call Try.prog 55 [.string s] H n = some (.bool (decide (1 ≤ s.size ∧ s.size ≤ 12) && (numsOf s).all nameByte),H',n'):=by
 rw [c55]; unfold S55
 by_cases hz : 1 ≤ s.size ∧ s.size ≤ 12
 ·have hz' : (1 : Int) ≤ s.size ∧ (s.size : Int) ≤ 12:=by omega
  simp only [argsT_at,List.getD_cons_zero,len_str,Option.bind_some,k56,hz',and_self,decide_true,un_not,Bool.not_true,csel_bool,Bool.false_eq_true,if_false]
  obtain ⟨⟨oe,ot,oH,on⟩,e1,e2,e3,e4⟩:=l55 s hs s.size 0 (put (put (put (put (put (put (put (put (argsT [.string s]) 2 (.bool false)) 4 (.string s)) 5 (.int .i64 s.size)) 6 (.bool true)) 7 (.bool false)) 8 (.string s)) 9 (.int .i64 s.size)) 10 (.int .i64 0)) H (n + 5 + 10 + 3) (by omega) (by simp [put_at,argsT_at]) (by simp [put_at]) (by simp [put_at])
  rw [e1]
  simp only at e2 e3 e4
  rw [List.drop_zero] at e4
  rcases e4 with ⟨rfl,e5⟩ | ⟨rfl,e4,e5⟩
  ·refine ⟨oH,on + 1,by omega,e3.less (by omega),?_⟩
   simp [outOf,thenK,e5,hz]
  ·refine ⟨oH,on,by omega,e3.less (by omega),?_⟩
   simp [outOf,thenK,e4,e5]
 ·have hz' : ¬ ((1 : Int) ≤ s.size ∧ (s.size : Int) ≤ 12):=by omega
  refine ⟨H,n + 5 + 10 + 1,by omega,Same.refl _ _,?_⟩
  simp only [argsT_at,List.getD_cons_zero,len_str,Option.bind_some,k56,hz',decide_false,un_not,Bool.not_false,csel_bool,if_true,hz,Bool.false_and]
end Go.Proofs.Ytbgkimkbngocjaa.Ax
set_option linter.unusedVariables false
set_option linter.unusedSimpArgs false
namespace Go.Proofs.Ytbgkimkbngocjaa.Ax
open Go
def nameOk (s : ByteArray) : Bool:=decide (1 ≤ s.size ∧ s.size ≤ 12) && (numsOf s).all nameByte
def NodeOk (x : Nd) (m : Int) : Prop :=
 (x.k = 1 ∧ x.n = 0 ∧ x.s = ⟨#[]⟩ ∧ x.a = 0 ∧ x.b = 0) ∨
 (x.k = 2 ∧ (0 ≤ x.n ∧ x.n ≤ 1) ∧ x.s = ⟨#[]⟩ ∧ x.a = 0 ∧ x.b = 0) ∨
 (x.k = 3 ∧ (-1000000000 ≤ x.n ∧ x.n ≤ 1000000000) ∧ x.s = ⟨#[]⟩ ∧ x.a = 0 ∧ x.b = 0) ∨
 (x.k = 4 ∧ x.n = 0 ∧ nameOk x.s = true ∧ x.a = 0 ∧ x.b = 0) ∨
 (x.k = 5 ∧ x.n = 0 ∧ x.s = ⟨#[]⟩ ∧ (0 ≤ x.a ∧ x.a ≤ m - 1) ∧ (0 ≤ x.b ∧ x.b ≤ m - 1)) ∨
 (x.k = 6 ∧ (0 ≤ x.n ∧ x.n ≤ 1000000000) ∧ x.s = ⟨#[]⟩ ∧ (0 ≤ x.a ∧ x.a ≤ m - 1) ∧ x.b = 0) ∨
 (x.k = 7 ∧ x.n = 0 ∧ x.s = ⟨#[]⟩ ∧ (0 ≤ x.a ∧ x.a ≤ m - 1) ∧ x.b = 0) ∨
 (x.k = 8 ∧ (0 ≤ x.n ∧ x.n ≤ 99) ∧ x.s = ⟨#[]⟩ ∧ x.a = 0 ∧ x.b = 0) ∨
 (x.k = 9 ∧ (0 ≤ x.n ∧ x.n ≤ 1000000000) ∧ x.s = ⟨#[]⟩ ∧ x.a = 0 ∧ x.b = 0)
instance (x : Nd) (m : Int) : Decidable (NodeOk x m):=by unfold NodeOk; infer_instance
theorem k86 (x : Nd) (hx : x.s.size ≤ 1048576) (m : Int) (hm : 0 ≤ m ∧ m ≤ 1000000000) (H : Hp) (n : Nat) : Rt Try.prog 86 [.agg ⟨x.cells⟩,.int .i64 m] H n (.bool (decide (NodeOk x m))):=by
 apply Rt.of
 rw [c86]; unfold S86
 have hw : IntKind.i64.wrap (m - 1) = m - 1:=w64 (by omega)
 obtain ⟨xk,xn,xs,xa,xb⟩:=x
 simp only at hx
 have fin : ∀ (b : Bool) (H' : Hp) (n' : Nat),n ≤ n' → Same n H H' → b = decide (NodeOk ⟨xk,xn,xs,xa,xb⟩ m) → Wp (some (Value.bool b,H',n')) (fun q => n ≤ q.2.2 ∧ Same n H q.2.1 ∧ q.1 = .bool (decide (NodeOk ⟨xk,xn,xs,xa,xb⟩ m))):=by
  intro b H' n' h1 h2 h3
  exact Wp.pure ⟨h1,h2,by rw [h3]⟩
 by_cases e1 : xk = 1
 ·subst e1
  (repeat(first|((with_reducible first|apply Wp.gs|apply Wp.cs|apply Wp.cselX|apply Wp.askT|apply Wp.iteKT|apply Wp.ikb|apply Wp.askb|apply Wp.step);case h=>((try simp(disch:=omega)only[↓reduceIte,ask_true,↓X0,X1,Nat.reduceEqDiff,Int.reduceEq,Nat.reduceAdd,Nat.reduceSub,X2,Hp_ne,Nat.reduceLeDiff,Nd.cells,k56]);with_reducible first|done|exact rfl|exact bT|exact bF))|apply Wp.andS|apply Wp.orS|with_reducible apply Wp.gu|simp only[↓X3]|simp(disch:=decide)only[asks_nil,asks_in,asks_out,askB_nil,askB_in,askB_out]|with_reducible apply Wp.assoc))
  refine fin _ _ _ (by omega) (by (repeat (first | exact Same.refl _ _ | refine Same.set ?_ (by omega) _))) ?_
  rw [Bool.eq_iff_iff]; simp [NodeOk,nameOk]; try grind
 by_cases e2 : xk = 2
 ·subst e2
  (repeat(first|((with_reducible first|apply Wp.gs|apply Wp.cs|apply Wp.cselX|apply Wp.askT|apply Wp.iteKT|apply Wp.ikb|apply Wp.askb|apply Wp.step);case h=>((try simp(disch:=omega)only[↓reduceIte,ask_true,↓X0,X1,Nat.reduceEqDiff,Int.reduceEq,Nat.reduceAdd,Nat.reduceSub,X2,Hp_ne,Nat.reduceLeDiff,Nd.cells,k56]);with_reducible first|done|exact rfl|exact bT|exact bF))|apply Wp.andS|apply Wp.orS|with_reducible apply Wp.gu|simp only[↓X3]|simp(disch:=decide)only[asks_nil,asks_in,asks_out,askB_nil,askB_in,askB_out]|with_reducible apply Wp.assoc))
  refine fin _ _ _ (by omega) (by (repeat (first | exact Same.refl _ _ | refine Same.set ?_ (by omega) _))) ?_
  rw [Bool.eq_iff_iff]; simp [NodeOk,nameOk]; try grind
 by_cases e3 : xk = 3
 ·subst e3
  (repeat(first|((with_reducible first|apply Wp.gs|apply Wp.cs|apply Wp.cselX|apply Wp.askT|apply Wp.iteKT|apply Wp.ikb|apply Wp.askb|apply Wp.step);case h=>((try simp(disch:=omega)only[↓reduceIte,ask_true,↓X0,X1,Nat.reduceEqDiff,Int.reduceEq,Nat.reduceAdd,Nat.reduceSub,X2,Hp_ne,Nat.reduceLeDiff,Nd.cells,k56]);with_reducible first|done|exact rfl|exact bT|exact bF))|apply Wp.andS|apply Wp.orS|with_reducible apply Wp.gu|simp only[↓X3]|simp(disch:=decide)only[asks_nil,asks_in,asks_out,askB_nil,askB_in,askB_out]|with_reducible apply Wp.assoc))
  refine fin _ _ _ (by omega) (by (repeat (first | exact Same.refl _ _ | refine Same.set ?_ (by omega) _))) ?_
  rw [Bool.eq_iff_iff]; simp [NodeOk,nameOk]; try grind
 by_cases e4 : xk = 4
 ·subst e4
  obtain ⟨H1,n1,a1,a2,a3⟩:=k55 xs hx (H.set n (some (.row [.int .i64 4,.int .i64 xn,.string xs,.int .i64 xa,.int .i64 xb] 0 true))) (n + 30)
  have b0 : H1 n = some (.row [.int .i64 4,.int .i64 xn,.string xs,.int .i64 xa,.int .i64 xb] 0 true):=by rw [a2 n (by omega)]; exact Hp_same _ _ _
  (repeat(first|((with_reducible first|apply Wp.gs|apply Wp.cs|apply Wp.cselX|apply Wp.askT|apply Wp.iteKT|apply Wp.ikb|apply Wp.askb|apply Wp.step);case h=>((try simp(disch:=omega)only[↓reduceIte,ask_true,↓X0,X1,Nat.reduceEqDiff,Int.reduceEq,Nat.reduceAdd,Nat.reduceSub,X2,Hp_ne,Nat.reduceLeDiff,Nd.cells,k56,a3,b0]);with_reducible first|done|exact rfl|exact bT|exact bF))|apply Wp.andS|apply Wp.orS|with_reducible apply Wp.gu|simp only[↓X3]|simp(disch:=decide)only[asks_nil,asks_in,asks_out,askB_nil,askB_in,askB_out]|with_reducible apply Wp.assoc))
  refine fin _ _ _ ?_ (((Same.refl _ _).set (Nat.le_refl _) _).trans (a2.less (show n ≤ n + 30 by omega)) (Nat.le_refl _)) ?_
  ·omega
  rw [Bool.eq_iff_iff]; simp [NodeOk,nameOk]; try grind
 by_cases e5 : xk = 5
 ·subst e5
  (repeat(first|((with_reducible first|apply Wp.gs|apply Wp.cs|apply Wp.cselX|apply Wp.askT|apply Wp.iteKT|apply Wp.ikb|apply Wp.askb|apply Wp.step);case h=>((try simp(disch:=omega)only[↓reduceIte,ask_true,↓X0,X1,Nat.reduceEqDiff,Int.reduceEq,Nat.reduceAdd,Nat.reduceSub,X2,Hp_ne,Nat.reduceLeDiff,Nd.cells,k56,hw]);with_reducible first|done|exact rfl|exact bT|exact bF))|apply Wp.andS|apply Wp.orS|with_reducible apply Wp.gu|simp only[↓X3]|simp(disch:=decide)only[asks_nil,asks_in,asks_out,askB_nil,askB_in,askB_out]|with_reducible apply Wp.assoc))
  refine fin _ _ _ (by omega) (by (repeat (first | exact Same.refl _ _ | refine Same.set ?_ (by omega) _))) ?_
  rw [Bool.eq_iff_iff]; simp [NodeOk,nameOk]; try grind
 by_cases e6 : xk = 6
 ·subst e6
  (repeat(first|((with_reducible first|apply Wp.gs|apply Wp.cs|apply Wp.cselX|apply Wp.askT|apply Wp.iteKT|apply Wp.ikb|apply Wp.askb|apply Wp.step);case h=>((try simp(disch:=omega)only[↓reduceIte,ask_true,↓X0,X1,Nat.reduceEqDiff,Int.reduceEq,Nat.reduceAdd,Nat.reduceSub,X2,Hp_ne,Nat.reduceLeDiff,Nd.cells,k56,hw]);with_reducible first|done|exact rfl|exact bT|exact bF))|apply Wp.andS|apply Wp.orS|with_reducible apply Wp.gu|simp only[↓X3]|simp(disch:=decide)only[asks_nil,asks_in,asks_out,askB_nil,askB_in,askB_out]|with_reducible apply Wp.assoc))
  refine fin _ _ _ (by omega) (by (repeat (first | exact Same.refl _ _ | refine Same.set ?_ (by omega) _))) ?_
  rw [Bool.eq_iff_iff]; simp [NodeOk,nameOk]; try grind
 by_cases e7 : xk = 7
 ·subst e7
  (repeat(first|((with_reducible first|apply Wp.gs|apply Wp.cs|apply Wp.cselX|apply Wp.askT|apply Wp.iteKT|apply Wp.ikb|apply Wp.askb|apply Wp.step);case h=>((try simp(disch:=omega)only[↓reduceIte,ask_true,↓X0,X1,Nat.reduceEqDiff,Int.reduceEq,Nat.reduceAdd,Nat.reduceSub,X2,Hp_ne,Nat.reduceLeDiff,Nd.cells,k56,hw]);with_reducible first|done|exact rfl|exact bT|exact bF))|apply Wp.andS|apply Wp.orS|with_reducible apply Wp.gu|simp only[↓X3]|simp(disch:=decide)only[asks_nil,asks_in,asks_out,askB_nil,askB_in,askB_out]|with_reducible apply Wp.assoc))
  refine fin _ _ _ (by omega) (by (repeat (first | exact Same.refl _ _ | refine Same.set ?_ (by omega) _))) ?_
  rw [Bool.eq_iff_iff]; simp [NodeOk,nameOk]; try grind
 by_cases e8 : xk = 8
 ·subst e8
  (repeat(first|((with_reducible first|apply Wp.gs|apply Wp.cs|apply Wp.cselX|apply Wp.askT|apply Wp.iteKT|apply Wp.ikb|apply Wp.askb|apply Wp.step);case h=>((try simp(disch:=omega)only[↓reduceIte,ask_true,↓X0,X1,Nat.reduceEqDiff,Int.reduceEq,Nat.reduceAdd,Nat.reduceSub,X2,Hp_ne,Nat.reduceLeDiff,Nd.cells,k56]);with_reducible first|done|exact rfl|exact bT|exact bF))|apply Wp.andS|apply Wp.orS|with_reducible apply Wp.gu|simp only[↓X3]|simp(disch:=decide)only[asks_nil,asks_in,asks_out,askB_nil,askB_in,askB_out]|with_reducible apply Wp.assoc))
  refine fin _ _ _ (by omega) (by (repeat (first | exact Same.refl _ _ | refine Same.set ?_ (by omega) _))) ?_
  rw [Bool.eq_iff_iff]; simp [NodeOk,nameOk]; try grind
 by_cases e9 : xk = 9
 ·subst e9
  (repeat(first|((with_reducible first|apply Wp.gs|apply Wp.cs|apply Wp.cselX|apply Wp.askT|apply Wp.iteKT|apply Wp.ikb|apply Wp.askb|apply Wp.step);case h=>((try simp(disch:=omega)only[↓reduceIte,ask_true,↓X0,X1,Nat.reduceEqDiff,Int.reduceEq,Nat.reduceAdd,Nat.reduceSub,X2,Hp_ne,Nat.reduceLeDiff,Nd.cells,k56]);with_reducible first|done|exact rfl|exact bT|exact bF))|apply Wp.andS|apply Wp.orS|with_reducible apply Wp.gu|simp only[↓X3]|simp(disch:=decide)only[asks_nil,asks_in,asks_out,askB_nil,askB_in,askB_out]|with_reducible apply Wp.assoc))
  refine fin _ _ _ (by omega) (by (repeat (first | exact Same.refl _ _ | refine Same.set ?_ (by omega) _))) ?_
  rw [Bool.eq_iff_iff]; simp [NodeOk,nameOk]; try grind
 (repeat(first|((with_reducible first|apply Wp.gs|apply Wp.cs|apply Wp.cselX|apply Wp.askT|apply Wp.iteKT|apply Wp.ikb|apply Wp.askb|apply Wp.step);case h=>((try simp(disch:=omega)only[↓reduceIte,ask_true,↓X0,X1,Nat.reduceEqDiff,Int.reduceEq,Nat.reduceAdd,Nat.reduceSub,X2,Hp_ne,Nat.reduceLeDiff,Nd.cells,k56,e1,e2,e3,e4,e5,e6,e7,e8,e9]);with_reducible first|done|exact rfl|exact bT|exact bF))|apply Wp.andS|apply Wp.orS|with_reducible apply Wp.gu|simp only[↓X3]|simp(disch:=decide)only[asks_nil,asks_in,asks_out,askB_nil,askB_in,askB_out]|with_reducible apply Wp.assoc))
 refine fin _ _ _ (by omega) (by (repeat (first | exact Same.refl _ _ | refine Same.set ?_ (by omega) _))) ?_
 simp [NodeOk,e1,e2,e3,e4,e5,e6,e7,e8,e9]
theorem k93 (x : Nd) (hx : x.s.size ≤ 1048576) (m : Int) (hm : 0 ≤ m ∧ m ≤ 1000000000) (H : Hp) (n : Nat) : Rt Try.prog 93 [.agg ⟨x.cells⟩,.int .i64 m] H n (.bool (decide (NodeOk x m))):=by
 apply Rt.of
 rw [c93]; unfold S93
 have hw : IntKind.i64.wrap (m - 1) = m - 1:=w64 (by omega)
 obtain ⟨xk,xn,xs,xa,xb⟩:=x
 simp only at hx
 have fin : ∀ (b : Bool) (H' : Hp) (n' : Nat),n ≤ n' → Same n H H' → b = decide (NodeOk ⟨xk,xn,xs,xa,xb⟩ m) → Wp (some (Value.bool b,H',n')) (fun q => n ≤ q.2.2 ∧ Same n H q.2.1 ∧ q.1 = .bool (decide (NodeOk ⟨xk,xn,xs,xa,xb⟩ m))):=by
  intro b H' n' h1 h2 h3
  exact Wp.pure ⟨h1,h2,by rw [h3]⟩
 by_cases e1 : xk = 1
 ·subst e1
  (repeat(first|((with_reducible first|apply Wp.gs|apply Wp.cs|apply Wp.cselX|apply Wp.askT|apply Wp.iteKT|apply Wp.ikb|apply Wp.askb|apply Wp.step);case h=>((try simp(disch:=omega)only[↓reduceIte,ask_true,↓X0,X1,Nat.reduceEqDiff,Int.reduceEq,Nat.reduceAdd,Nat.reduceSub,X2,Hp_ne,Nat.reduceLeDiff,Nd.cells,k61,hw]);with_reducible first|done|exact rfl|exact bT|exact bF))|apply Wp.andS|apply Wp.orS|with_reducible apply Wp.gu|simp only[↓X3]|simp(disch:=decide)only[asks_nil,asks_in,asks_out,askB_nil,askB_in,askB_out]|with_reducible apply Wp.assoc))
  refine fin _ _ _ (by omega) (by (repeat (first | exact Same.refl _ _ | refine Same.set ?_ (by omega) _))) ?_
  rw [Bool.eq_iff_iff]; simp [NodeOk,nameOk]; try grind
 by_cases e2 : xk = 2
 ·subst e2
  by_cases c0 : 0 ≤ xn ∧ xn ≤ 1
  case neg =>
   (repeat(first|((with_reducible first|apply Wp.gs|apply Wp.cs|apply Wp.cselX|apply Wp.askT|apply Wp.iteKT|apply Wp.ikb|apply Wp.askb|apply Wp.step);case h=>((try simp(disch:=omega)only[↓reduceIte,ask_true,↓X0,X1,Nat.reduceEqDiff,Int.reduceEq,Nat.reduceAdd,Nat.reduceSub,X2,Hp_ne,Nat.reduceLeDiff,Nd.cells,k61,hw,c0]);with_reducible first|done|exact rfl|exact bT|exact bF))|apply Wp.andS|apply Wp.orS|with_reducible apply Wp.gu|simp only[↓X3]|simp(disch:=decide)only[asks_nil,asks_in,asks_out,askB_nil,askB_in,askB_out]|with_reducible apply Wp.assoc))
   refine fin _ _ _ (by omega) (by (repeat (first | exact Same.refl _ _ | refine Same.set ?_ (by omega) _))) ?_
   rw [Bool.eq_iff_iff]; simp [NodeOk,nameOk]; try grind
  (repeat(first|((with_reducible first|apply Wp.gs|apply Wp.cs|apply Wp.cselX|apply Wp.askT|apply Wp.iteKT|apply Wp.ikb|apply Wp.askb|apply Wp.step);case h=>((try simp(disch:=omega)only[↓reduceIte,ask_true,↓X0,X1,Nat.reduceEqDiff,Int.reduceEq,Nat.reduceAdd,Nat.reduceSub,X2,Hp_ne,Nat.reduceLeDiff,Nd.cells,k61,hw,c0,and_self]);with_reducible first|done|exact rfl|exact bT|exact bF))|apply Wp.andS|apply Wp.orS|with_reducible apply Wp.gu|simp only[↓X3]|simp(disch:=decide)only[asks_nil,asks_in,asks_out,askB_nil,askB_in,askB_out]|with_reducible apply Wp.assoc))
  refine fin _ _ _ (by omega) (by (repeat (first | exact Same.refl _ _ | refine Same.set ?_ (by omega) _))) ?_
  rw [Bool.eq_iff_iff]; simp [NodeOk,nameOk]; try grind
 by_cases e3 : xk = 3
 ·subst e3
  by_cases c0 : -1000000000 ≤ xn ∧ xn ≤ 1000000000
  case neg =>
   (repeat(first|((with_reducible first|apply Wp.gs|apply Wp.cs|apply Wp.cselX|apply Wp.askT|apply Wp.iteKT|apply Wp.ikb|apply Wp.askb|apply Wp.step);case h=>((try simp(disch:=omega)only[↓reduceIte,ask_true,↓X0,X1,Nat.reduceEqDiff,Int.reduceEq,Nat.reduceAdd,Nat.reduceSub,X2,Hp_ne,Nat.reduceLeDiff,Nd.cells,k61,hw,c0]);with_reducible first|done|exact rfl|exact bT|exact bF))|apply Wp.andS|apply Wp.orS|with_reducible apply Wp.gu|simp only[↓X3]|simp(disch:=decide)only[asks_nil,asks_in,asks_out,askB_nil,askB_in,askB_out]|with_reducible apply Wp.assoc))
   refine fin _ _ _ (by omega) (by (repeat (first | exact Same.refl _ _ | refine Same.set ?_ (by omega) _))) ?_
   rw [Bool.eq_iff_iff]; simp [NodeOk,nameOk]; try grind
  (repeat(first|((with_reducible first|apply Wp.gs|apply Wp.cs|apply Wp.cselX|apply Wp.askT|apply Wp.iteKT|apply Wp.ikb|apply Wp.askb|apply Wp.step);case h=>((try simp(disch:=omega)only[↓reduceIte,ask_true,↓X0,X1,Nat.reduceEqDiff,Int.reduceEq,Nat.reduceAdd,Nat.reduceSub,X2,Hp_ne,Nat.reduceLeDiff,Nd.cells,k61,hw,c0,and_self]);with_reducible first|done|exact rfl|exact bT|exact bF))|apply Wp.andS|apply Wp.orS|with_reducible apply Wp.gu|simp only[↓X3]|simp(disch:=decide)only[asks_nil,asks_in,asks_out,askB_nil,askB_in,askB_out]|with_reducible apply Wp.assoc))
  refine fin _ _ _ (by omega) (by (repeat (first | exact Same.refl _ _ | refine Same.set ?_ (by omega) _))) ?_
  rw [Bool.eq_iff_iff]; simp [NodeOk,nameOk]; try grind
 by_cases e4 : xk = 4
 ·subst e4
  obtain ⟨n1,a1,a3⟩:=k60 xs hx (H.set n (some (.row [.int .i64 4,.int .i64 xn,.string xs,.int .i64 xa,.int .i64 xb] 0 true))) (n + 8 + 10 + 6 + 10 + 21)
  by_cases c0 : (decide (1 ≤ xs.size ∧ xs.size ≤ 12) && (numsOf xs).all nameByte) = true
  ·rw [c0] at a3
   (repeat(first|((with_reducible first|apply Wp.gs|apply Wp.cs|apply Wp.cselX|apply Wp.askT|apply Wp.iteKT|apply Wp.ikb|apply Wp.askb|apply Wp.step);case h=>((try simp(disch:=omega)only[↓reduceIte,ask_true,↓X0,X1,Nat.reduceEqDiff,Int.reduceEq,Nat.reduceAdd,Nat.reduceSub,X2,Hp_ne,Nat.reduceLeDiff,Nd.cells,k61,hw,a3]);with_reducible first|done|exact rfl|exact bT|exact bF))|apply Wp.andS|apply Wp.orS|with_reducible apply Wp.gu|simp only[↓X3]|simp(disch:=decide)only[asks_nil,asks_in,asks_out,askB_nil,askB_in,askB_out]|with_reducible apply Wp.assoc))
   refine fin _ _ _ (by omega) (by (repeat (first | exact Same.refl _ _ | refine Same.set ?_ (by omega) _))) ?_
   rw [Bool.eq_iff_iff]; simp [NodeOk,nameOk] at c0 ⊢; try grind
  ·rw [Bool.not_eq_true] at c0; rw [c0] at a3
   (repeat(first|((with_reducible first|apply Wp.gs|apply Wp.cs|apply Wp.cselX|apply Wp.askT|apply Wp.iteKT|apply Wp.ikb|apply Wp.askb|apply Wp.step);case h=>((try simp(disch:=omega)only[↓reduceIte,ask_true,↓X0,X1,Nat.reduceEqDiff,Int.reduceEq,Nat.reduceAdd,Nat.reduceSub,X2,Hp_ne,Nat.reduceLeDiff,Nd.cells,k61,hw,a3]);with_reducible first|done|exact rfl|exact bT|exact bF))|apply Wp.andS|apply Wp.orS|with_reducible apply Wp.gu|simp only[↓X3]|simp(disch:=decide)only[asks_nil,asks_in,asks_out,askB_nil,askB_in,askB_out]|with_reducible apply Wp.assoc))
   refine fin _ _ _ (by omega) (by (repeat (first | exact Same.refl _ _ | refine Same.set ?_ (by omega) _))) ?_
   simp only [NodeOk,nameOk,c0]; simp
 by_cases e5 : xk = 5
 ·subst e5
  by_cases c0 : (0 ≤ xa ∧ xa ≤ m - 1) ∧ (0 ≤ xb ∧ xb ≤ m - 1)
  case neg =>
   (repeat(first|((with_reducible first|apply Wp.gs|apply Wp.cs|apply Wp.cselX|apply Wp.askT|apply Wp.iteKT|apply Wp.ikb|apply Wp.askb|apply Wp.step);case h=>((try simp(disch:=omega)only[↓reduceIte,ask_true,↓X0,X1,Nat.reduceEqDiff,Int.reduceEq,Nat.reduceAdd,Nat.reduceSub,X2,Hp_ne,Nat.reduceLeDiff,Nd.cells,k61,hw,show (decide (0 ≤ xa ∧ xa ≤ m - 1) && decide (0 ≤ xb ∧ xb ≤ m - 1)) = false by simp only [← Bool.decide_and]; exact decide_eq_false c0]);with_reducible first|done|exact rfl|exact bT|exact bF))|apply Wp.andS|apply Wp.orS|with_reducible apply Wp.gu|simp only[↓X3]|simp(disch:=decide)only[asks_nil,asks_in,asks_out,askB_nil,askB_in,askB_out]|with_reducible apply Wp.assoc))
   refine fin _ _ _ (by omega) (by (repeat (first | exact Same.refl _ _ | refine Same.set ?_ (by omega) _))) ?_
   rw [Bool.eq_iff_iff]; simp [NodeOk,nameOk]; try grind
  by_cases c1 : xn = 0
  case neg =>
   (repeat(first|((with_reducible first|apply Wp.gs|apply Wp.cs|apply Wp.cselX|apply Wp.askT|apply Wp.iteKT|apply Wp.ikb|apply Wp.askb|apply Wp.step);case h=>((try simp(disch:=omega)only[↓reduceIte,ask_true,↓X0,X1,Nat.reduceEqDiff,Int.reduceEq,Nat.reduceAdd,Nat.reduceSub,X2,Hp_ne,Nat.reduceLeDiff,Nd.cells,k61,hw,c0.1,c0.2,and_self,c1]);with_reducible first|done|exact rfl|exact bT|exact bF))|apply Wp.andS|apply Wp.orS|with_reducible apply Wp.gu|simp only[↓X3]|simp(disch:=decide)only[asks_nil,asks_in,asks_out,askB_nil,askB_in,askB_out]|with_reducible apply Wp.assoc))
   refine fin _ _ _ (by omega) (by (repeat (first | exact Same.refl _ _ | refine Same.set ?_ (by omega) _))) ?_
   rw [Bool.eq_iff_iff]; simp [NodeOk,nameOk]; try grind
  (repeat(first|((with_reducible first|apply Wp.gs|apply Wp.cs|apply Wp.cselX|apply Wp.askT|apply Wp.iteKT|apply Wp.ikb|apply Wp.askb|apply Wp.step);case h=>((try simp(disch:=omega)only[↓reduceIte,ask_true,↓X0,X1,Nat.reduceEqDiff,Int.reduceEq,Nat.reduceAdd,Nat.reduceSub,X2,Hp_ne,Nat.reduceLeDiff,Nd.cells,k61,hw,c0.1,c0.2,and_self,c1,and_self]);with_reducible first|done|exact rfl|exact bT|exact bF))|apply Wp.andS|apply Wp.orS|with_reducible apply Wp.gu|simp only[↓X3]|simp(disch:=decide)only[asks_nil,asks_in,asks_out,askB_nil,askB_in,askB_out]|with_reducible apply Wp.assoc))
  refine fin _ _ _ (by omega) (by (repeat (first | exact Same.refl _ _ | refine Same.set ?_ (by omega) _))) ?_
  rw [Bool.eq_iff_iff]; simp [NodeOk,nameOk]; try grind
 by_cases e6 : xk = 6
 ·subst e6
  by_cases c0 : 0 ≤ xa ∧ xa ≤ m - 1
  case neg =>
   (repeat(first|((with_reducible first|apply Wp.gs|apply Wp.cs|apply Wp.cselX|apply Wp.askT|apply Wp.iteKT|apply Wp.ikb|apply Wp.askb|apply Wp.step);case h=>((try simp(disch:=omega)only[↓reduceIte,ask_true,↓X0,X1,Nat.reduceEqDiff,Int.reduceEq,Nat.reduceAdd,Nat.reduceSub,X2,Hp_ne,Nat.reduceLeDiff,Nd.cells,k61,hw,c0]);with_reducible first|done|exact rfl|exact bT|exact bF))|apply Wp.andS|apply Wp.orS|with_reducible apply Wp.gu|simp only[↓X3]|simp(disch:=decide)only[asks_nil,asks_in,asks_out,askB_nil,askB_in,askB_out]|with_reducible apply Wp.assoc))
   refine fin _ _ _ (by omega) (by (repeat (first | exact Same.refl _ _ | refine Same.set ?_ (by omega) _))) ?_
   rw [Bool.eq_iff_iff]; simp [NodeOk,nameOk]; try grind
  by_cases c1 : 0 ≤ xn ∧ xn ≤ 1000000000
  case neg =>
   (repeat(first|((with_reducible first|apply Wp.gs|apply Wp.cs|apply Wp.cselX|apply Wp.askT|apply Wp.iteKT|apply Wp.ikb|apply Wp.askb|apply Wp.step);case h=>((try simp(disch:=omega)only[↓reduceIte,ask_true,↓X0,X1,Nat.reduceEqDiff,Int.reduceEq,Nat.reduceAdd,Nat.reduceSub,X2,Hp_ne,Nat.reduceLeDiff,Nd.cells,k61,hw,c0,and_self,c1]);with_reducible first|done|exact rfl|exact bT|exact bF))|apply Wp.andS|apply Wp.orS|with_reducible apply Wp.gu|simp only[↓X3]|simp(disch:=decide)only[asks_nil,asks_in,asks_out,askB_nil,askB_in,askB_out]|with_reducible apply Wp.assoc))
   refine fin _ _ _ (by omega) (by (repeat (first | exact Same.refl _ _ | refine Same.set ?_ (by omega) _))) ?_
   rw [Bool.eq_iff_iff]; simp [NodeOk,nameOk]; try grind
  by_cases c2 : xb = 0
  case neg =>
   (repeat(first|((with_reducible first|apply Wp.gs|apply Wp.cs|apply Wp.cselX|apply Wp.askT|apply Wp.iteKT|apply Wp.ikb|apply Wp.askb|apply Wp.step);case h=>((try simp(disch:=omega)only[↓reduceIte,ask_true,↓X0,X1,Nat.reduceEqDiff,Int.reduceEq,Nat.reduceAdd,Nat.reduceSub,X2,Hp_ne,Nat.reduceLeDiff,Nd.cells,k61,hw,c0,and_self,c1,and_self,c2]);with_reducible first|done|exact rfl|exact bT|exact bF))|apply Wp.andS|apply Wp.orS|with_reducible apply Wp.gu|simp only[↓X3]|simp(disch:=decide)only[asks_nil,asks_in,asks_out,askB_nil,askB_in,askB_out]|with_reducible apply Wp.assoc))
   refine fin _ _ _ (by omega) (by (repeat (first | exact Same.refl _ _ | refine Same.set ?_ (by omega) _))) ?_
   rw [Bool.eq_iff_iff]; simp [NodeOk,nameOk]; try grind
  (repeat(first|((with_reducible first|apply Wp.gs|apply Wp.cs|apply Wp.cselX|apply Wp.askT|apply Wp.iteKT|apply Wp.ikb|apply Wp.askb|apply Wp.step);case h=>((try simp(disch:=omega)only[↓reduceIte,ask_true,↓X0,X1,Nat.reduceEqDiff,Int.reduceEq,Nat.reduceAdd,Nat.reduceSub,X2,Hp_ne,Nat.reduceLeDiff,Nd.cells,k61,hw,c0,and_self,c1,and_self,c2,and_self]);with_reducible first|done|exact rfl|exact bT|exact bF))|apply Wp.andS|apply Wp.orS|with_reducible apply Wp.gu|simp only[↓X3]|simp(disch:=decide)only[asks_nil,asks_in,asks_out,askB_nil,askB_in,askB_out]|with_reducible apply Wp.assoc))
  refine fin _ _ _ (by omega) (by (repeat (first | exact Same.refl _ _ | refine Same.set ?_ (by omega) _))) ?_
  rw [Bool.eq_iff_iff]; simp [NodeOk,nameOk]; try grind
 by_cases e7 : xk = 7
 ·subst e7
  by_cases c0 : 0 ≤ xa ∧ xa ≤ m - 1
  case neg =>
   (repeat(first|((with_reducible first|apply Wp.gs|apply Wp.cs|apply Wp.cselX|apply Wp.askT|apply Wp.iteKT|apply Wp.ikb|apply Wp.askb|apply Wp.step);case h=>((try simp(disch:=omega)only[↓reduceIte,ask_true,↓X0,X1,Nat.reduceEqDiff,Int.reduceEq,Nat.reduceAdd,Nat.reduceSub,X2,Hp_ne,Nat.reduceLeDiff,Nd.cells,k61,hw,c0]);with_reducible first|done|exact rfl|exact bT|exact bF))|apply Wp.andS|apply Wp.orS|with_reducible apply Wp.gu|simp only[↓X3]|simp(disch:=decide)only[asks_nil,asks_in,asks_out,askB_nil,askB_in,askB_out]|with_reducible apply Wp.assoc))
   refine fin _ _ _ (by omega) (by (repeat (first | exact Same.refl _ _ | refine Same.set ?_ (by omega) _))) ?_
   rw [Bool.eq_iff_iff]; simp [NodeOk,nameOk]; try grind
  by_cases c1 : xn = 0
  case neg =>
   (repeat(first|((with_reducible first|apply Wp.gs|apply Wp.cs|apply Wp.cselX|apply Wp.askT|apply Wp.iteKT|apply Wp.ikb|apply Wp.askb|apply Wp.step);case h=>((try simp(disch:=omega)only[↓reduceIte,ask_true,↓X0,X1,Nat.reduceEqDiff,Int.reduceEq,Nat.reduceAdd,Nat.reduceSub,X2,Hp_ne,Nat.reduceLeDiff,Nd.cells,k61,hw,c0,and_self,c1]);with_reducible first|done|exact rfl|exact bT|exact bF))|apply Wp.andS|apply Wp.orS|with_reducible apply Wp.gu|simp only[↓X3]|simp(disch:=decide)only[asks_nil,asks_in,asks_out,askB_nil,askB_in,askB_out]|with_reducible apply Wp.assoc))
   refine fin _ _ _ (by omega) (by (repeat (first | exact Same.refl _ _ | refine Same.set ?_ (by omega) _))) ?_
   rw [Bool.eq_iff_iff]; simp [NodeOk,nameOk]; try grind
  by_cases c2 : xb = 0
  case neg =>
   (repeat(first|((with_reducible first|apply Wp.gs|apply Wp.cs|apply Wp.cselX|apply Wp.askT|apply Wp.iteKT|apply Wp.ikb|apply Wp.askb|apply Wp.step);case h=>((try simp(disch:=omega)only[↓reduceIte,ask_true,↓X0,X1,Nat.reduceEqDiff,Int.reduceEq,Nat.reduceAdd,Nat.reduceSub,X2,Hp_ne,Nat.reduceLeDiff,Nd.cells,k61,hw,c0,and_self,c1,and_self,c2]);with_reducible first|done|exact rfl|exact bT|exact bF))|apply Wp.andS|apply Wp.orS|with_reducible apply Wp.gu|simp only[↓X3]|simp(disch:=decide)only[asks_nil,asks_in,asks_out,askB_nil,askB_in,askB_out]|with_reducible apply Wp.assoc))
   refine fin _ _ _ (by omega) (by (repeat (first | exact Same.refl _ _ | refine Same.set ?_ (by omega) _))) ?_
   rw [Bool.eq_iff_iff]; simp [NodeOk,nameOk]; try grind
  (repeat(first|((with_reducible first|apply Wp.gs|apply Wp.cs|apply Wp.cselX|apply Wp.askT|apply Wp.iteKT|apply Wp.ikb|apply Wp.askb|apply Wp.step);case h=>((try simp(disch:=omega)only[↓reduceIte,ask_true,↓X0,X1,Nat.reduceEqDiff,Int.reduceEq,Nat.reduceAdd,Nat.reduceSub,X2,Hp_ne,Nat.reduceLeDiff,Nd.cells,k61,hw,c0,and_self,c1,and_self,c2,and_self]);with_reducible first|done|exact rfl|exact bT|exact bF))|apply Wp.andS|apply Wp.orS|with_reducible apply Wp.gu|simp only[↓X3]|simp(disch:=decide)only[asks_nil,asks_in,asks_out,askB_nil,askB_in,askB_out]|with_reducible apply Wp.assoc))
  refine fin _ _ _ (by omega) (by (repeat (first | exact Same.refl _ _ | refine Same.set ?_ (by omega) _))) ?_
  rw [Bool.eq_iff_iff]; simp [NodeOk,nameOk]; try grind
 by_cases e8 : xk = 8
 ·subst e8
  by_cases c0 : 0 ≤ xn ∧ xn ≤ 99
  case neg =>
   (repeat(first|((with_reducible first|apply Wp.gs|apply Wp.cs|apply Wp.cselX|apply Wp.askT|apply Wp.iteKT|apply Wp.ikb|apply Wp.askb|apply Wp.step);case h=>((try simp(disch:=omega)only[↓reduceIte,ask_true,↓X0,X1,Nat.reduceEqDiff,Int.reduceEq,Nat.reduceAdd,Nat.reduceSub,X2,Hp_ne,Nat.reduceLeDiff,Nd.cells,k61,hw,c0]);with_reducible first|done|exact rfl|exact bT|exact bF))|apply Wp.andS|apply Wp.orS|with_reducible apply Wp.gu|simp only[↓X3]|simp(disch:=decide)only[asks_nil,asks_in,asks_out,askB_nil,askB_in,askB_out]|with_reducible apply Wp.assoc))
   refine fin _ _ _ (by omega) (by (repeat (first | exact Same.refl _ _ | refine Same.set ?_ (by omega) _))) ?_
   rw [Bool.eq_iff_iff]; simp [NodeOk,nameOk]; try grind
  (repeat(first|((with_reducible first|apply Wp.gs|apply Wp.cs|apply Wp.cselX|apply Wp.askT|apply Wp.iteKT|apply Wp.ikb|apply Wp.askb|apply Wp.step);case h=>((try simp(disch:=omega)only[↓reduceIte,ask_true,↓X0,X1,Nat.reduceEqDiff,Int.reduceEq,Nat.reduceAdd,Nat.reduceSub,X2,Hp_ne,Nat.reduceLeDiff,Nd.cells,k61,hw,c0,and_self]);with_reducible first|done|exact rfl|exact bT|exact bF))|apply Wp.andS|apply Wp.orS|with_reducible apply Wp.gu|simp only[↓X3]|simp(disch:=decide)only[asks_nil,asks_in,asks_out,askB_nil,askB_in,askB_out]|with_reducible apply Wp.assoc))
  refine fin _ _ _ (by omega) (by (repeat (first | exact Same.refl _ _ | refine Same.set ?_ (by omega) _))) ?_
  rw [Bool.eq_iff_iff]; simp [NodeOk,nameOk]; try grind
 by_cases e9 : xk = 9
 ·subst e9
  by_cases c0 : 0 ≤ xn ∧ xn ≤ 1000000000
  case neg =>
   (repeat(first|((with_reducible first|apply Wp.gs|apply Wp.cs|apply Wp.cselX|apply Wp.askT|apply Wp.iteKT|apply Wp.ikb|apply Wp.askb|apply Wp.step);case h=>((try simp(disch:=omega)only[↓reduceIte,ask_true,↓X0,X1,Nat.reduceEqDiff,Int.reduceEq,Nat.reduceAdd,Nat.reduceSub,X2,Hp_ne,Nat.reduceLeDiff,Nd.cells,k61,hw,c0]);with_reducible first|done|exact rfl|exact bT|exact bF))|apply Wp.andS|apply Wp.orS|with_reducible apply Wp.gu|simp only[↓X3]|simp(disch:=decide)only[asks_nil,asks_in,asks_out,askB_nil,askB_in,askB_out]|with_reducible apply Wp.assoc))
   refine fin _ _ _ (by omega) (by (repeat (first | exact Same.refl _ _ | refine Same.set ?_ (by omega) _))) ?_
   rw [Bool.eq_iff_iff]; simp [NodeOk,nameOk]; try grind
  (repeat(first|((with_reducible first|apply Wp.gs|apply Wp.cs|apply Wp.cselX|apply Wp.askT|apply Wp.iteKT|apply Wp.ikb|apply Wp.askb|apply Wp.step);case h=>((try simp(disch:=omega)only[↓reduceIte,ask_true,↓X0,X1,Nat.reduceEqDiff,Int.reduceEq,Nat.reduceAdd,Nat.reduceSub,X2,Hp_ne,Nat.reduceLeDiff,Nd.cells,k61,hw,c0,and_self]);with_reducible first|done|exact rfl|exact bT|exact bF))|apply Wp.andS|apply Wp.orS|with_reducible apply Wp.gu|simp only[↓X3]|simp(disch:=decide)only[asks_nil,asks_in,asks_out,askB_nil,askB_in,askB_out]|with_reducible apply Wp.assoc))
  refine fin _ _ _ (by omega) (by (repeat (first | exact Same.refl _ _ | refine Same.set ?_ (by omega) _))) ?_
  rw [Bool.eq_iff_iff]; simp [NodeOk,nameOk]; try grind
 (repeat(first|((with_reducible first|apply Wp.gs|apply Wp.cs|apply Wp.cselX|apply Wp.askT|apply Wp.iteKT|apply Wp.ikb|apply Wp.askb|apply Wp.step);case h=>((try simp(disch:=omega)only[↓reduceIte,ask_true,↓X0,X1,Nat.reduceEqDiff,Int.reduceEq,Nat.reduceAdd,Nat.reduceSub,X2,Hp_ne,Nat.reduceLeDiff,Nd.cells,k61,hw,e1,e2,e3,e4,e5,e6,e7,e8,e9]);with_reducible first|done|exact rfl|exact bT|exact bF))|apply Wp.andS|apply Wp.orS|with_reducible apply Wp.gu|simp only[↓X3]|simp(disch:=decide)only[asks_nil,asks_in,asks_out,askB_nil,askB_in,askB_out]|with_reducible apply Wp.assoc))
 refine fin _ _ _ (by omega) (by (repeat (first | exact Same.refl _ _ | refine Same.set ?_ (by omega) _))) ?_
 simp [NodeOk,e1,e2,e3,e4,e5,e6,e7,e8,e9]
def NodesOk : List Nd → Nat → Prop
 | [],_ => True
 | x :: l,i => NodeOk x i ∧ NodesOk l (i + 1)
instance : ∀ (l : List Nd) (i : Nat),Decidable (NodesOk l i)
 | [],_ => isTrue trivial
 | x :: l,i => @instDecidableAnd _ _ _ (instDecidableNodesOk l (i + 1))
def PoolOk (l : List Nd) : Prop:=NodesOk l 0 ∧ l.length ≤ 3000
instance (l : List Nd) : Decidable (PoolOk l):=by unfold PoolOk; infer_instance
theorem NodesOk_app : ∀ (l m : List Nd) (i : Nat),NodesOk (l ++ m) i ↔ NodesOk l i ∧ NodesOk m (i + l.length)
 | [],m,i => by simp [NodesOk]
 | x :: l,m,i => by
  rw [List.cons_append,NodesOk,NodesOk,NodesOk_app l m (i + 1),List.length_cons,and_assoc,show i + 1 + l.length = i + (l.length + 1) by omega]
theorem l42 {n0 : Nat} {H0 : Hp} {v : Value} {l : List Nd} (hv : Li eNode n0 H0 v l) (hs : ∀ x ∈ l,x.s.size ≤ 1048576) (hl : l.length ≤ 1048576) : ∀ t H n,n0 ≤ n → Same n0 H0 H → t 6 = v → t 7 = .int .i64 l.length → t 8 = .int .i64 0 →
  Wp (Loop (S42L0 (Call Try.prog) Loop) t H n) (fun o => n ≤ o.n ∧ Same n H o.H ∧ ((o.e = .exit 0 ∧ o.t 1 = t 1 ∧ NodesOk l 0) ∨ (o.e = .ret ∧ o.t 2 = .bool false ∧ ¬ NodesOk l 0))):=by
 intro t H n hn0 hsm0 e6 e7 e8
 refine Loop_rule (fun d T H' n' => ∃ (j : Nat),j + d = l.length ∧ n ≤ n' ∧ Same n H H' ∧ T 1 = t 1 ∧ T 6 = v ∧ T 7 = .int .i64 l.length ∧ T 8 = .int .i64 j ∧ NodesOk (l.take j) 0) _ ?_ l.length t H n ⟨0,by omega,by omega,Same.refl _ _,rfl,e6,e7,e8,by simp [NodesOk]⟩
 rintro d T H' n' ⟨j,hj,hn,hsm,e1,e6,e7,e8,hok⟩
 unfold S42L0
 have hv':=hv.keep (hsm0.trans hsm hn0) (Nat.le_refl _)
 by_cases hlt : (j : Int) < l.length
 ·have hlt' : j < l.length:=by omega
  have g:=hv'.nAll (by omega) hlt
  have hw:=wj (j:=j) (len:=l.length) hlt' (by omega)
  obtain ⟨H1,n1,a1,a2,a3⟩:=k86 (gi l (j : Int)) (hs _ (gi_mem (by omega) hlt)) (j : Int) (by omega) (H'.set (n' + 4) (some (.row (gi l (j : Int)).cells 0 true))) (n' + 11)
  have s2 : Same n H H1:=(hsm.set (show n ≤ n' + 4 by omega) _).trans (a2.less (show n ≤ n' + 11 by omega)) (Nat.le_refl _)
  have hz : setAt [Value.int .i64 0,.int .i64 0,.string ⟨#[]⟩,.int .i64 0,.int .i64 0] 0 (gi l (j : Int)).cells = (gi l (j : Int)).cells:=rfl
  have hc : (gi l (j : Int)).cells.length = 5:=rfl
  have hd : (List.take 5 (List.drop 0 (gi l (j : Int)).cells)) = (gi l (j : Int)).cells:=rfl
  have hnx : NodesOk (l.take (j + 1)) 0 ↔ NodesOk (l.take j) 0 ∧ NodeOk (gi l (j : Int)) (j : Int):=by
   rw [take_next hlt',NodesOk_app,List.length_take,Nat.min_eq_left (by omega),Nat.zero_add,gi_nat hlt']
   simp [NodesOk]
  by_cases h : NodeOk (gi l (j : Int)) (j : Int)
  ·rw [decide_eq_true h] at a3
   (repeat(first|((with_reducible first|apply Wp.gs|apply Wp.cs|apply Wp.cselX|apply Wp.askT|apply Wp.iteKT|apply Wp.ikb|apply Wp.askb|apply Wp.step);case h=>((try simp(disch:=omega)only[↓reduceIte,ask_true,↓X0,X1,Nat.reduceEqDiff,Int.reduceEq,Nat.reduceAdd,Nat.reduceSub,e6,e7,e8,hlt,g,hw,st_agg,stv_set,hc,hz,ldA_set,hd,a3,Nat.reduceLeDiff,Hp_set_set,List.length_cons,List.length_nil]);with_reducible first|done|exact rfl|exact bT|exact bF))|apply Wp.andS|apply Wp.orS|with_reducible apply Wp.gu|simp only[↓X3]|simp(disch:=decide)only[asks_nil,asks_in,asks_out,askB_nil,askB_in,askB_out]|with_reducible apply Wp.assoc))
   exact Wp.pure (Nxt.go (d - 1) (by omega) ⟨j + 1,by omega,by omega,s2,by simp [put_at,e1],by simp [put_at,e6],by simp [put_at,e7],by simp [put_at],hnx.2 ⟨hok,h⟩⟩)
  ·rw [decide_eq_false h] at a3
   (repeat(first|((with_reducible first|apply Wp.gs|apply Wp.cs|apply Wp.cselX|apply Wp.askT|apply Wp.iteKT|apply Wp.ikb|apply Wp.askb|apply Wp.step);case h=>((try simp(disch:=omega)only[↓reduceIte,ask_true,↓X0,X1,Nat.reduceEqDiff,Int.reduceEq,Nat.reduceAdd,Nat.reduceSub,e6,e7,e8,hlt,g,hw,st_agg,stv_set,hc,hz,ldA_set,hd,a3,Nat.reduceLeDiff,Hp_set_set,List.length_cons,List.length_nil]);with_reducible first|done|exact rfl|exact bT|exact bF))|apply Wp.andS|apply Wp.orS|with_reducible apply Wp.gu|simp only[↓X3]|simp(disch:=decide)only[asks_nil,asks_in,asks_out,askB_nil,askB_in,askB_out]|with_reducible apply Wp.assoc))
   refine Wp.pure (Nxt.ret ⟨by simp only; omega,s2,.inr ⟨rfl,by simp [put_at],fun hn => ?_⟩⟩)
   have : NodesOk (l.take (j + 1)) 0:=by
    rw [← List.take_append_drop (j + 1) l,NodesOk_app] at hn
    exact hn.1
   exact h (hnx.1 this).2
 ·((repeat(first|((with_reducible first|apply Wp.gs|apply Wp.cs|apply Wp.cselX|apply Wp.askT|apply Wp.iteKT|apply Wp.ikb|apply Wp.askb|apply Wp.step);case h=>((try simp(disch:=omega)only[↓reduceIte,ask_true,↓X0,X1,Nat.reduceEqDiff,Int.reduceEq,Nat.reduceAdd,Nat.reduceSub,e6,e7,e8,hlt]);with_reducible first|done|exact rfl|exact bT|exact bF))|apply Wp.andS|apply Wp.orS|with_reducible apply Wp.gu|simp only[↓X3]|simp(disch:=decide)only[asks_nil,asks_in,asks_out,askB_nil,askB_in,askB_out]|with_reducible apply Wp.assoc));try(with_reducible apply Wp.cargs;case h=>((try simp(disch:=omega)only[↓reduceIte,ask_true,↓X0,X1,Nat.reduceEqDiff,Int.reduceEq,Nat.reduceAdd,Nat.reduceSub,e6,e7,e8,hlt]);with_reducible exact rfl)))
  rw [List.take_of_length_le (by omega)] at hok
  exact Wp.pure (Nxt.exit ⟨Nat.le_trans hn (Nat.le_add_right _ _),hsm,.inl ⟨rfl,by simp [put_at,e1],hok⟩⟩)
theorem k42 {n : Nat} {H : Hp} {v : Value} {l : List Nd} (hv : Li eNode n H v l) (hs : ∀ x ∈ l,x.s.size ≤ 1048576) (hl : l.length ≤ 1048576) : Rt Try.prog 42 [.agg ⟨[v]⟩] H n (.bool (decide (PoolOk l))):=by
 apply Rt.of
 rw [c42]; unfold S42
 have s1 : Same n H (H.set n (some (.row [v] 0 true))):=by (repeat (first | exact Same.refl _ _ | refine Same.set ?_ (by omega) _))
 (repeat(first|((with_reducible first|apply Wp.gs|apply Wp.cs|apply Wp.cselX|apply Wp.askT|apply Wp.iteKT|apply Wp.ikb|apply Wp.askb|apply Wp.step);case h=>((try simp(disch:=omega)only[↓reduceIte,ask_true,↓X0,X1,Nat.reduceEqDiff,Int.reduceEq,Nat.reduceAdd,Nat.reduceSub,X2,Hp_ne,Nat.reduceLeDiff,hv.len]);with_reducible first|done|exact rfl|exact bT|exact bF))|apply Wp.andS|apply Wp.orS|with_reducible apply Wp.gu|simp only[↓X3]|simp(disch:=decide)only[asks_nil,asks_in,asks_out,askB_nil,askB_in,askB_out]|with_reducible apply Wp.assoc))
 refine Wp.bind (l42 (n0:=n) (hv.keep s1 (Nat.le_refl _)) hs hl _ _ _ (by omega) (Same.refl _ _) (by simp [put_at]) (by simp [put_at]) (by simp [put_at])) ?_
 rintro ⟨oe,ot,oH,on⟩ ⟨f2,f3,f4⟩
 simp only at f2 f3 f4
 have hb : oH n = some (.row [v] 0 true):=by rw [f3 n (by omega)]; exact Hp_same _ _ _
 rcases f4 with ⟨rfl,f4,f5⟩ | ⟨rfl,f4,f5⟩
 ·have f4 : ot 1 = ptr n 0:=by rw [f4]; simp [put_at]
  (repeat(first|((with_reducible first|apply Wp.gs|apply Wp.cs|apply Wp.cselX|apply Wp.askT|apply Wp.iteKT|apply Wp.ikb|apply Wp.askb|apply Wp.step);case h=>((try simp(disch:=omega)only[↓reduceIte,ask_true,↓X0,X1,Nat.reduceEqDiff,Int.reduceEq,Nat.reduceAdd,Nat.reduceSub,outOf,f4,ld_r,hb,rowGet_row,hv.len]);with_reducible first|done|exact rfl|exact bT|exact bF))|apply Wp.andS|apply Wp.orS|with_reducible apply Wp.gu|simp only[↓X3]|simp(disch:=decide)only[asks_nil,asks_in,asks_out,askB_nil,askB_in,askB_out]|with_reducible apply Wp.assoc))
  refine Wp.pure ⟨by simp only; omega,s1.trans (f3.less (by omega)) (Nat.le_refl _),?_⟩
  have : decide (PoolOk l) = decide ((l.length : Int) ≤ 3000):=by
   by_cases hc : (l.length : Int) ≤ 3000
   ·rw [decide_eq_true hc]; exact decide_eq_true ⟨f5,by omega⟩
   ·rw [decide_eq_false hc]; exact decide_eq_false fun h => hc (by have:=h.2; omega)
  rw [this]
 ·(repeat(first|((with_reducible first|apply Wp.gs|apply Wp.cs|apply Wp.cselX|apply Wp.askT|apply Wp.iteKT|apply Wp.ikb|apply Wp.askb|apply Wp.step);case h=>((try simp(disch:=omega)only[↓reduceIte,ask_true,↓X0,X1,Nat.reduceEqDiff,Int.reduceEq,Nat.reduceAdd,Nat.reduceSub,f4]);with_reducible first|done|exact rfl|exact bT|exact bF))|apply Wp.andS|apply Wp.orS|with_reducible apply Wp.gu|simp only[↓X3]|simp(disch:=decide)only[asks_nil,asks_in,asks_out,askB_nil,askB_in,askB_out]|with_reducible apply Wp.assoc))
  exact Wp.pure ⟨by simp only; omega,s1.trans (f3.less (by omega)) (Nat.le_refl _),by show ot 2 = _; rw [f4,decide_eq_false fun h => f5 h.1]⟩
theorem l48 {n0 b : Nat} {H0 : Hp} {v : Value} {l : List Nd} (hv : Li eNode n0 H0 v l) (hs : ∀ x ∈ l,x.s.size ≤ 1048576) (hl : l.length ≤ 1048576) : ∀ t H n,n0 ≤ n → Same n0 H0 H → b < n → H b = some (.row [v] 0 true) → t 1 = ptr b 0 → t 3 = .int .i64 0 →
  Wp (Loop (S48L0 (Call Try.prog) Loop) t H n) (fun o => n ≤ o.n ∧ Same n H o.H ∧ ((o.e = .exit 0 ∧ o.t 1 = ptr b 0 ∧ NodesOk l 0) ∨ (o.e = .ret ∧ o.t 2 = .bool false ∧ ¬ NodesOk l 0))):=by
 intro t H n hn0 hsm0 hb hH e1 e3
 refine Loop_rule (fun d T H' n' => ∃ (j : Nat),j + d = l.length ∧ n ≤ n' ∧ Same n H H' ∧ T 1 = ptr b 0 ∧ T 3 = .int .i64 j ∧ NodesOk (l.take j) 0) _ ?_ l.length t H n ⟨0,by omega,by omega,Same.refl _ _,e1,e3,by simp [NodesOk]⟩
 rintro d T H' n' ⟨j,hj,hn,hsm,e1,e3,hok⟩
 unfold S48L0
 have hv':=hv.keep (hsm0.trans hsm hn0) (Nat.le_refl _)
 have hb' : H' b = some (.row [v] 0 true):=by rw [hsm b hb]; exact hH
 by_cases hlt : (j : Int) < l.length
 ·have hlt' : j < l.length:=by omega
  have g:=hv'.nAll (by omega) hlt
  have hw:=wj (j:=j) (len:=l.length) hlt' (by omega)
  obtain ⟨H1,n1,a1,a2,a3⟩:=k93 (gi l (j : Int)) (hs _ (gi_mem (by omega) hlt)) (j : Int) (by omega) H' (n' + 13)
  have s2 : Same n H H1:=hsm.trans (a2.less (show n ≤ n' + 13 by omega)) (Nat.le_refl _)
  have hnx : NodesOk (l.take (j + 1)) 0 ↔ NodesOk (l.take j) 0 ∧ NodeOk (gi l (j : Int)) (j : Int):=by
   rw [take_next hlt',NodesOk_app,List.length_take,Nat.min_eq_left (by omega),Nat.zero_add,gi_nat hlt']
   simp [NodesOk]
  by_cases h : NodeOk (gi l (j : Int)) (j : Int)
  ·rw [decide_eq_true h] at a3
   (repeat(first|((with_reducible first|apply Wp.gs|apply Wp.cs|apply Wp.cselX|apply Wp.askT|apply Wp.iteKT|apply Wp.ikb|apply Wp.askb|apply Wp.step);case h=>((try simp(disch:=omega)only[↓reduceIte,ask_true,↓X0,X1,Nat.reduceEqDiff,Int.reduceEq,Nat.reduceAdd,Nat.reduceSub,e1,e3,ld_r,hb',rowGet_row,hv'.len,hlt,g,hw,a3]);with_reducible first|done|exact rfl|exact bT|exact bF))|apply Wp.andS|apply Wp.orS|with_reducible apply Wp.gu|simp only[↓X3]|simp(disch:=decide)only[asks_nil,asks_in,asks_out,askB_nil,askB_in,askB_out]|with_reducible apply Wp.assoc))
   exact Wp.pure (Nxt.go (d - 1) (by omega) ⟨j + 1,by omega,by omega,s2,by simp [put_at,e1],by simp [put_at],hnx.2 ⟨hok,h⟩⟩)
  ·rw [decide_eq_false h] at a3
   (repeat(first|((with_reducible first|apply Wp.gs|apply Wp.cs|apply Wp.cselX|apply Wp.askT|apply Wp.iteKT|apply Wp.ikb|apply Wp.askb|apply Wp.step);case h=>((try simp(disch:=omega)only[↓reduceIte,ask_true,↓X0,X1,Nat.reduceEqDiff,Int.reduceEq,Nat.reduceAdd,Nat.reduceSub,e1,e3,ld_r,hb',rowGet_row,hv'.len,hlt,g,hw,a3]);with_reducible first|done|exact rfl|exact bT|exact bF))|apply Wp.andS|apply Wp.orS|with_reducible apply Wp.gu|simp only[↓X3]|simp(disch:=decide)only[asks_nil,asks_in,asks_out,askB_nil,askB_in,askB_out]|with_reducible apply Wp.assoc))
   refine Wp.pure (Nxt.ret ⟨by simp only; omega,s2,.inr ⟨rfl,by simp [put_at],fun hn => ?_⟩⟩)
   have : NodesOk (l.take (j + 1)) 0:=by
    rw [← List.take_append_drop (j + 1) l,NodesOk_app] at hn
    exact hn.1
   exact h (hnx.1 this).2
 ·((repeat(first|((with_reducible first|apply Wp.gs|apply Wp.cs|apply Wp.cselX|apply Wp.askT|apply Wp.iteKT|apply Wp.ikb|apply Wp.askb|apply Wp.step);case h=>((try simp(disch:=omega)only[↓reduceIte,ask_true,↓X0,X1,Nat.reduceEqDiff,Int.reduceEq,Nat.reduceAdd,Nat.reduceSub,e1,e3,ld_r,hb',rowGet_row,hv'.len,hlt]);with_reducible first|done|exact rfl|exact bT|exact bF))|apply Wp.andS|apply Wp.orS|with_reducible apply Wp.gu|simp only[↓X3]|simp(disch:=decide)only[asks_nil,asks_in,asks_out,askB_nil,askB_in,askB_out]|with_reducible apply Wp.assoc));try(with_reducible apply Wp.cargs;case h=>((try simp(disch:=omega)only[↓reduceIte,ask_true,↓X0,X1,Nat.reduceEqDiff,Int.reduceEq,Nat.reduceAdd,Nat.reduceSub,e1,e3,ld_r,hb',rowGet_row,hv'.len,hlt]);with_reducible exact rfl)))
  rw [List.take_of_length_le (by omega)] at hok
  exact Wp.pure (Nxt.exit ⟨Nat.le_trans hn (Nat.le_add_right _ _),hsm,.inl ⟨rfl,by simp [put_at,e1],hok⟩⟩)
theorem k48 {n : Nat} {H : Hp} {v : Value} {l : List Nd} (hv : Li eNode n H v l) (hs : ∀ x ∈ l,x.s.size ≤ 1048576) (hl : l.length ≤ 1048576) : Rt Try.prog 48 [.agg ⟨[v]⟩] H n (.bool (decide (PoolOk l))):=by
 apply Rt.of
 rw [c48]; unfold S48
 have s1 : Same n H (H.set n (some (.row [v] 0 true))):=by (repeat (first | exact Same.refl _ _ | refine Same.set ?_ (by omega) _))
 (repeat(first|((with_reducible first|apply Wp.gs|apply Wp.cs|apply Wp.cselX|apply Wp.askT|apply Wp.iteKT|apply Wp.ikb|apply Wp.askb|apply Wp.step);case h=>((try simp(disch:=omega)only[↓reduceIte,ask_true,↓X0,X1,Nat.reduceEqDiff,Int.reduceEq,Nat.reduceAdd,Nat.reduceSub,X2,Hp_ne,Nat.reduceLeDiff,hv.len]);with_reducible first|done|exact rfl|exact bT|exact bF))|apply Wp.andS|apply Wp.orS|with_reducible apply Wp.gu|simp only[↓X3]|simp(disch:=decide)only[asks_nil,asks_in,asks_out,askB_nil,askB_in,askB_out]|with_reducible apply Wp.assoc))
 refine Wp.bind (l48 (n0:=n) (b:=n) (hv.keep s1 (Nat.le_refl _)) hs hl _ _ _ (by omega) (Same.refl _ _) (by omega) (Hp_same _ _ _) (by simp [put_at]) (by simp [put_at])) ?_
 rintro ⟨oe,ot,oH,on⟩ ⟨f2,f3,f4⟩
 simp only at f2 f3 f4
 have hb : oH n = some (.row [v] 0 true):=by rw [f3 n (by omega)]; exact Hp_same _ _ _
 rcases f4 with ⟨rfl,f4,f5⟩ | ⟨rfl,f4,f5⟩
 ·(repeat(first|((with_reducible first|apply Wp.gs|apply Wp.cs|apply Wp.cselX|apply Wp.askT|apply Wp.iteKT|apply Wp.ikb|apply Wp.askb|apply Wp.step);case h=>((try simp(disch:=omega)only[↓reduceIte,ask_true,↓X0,X1,Nat.reduceEqDiff,Int.reduceEq,Nat.reduceAdd,Nat.reduceSub,f4,ld_r,hb,rowGet_row,hv.len]);with_reducible first|done|exact rfl|exact bT|exact bF))|apply Wp.andS|apply Wp.orS|with_reducible apply Wp.gu|simp only[↓X3]|simp(disch:=decide)only[asks_nil,asks_in,asks_out,askB_nil,askB_in,askB_out]|with_reducible apply Wp.assoc))
  refine Wp.pure ⟨by simp only; omega,s1.trans (f3.less (by omega)) (Nat.le_refl _),?_⟩
  have : decide (PoolOk l) = decide ((l.length : Int) ≤ 3000):=by
   by_cases hc : (l.length : Int) ≤ 3000
   ·rw [decide_eq_true hc]; exact decide_eq_true ⟨f5,by omega⟩
   ·rw [decide_eq_false hc]; exact decide_eq_false fun h => hc (by have:=h.2; omega)
  rw [this]
 ·(repeat(first|((with_reducible first|apply Wp.gs|apply Wp.cs|apply Wp.cselX|apply Wp.askT|apply Wp.iteKT|apply Wp.ikb|apply Wp.askb|apply Wp.step);case h=>((try simp(disch:=omega)only[↓reduceIte,ask_true,↓X0,X1,Nat.reduceEqDiff,Int.reduceEq,Nat.reduceAdd,Nat.reduceSub,f4]);with_reducible first|done|exact rfl|exact bT|exact bF))|apply Wp.andS|apply Wp.orS|with_reducible apply Wp.gu|simp only[↓X3]|simp(disch:=decide)only[asks_nil,asks_in,asks_out,askB_nil,askB_in,askB_out]|with_reducible apply Wp.assoc))
  exact Wp.pure ⟨by simp only; omega,s1.trans (f3.less (by omega)) (Nat.le_refl _),by show ot 2 = _; rw [f4,decide_eq_false fun h => f5 h.1]⟩
end Go.Proofs.Ytbgkimkbngocjaa.Ax
set_option linter.unusedVariables false
set_option linter.unusedSimpArgs false
namespace Go.Proofs.Ytbgkimkbngocjaa.Ax
open Go
theorem NodesOk_at : ∀ {l : List Nd} {i : Nat},NodesOk l i → ∀ {j : Nat},j < l.length → NodeOk (gi l (j : Int)) ((i + j : Nat) : Int)
 | x :: l,i,h,0,_ => h.1
 | x :: l,i,h,j + 1,hj => by
  have:=NodesOk_at h.2 (j:=j) (by simpa using hj)
  rw [show i + 1 + j = i + (j + 1) by omega] at this
  exact this
theorem PoolOk.at {l : List Nd} (h : PoolOk l) {v : Int} (h0 : 0 ≤ v) (h1 : v < l.length) : NodeOk (gi l v) v:=by
 obtain ⟨j,rfl⟩:=Int.eq_ofNat_of_zero_le h0
 have:=NodesOk_at h.1 (j:=j) (by omega)
 rw [Nat.zero_add] at this
 exact this
theorem NodeOk.pair {x : Nd} {m : Int} (h : NodeOk x m) (hk : x.k = 5) : (0 ≤ x.a ∧ x.a < m) ∧ (0 ≤ x.b ∧ x.b < m):=by
 rcases h with h | h | h | h | h | h | h | h | h <;> (obtain ⟨h1,h2⟩:=h; rw [hk] at h1; try (exact absurd h1 (by decide)))
 omega
theorem NodeOk.one {x : Nd} {m : Int} (h : NodeOk x m) (hk : x.k = 6 ∨ x.k = 7) : 0 ≤ x.a ∧ x.a < m:=by
 rcases h with h | h | h | h | h | h | h | h | h <;> obtain ⟨h1,h2⟩:=h <;> omega
theorem k49 {n : Nat} {H : Hp} {v : Value} {l : List Nd} (hv : Li eNode n H v l) (hl : l.length ≤ 1048576) (i : Int) : Rt Try.prog 49 [.agg ⟨[v]⟩,.int .i64 i] H n (.bool (decide (0 ≤ i ∧ i < l.length))):=by
 apply Rt.of
 rw [c49]; unfold S49
 have hw : IntKind.i64.wrap ((l.length : Int) - 1) = l.length - 1:=w64 (by omega)
 have he : (0 ≤ i ∧ i ≤ (l.length : Int) - 1) = (0 ≤ i ∧ i < (l.length : Int)):=propext (by omega)
 (repeat(first|((with_reducible first|apply Wp.gs|apply Wp.cs|apply Wp.cselX|apply Wp.askT|apply Wp.iteKT|apply Wp.ikb|apply Wp.askb|apply Wp.step);case h=>((try simp(disch:=omega)only[↓reduceIte,ask_true,↓X0,X1,Nat.reduceEqDiff,Int.reduceEq,Nat.reduceAdd,Nat.reduceSub,X2,Hp_ne,Nat.reduceLeDiff,hv.len,hw,k61,he]);with_reducible first|done|exact rfl|exact bT|exact bF))|apply Wp.andS|apply Wp.orS|with_reducible apply Wp.gu|simp only[↓X3]|simp(disch:=decide)only[asks_nil,asks_in,asks_out,askB_nil,askB_in,askB_out]|with_reducible apply Wp.assoc))
 exact Wp.pure ⟨by simp only; omega,by (repeat (first | exact Same.refl _ _ | refine Same.set ?_ (by omega) _)),rfl⟩
theorem k45 {n : Nat} {H : Hp} {v : Value} {l : List Nd} (hv : Li eNode n H v l) (hl : l.length ≤ 1048576) (i : Int) : Rt Try.prog 45 [.agg ⟨[v]⟩,.int .i64 i] H n (.bool (decide (0 ≤ i ∧ i < l.length))):=by
 apply Rt.of
 rw [c45]; unfold S45
 have hw : IntKind.i64.wrap ((l.length : Int) - 1) = l.length - 1:=w64 (by omega)
 have he : (0 ≤ i ∧ i ≤ (l.length : Int) - 1) = (0 ≤ i ∧ i < (l.length : Int)):=propext (by omega)
 (repeat(first|((with_reducible first|apply Wp.gs|apply Wp.cs|apply Wp.cselX|apply Wp.askT|apply Wp.iteKT|apply Wp.ikb|apply Wp.askb|apply Wp.step);case h=>((try simp(disch:=omega)only[↓reduceIte,ask_true,↓X0,X1,Nat.reduceEqDiff,Int.reduceEq,Nat.reduceAdd,Nat.reduceSub,X2,Hp_ne,Nat.reduceLeDiff,hv.len,hw,k56,he]);with_reducible first|done|exact rfl|exact bT|exact bF))|apply Wp.andS|apply Wp.orS|with_reducible apply Wp.gu|simp only[↓X3]|simp(disch:=decide)only[asks_nil,asks_in,asks_out,askB_nil,askB_in,askB_out]|with_reducible apply Wp.assoc))
 exact Wp.pure ⟨by simp only; omega,by (repeat (first | exact Same.refl _ _ | refine Same.set ?_ (by omega) _)),rfl⟩
def szStep (acc : List Int) (x : Nd) : Int :=
 let s:=if x.k = 5 then 1 + gi acc x.a + gi acc x.b else if x.k = 6 ∨ x.k = 7 then 1 + gi acc x.a else 1
 if s < 1000000000 then s else 1000000000
def sizes (l : List Nd) : List Int:=l.foldl (fun acc x => acc ++ [szStep acc x]) []
def sizeOf (l : List Nd) (v : Int) : Int:=if PoolOk l ∧ 0 ≤ v ∧ v < l.length then gi (sizes l) v else 0
end Go.Proofs.Ytbgkimkbngocjaa.Ax
set_option linter.unusedVariables false
set_option linter.unusedSimpArgs false
namespace Go.Proofs.Ytbgkimkbngocjaa.Ax
open Go
abbrev RtA (P : Program) (f : Nat) (args : List Value) (c id : Nat) (H : Hp) (n : Nat) (R : Value → Hp → Nat → Prop) : Prop:=∃ v H' n',n ≤ n' ∧ (∀ i,i < n → i ≠ c → i ≠ id → H' i = H i) ∧ Call P f args H n = some (v,H',n') ∧ R v H' n'
theorem Wp.rta {P : Program} {f : Nat} {args : List Value} {H : Hp} {n c id : Nat} {β : Type} {g : Value × Hp × Nat → Option β} {Q : β → Prop} {R : Value → Hp → Nat → Prop} (h : RtA P f args c id H n R) (k : ∀ v H' n',n ≤ n' → (∀ i,i < n → i ≠ c → i ≠ id → H' i = H i) → R v H' n' → Wp (g (v,H',n')) Q) : Wp ((Call P f args H n).bind g) Q:=by
 obtain ⟨v,H',n',h1,h2,h3,h4⟩:=h
 rw [h3]; exact k v H' n' h1 h2 h4
theorem RtA.of {P : Program} {f : Nat} {args : List Value} {c id : Nat} {H : Hp} {n : Nat} {R : Value → Hp → Nat → Prop} (h : Wp (Call P f args H n) fun q => n ≤ q.2.2 ∧ (∀ i,i < n → i ≠ c → i ≠ id → q.2.1 i = H i) ∧ R q.1 q.2.1 q.2.2) : RtA P f args c id H n R:=by
 obtain ⟨⟨v',H',n'⟩,h1,h2,h3,h4⟩:=h
 exact ⟨v',H',n',h2,h3,h1,h4⟩
theorem setAt_set {cs : List Value} {o : Nat} (v : Value) (h : o < cs.length) : setAt cs o [v] = cs.set o v:=by
 unfold setAt
 rw [List.set_eq_take_append_cons_drop,if_pos h]
 simp
theorem st_cset {H : Hp} {c o : Nat} {cs : List Value} {e : Nat} {v : Value} (h : H c = some (.row cs e true)) (ho : o < cs.length) (hv : cell1 v = true) : st false 1 (ptr c o) v H = some (H.set c (some (.row (cs.set o v) e true))):=by
 rw [st_c hv,stv_box h,setAt_set v ho]
 rw [if_pos (by simp; omega)]
structure PC (c o id n : Nat) (H : Hp) (cs : List Value) (e : Nat) (v : Value) (l : List Nd) : Prop where
 hc : H c = some (.row cs e true)
 ho : cs[o]? = some v
 at_ : At eNode id H v l
 cn : c < n
 idn : id < n
 ne : id ≠ c
theorem PC.mv {c o id n m : Nat} {H H' : Hp} {cs : List Value} {e : Nat} {v : Value} {l : List Nd} (h : PC c o id n H cs e v l) (hm : n ≤ m) (h1 : H' c = H c) (h2 : H' id = H id) : PC c o id m H' cs e v l :=
 ⟨by rw [h1]; exact h.hc,h.ho,h.at_.mv h2,by have:=h.cn; omega,by have:=h.idn; omega,h.ne⟩
theorem sub1 {m : Nat} (h : m ≤ 9000000000000000000) : IntKind.i64.wrap (((m + 1 : Nat) : Int) - 1) = (m : Int):=by rw [w64 (by omega)]; omega
theorem Li.nilOr {α : Type} {E : Enc α} {n : Nat} {H : Hp} {v : Value} {l : List α} (h : Li E n H v l) : (v = nilS ∧ l = []) ∨ ∃ a m c,v = .slice (some a) m c:=by
 obtain ⟨⟨_,⟨h0,rfl | ⟨i,o,q,c,rfl⟩⟩ | ⟨i,o,c,cs,e,rw,rfl,_⟩⟩,_⟩:=h
 ·exact .inl ⟨rfl,List.length_eq_zero_iff.1 h0⟩
 ·exact .inr ⟨_,_,_,rfl⟩
 ·exact .inr ⟨_,_,_,rfl⟩
theorem bsl_z5 (id : Nat) (H : Hp) : bsl id 5 0 [.int .i64 0,.int .i64 0,.string ⟨#[]⟩,.int .i64 0,.int .i64 0] [] H = some (sl id 0 0,H.set id (some (.row [] 5 true))):=bsl_zn _ _ _ _ rfl
theorem k88 {n : Nat} {H : Hp} {v : Value} {l : List Nd} (hv : Li eNode n H v l) (hl : l.length ≤ 10000000) : RtN Try.prog 88 [v] H n (fun r H' n' => New eNode n n' H' r l):=by
 apply RtN.mk
 rw [c88]; unfold S88
 rcases hv.nilOr with ⟨rfl,rfl⟩ | ⟨a,m,c,rfl⟩
 ·(repeat(first|((with_reducible first|apply Wp.gs|apply Wp.cs|apply Wp.cselX|apply Wp.askT|apply Wp.iteKT|apply Wp.ikb|apply Wp.askb|apply Wp.step);case h=>((try simp(disch:=omega)only[↓reduceIte,ask_true,↓X0,X1,Nat.reduceEqDiff,Int.reduceEq,Nat.reduceAdd,Nat.reduceSub,show binK .slice .eql nilS nilS = some (.bool true) from rfl]);with_reducible first|done|exact rfl|exact bT|exact bF))|apply Wp.andS|apply Wp.orS|with_reducible apply Wp.gu|simp only[↓X3]|simp(disch:=decide)only[asks_nil,asks_in,asks_out,askB_nil,askB_in,askB_out]|with_reducible apply Wp.assoc))
  exact Wp.pure ⟨by simp only; omega,fun _ _ => rfl,n,by omega,by simp only; omega,At.nil⟩
 ·((repeat(first|((with_reducible first|apply Wp.gs|apply Wp.cs|apply Wp.cselX|apply Wp.askT|apply Wp.iteKT|apply Wp.ikb|apply Wp.askb|apply Wp.step);case h=>((try simp(disch:=omega)only[↓reduceIte,ask_true,↓X0,X1,Nat.reduceEqDiff,Int.reduceEq,Nat.reduceAdd,Nat.reduceSub,show binK .slice .eql (.slice (some a) m c) nilS = some (.bool false) from rfl,bsl_z5]);with_reducible first|done|exact rfl|exact bT|exact bF))|apply Wp.andS|apply Wp.orS|with_reducible apply Wp.gu|simp only[↓X3]|simp(disch:=decide)only[asks_nil,asks_in,asks_out,askB_nil,askB_in,askB_out]|with_reducible apply Wp.assoc));try(with_reducible apply Wp.cargs;case h=>((try simp(disch:=omega)only[↓reduceIte,ask_true,↓X0,X1,Nat.reduceEqDiff,Int.reduceEq,Nat.reduceAdd,Nat.reduceSub,show binK .slice .eql (.slice (some a) m c) nilS = some (.bool false) from rfl,bsl_z5]);with_reducible exact rfl)))
  refine Wp.appL (E:=eNode) (l:=[]) (id:=n + 3) (.inr ⟨rfl,Hp_same _ _ _⟩) (hv.mv (m:=n) (by omega) (by intros;first|with_reducible rfl|simp(disch:=omega)only[Hp_ne,Hp_same])) (by decide) (by simp; omega) ?_
  intro v' H' a1 a2
  (repeat(first|((with_reducible first|apply Wp.gs|apply Wp.cs|apply Wp.cselX|apply Wp.askT|apply Wp.iteKT|apply Wp.ikb|apply Wp.askb|apply Wp.step);case h=>((try simp(disch:=omega)only[↓reduceIte,ask_true,↓X0,X1,Nat.reduceEqDiff,Int.reduceEq,Nat.reduceAdd,Nat.reduceSub]);with_reducible first|done|exact rfl|exact bT|exact bF))|apply Wp.andS|apply Wp.orS|with_reducible apply Wp.gu|simp only[↓X3]|simp(disch:=decide)only[asks_nil,asks_in,asks_out,askB_nil,askB_in,askB_out]|with_reducible apply Wp.assoc))
  refine Wp.pure ⟨by simp only; omega,?_,n + 5,by omega,by simp only; omega,by simpa using a1⟩
  intro i hi; simp (disch:=omega) only [a2,Hp_ne]
theorem Wp.bld1 {z : Value} {v : Value} {β : Type} {g : Value → Option β} {Q : β → Prop} (hv : cell1 v = true) (k : Wp (g (.agg ⟨[v]⟩)) Q) : Wp ((bld [z] [(0,1,v)]).bind g) Q:=by
 have : bld [z] [(0,1,v)] = some (.agg ⟨[v]⟩):=by
  simp [bld,fill,vcells1 hv,setAt]
 rw [this]; exact k
theorem k46 {n : Nat} {H : Hp} {v : Value} {l : List Nd} (hv : Li eNode n H v l) (hl : l.length ≤ 10000000) : RtN Try.prog 46 [.agg ⟨[v]⟩] H n (fun r H' n' => ∃ u,r = .agg ⟨[u]⟩ ∧ New eNode n n' H' u l):=by
 apply RtN.mk
 rw [c46]; unfold S46
 ((repeat(first|((with_reducible first|apply Wp.gs|apply Wp.cs|apply Wp.cselX|apply Wp.askT|apply Wp.iteKT|apply Wp.ikb|apply Wp.askb|apply Wp.step);case h=>((try simp(disch:=omega)only[↓reduceIte,ask_true,↓X0,X1,Nat.reduceEqDiff,Int.reduceEq,Nat.reduceAdd,Nat.reduceSub,X2,Hp_ne,Nat.reduceLeDiff]);with_reducible first|done|exact rfl|exact bT|exact bF))|apply Wp.andS|apply Wp.orS|with_reducible apply Wp.gu|simp only[↓X3]|simp(disch:=decide)only[asks_nil,asks_in,asks_out,askB_nil,askB_in,askB_out]|with_reducible apply Wp.assoc));try(with_reducible apply Wp.cargs;case h=>((try simp(disch:=omega)only[↓reduceIte,ask_true,↓X0,X1,Nat.reduceEqDiff,Int.reduceEq,Nat.reduceAdd,Nat.reduceSub,X2,Hp_ne,Nat.reduceLeDiff]);with_reducible exact rfl)))
 refine Wp.rtn (k88 (hv.mv (by omega) (by intros;first|with_reducible rfl|simp(disch:=omega)only[Hp_ne,Hp_same])) hl) ?_
 rintro u H1 n1 q1 s1 ⟨id,i1,i2,i3⟩
 refine Wp.bld1 i3.cell ?_
 (repeat(first|((with_reducible first|apply Wp.gs|apply Wp.cs|apply Wp.cselX|apply Wp.askT|apply Wp.iteKT|apply Wp.ikb|apply Wp.askb|apply Wp.step);case h=>((try simp(disch:=omega)only[↓reduceIte,ask_true,↓X0,X1,Nat.reduceEqDiff,Int.reduceEq,Nat.reduceAdd,Nat.reduceSub,X2,Hp_ne,Nat.reduceLeDiff,s1]);with_reducible first|done|exact rfl|exact bT|exact bF))|apply Wp.andS|apply Wp.orS|with_reducible apply Wp.gu|simp only[↓X3]|simp(disch:=decide)only[asks_nil,asks_in,asks_out,askB_nil,askB_in,askB_out]|with_reducible apply Wp.assoc))
 exact Wp.pure ⟨by simp only; omega,(by intros;first|with_reducible rfl|simp(disch:=omega)only[Hp_ne,Hp_same,s1]),u,rfl,id,by omega,by simp only; omega,i3.mv (by intros;first|with_reducible rfl|simp(disch:=omega)only[Hp_ne,Hp_same])⟩
theorem k50 {n : Nat} {H : Hp} {v : Value} {l : List Nd} (hv : Li eNode n H v l) (hl : l.length ≤ 10000000) : RtN Try.prog 50 [.agg ⟨[v]⟩] H n (fun r H' n' => ∃ u,r = .agg ⟨[u]⟩ ∧ New eNode n n' H' u l):=by
 apply RtN.mk
 rw [c50]; unfold S50
 ((repeat(first|((with_reducible first|apply Wp.gs|apply Wp.cs|apply Wp.cselX|apply Wp.askT|apply Wp.iteKT|apply Wp.ikb|apply Wp.askb|apply Wp.step);case h=>((try simp(disch:=omega)only[↓reduceIte,ask_true,↓X0,X1,Nat.reduceEqDiff,Int.reduceEq,Nat.reduceAdd,Nat.reduceSub,X2,Hp_ne,Nat.reduceLeDiff,bsl_z5]);with_reducible first|done|exact rfl|exact bT|exact bF))|apply Wp.andS|apply Wp.orS|with_reducible apply Wp.gu|simp only[↓X3]|simp(disch:=decide)only[asks_nil,asks_in,asks_out,askB_nil,askB_in,askB_out]|with_reducible apply Wp.assoc));try(with_reducible apply Wp.cargs;case h=>((try simp(disch:=omega)only[↓reduceIte,ask_true,↓X0,X1,Nat.reduceEqDiff,Int.reduceEq,Nat.reduceAdd,Nat.reduceSub,X2,Hp_ne,Nat.reduceLeDiff,bsl_z5]);with_reducible exact rfl)))
 refine Wp.appL (E:=eNode) (l:=[]) (id:=n + 2) (.inr ⟨rfl,Hp_same _ _ _⟩) (hv.mv (m:=n) (by omega) (by intros;first|with_reducible rfl|simp(disch:=omega)only[Hp_ne,Hp_same])) (by decide) (by simp; omega) ?_
 intro v' H' a1 a2
 refine Wp.bld1 a1.cell ?_
 (repeat(first|((with_reducible first|apply Wp.gs|apply Wp.cs|apply Wp.cselX|apply Wp.askT|apply Wp.iteKT|apply Wp.ikb|apply Wp.askb|apply Wp.step);case h=>((try simp(disch:=omega)only[↓reduceIte,ask_true,↓X0,X1,Nat.reduceEqDiff,Int.reduceEq,Nat.reduceAdd,Nat.reduceSub,X2,Hp_ne,Nat.reduceLeDiff,a2]);with_reducible first|done|exact rfl|exact bT|exact bF))|apply Wp.andS|apply Wp.orS|with_reducible apply Wp.gu|simp only[↓X3]|simp(disch:=decide)only[asks_nil,asks_in,asks_out,askB_nil,askB_in,askB_out]|with_reducible apply Wp.assoc))
 refine Wp.pure ⟨by simp only; omega,?_,v',rfl,n + 5,by omega,by simp only; omega,?_⟩
 ·intro i hi; simp (disch:=omega) only [a2,Hp_ne]
 ·simpa using a1.mv (H':=H'.set (n + 1) (some (.row [v'] 0 true))) (by rw [Hp_ne _ _ (by omega)])
end Go.Proofs.Ytbgkimkbngocjaa.Ax
set_option linter.unusedVariables false
set_option linter.unusedSimpArgs false
namespace Go.Proofs.Ytbgkimkbngocjaa.Ax
open Go
def chain (l : List Nd) : Nat → Int → List Int × Bool
 | 0,_ => ([],false)
 | f + 1,v => if (gi l v).k = 5 then ((gi l v).a :: (chain l f (gi l v).b).1,(chain l f (gi l v).b).2) else ([],decide ((gi l v).k = 1))
theorem chain_fuel {l : List Nd} (hp : PoolOk l) : ∀ (f g : Nat) (v : Int),0 ≤ v → v < l.length → v < f → v < g → chain l f v = chain l g v
 | 0,_,v,h0,_,hf,_ => by omega
 | _,0,v,h0,_,_,hg => by omega
 | f + 1,g + 1,v,h0,h1,hf,hg => by
  unfold chain
  by_cases hk : (gi l v).k = 5
  ·have:=(hp.at h0 h1).pair hk
   rw [if_pos hk,if_pos hk,chain_fuel hp f g _ this.2.1 (by omega) (by omega) (by omega)]
  ·rw [if_neg hk,if_neg hk]
def chainOf (l : List Nd) (v : Int) : List Int × Bool:=chain l (v.toNat + 1) v
theorem chainOf_eq {l : List Nd} (hp : PoolOk l) {v : Int} (h0 : 0 ≤ v) (h1 : v < l.length) : chainOf l v = if (gi l v).k = 5 then ((gi l v).a :: (chainOf l (gi l v).b).1,(chainOf l (gi l v).b).2) else ([],decide ((gi l v).k = 1)):=by
 unfold chainOf
 rw [chain]
 by_cases hk : (gi l v).k = 5
 ·have:=(hp.at h0 h1).pair hk
  rw [if_pos hk,if_pos hk,chain_fuel hp v.toNat ((gi l v).b.toNat + 1) _ this.2.1 (by omega) (by omega) (by omega)]
 ·rw [if_neg hk,if_neg hk]
theorem chain_len (l : List Nd) : ∀ (f : Nat) (v : Int),(chain l f v).1.length ≤ f
 | 0,v => by simp [chain]
 | f + 1,v => by
  unfold chain
  split
  ·simp only [List.length_cons]; have:=chain_len l f (gi l v).b; omega
  ·simp
theorem chainOf_len {l : List Nd} {v : Int} (h0 : 0 ≤ v) (h1 : v < l.length) : (chainOf l v).1.length ≤ l.length:=by
 have:=chain_len l (v.toNat + 1) v
 unfold chainOf; omega
theorem l89 {n0 b o : Nat} {H0 : Hp} {v : Value} {l : List Nd} {cs : List Value} {e : Nat} {rw_ : Bool} (hv : Li eNode n0 H0 v l) (hp : PoolOk l) (hbn : b < n0) (hb : H0 b = some (.row cs e rw_)) (ho : cs[o]? = some v) (w : Int) (h0 : 0 ≤ w) (h1 : w < l.length) : ∀ t H n id,n0 ≤ n → Same n0 H0 H → n0 ≤ id → id < n → t 0 = ptr b o → t 1 = .int .i64 w → t 6 = sl id 0 0 → H id = some (.row [] 1 true) →
  Wp (Loop (S89L0 (Call Try.prog) Loop) t H n) (fun out => n ≤ out.n ∧ Same n0 H0 out.H ∧ out.e = .exit 0 ∧ out.t 0 = ptr b o ∧ ∃ (u : Int) (id : Nat),0 ≤ u ∧ u < l.length ∧ out.t 1 = .int .i64 u ∧ (chainOf l w).2 = decide ((gi l u).k = 1) ∧ n0 ≤ id ∧ id < out.n ∧ At eInt id out.H (out.t 6) (chainOf l w).1):=by
 intro t H n id hn0 hsm0 hid hidn e0 e1 e6 hH
 have hl:=hp.2
 refine Loop_rule (fun d T H' n' => ∃ (u : Int) (id : Nat) (acc : List Int),0 ≤ u ∧ u < l.length ∧ d = u.toNat ∧ n ≤ n' ∧ Same n0 H0 H' ∧ T 0 = ptr b o ∧ T 1 = .int .i64 u ∧ n0 ≤ id ∧ id < n' ∧ At eInt id H' (T 6) acc ∧ (acc ++ (chainOf l u).1 = (chainOf l w).1) ∧ (chainOf l u).2 = (chainOf l w).2) _ ?_ w.toNat t H n ⟨w,id,[],h0,h1,rfl,by omega,hsm0,e0,e1,hid,hidn,by rw [e6]; exact .inr ⟨rfl,hH⟩,by simp,rfl⟩
 rintro d T H' n' ⟨u,id,acc,hu0,hu1,hd,hn,hsm,e0,e1,hid,hidn,hat,hc1,hc2⟩
 unfold S89L0
 have hv':=hv.keep hsm (Nat.le_refl _)
 have hb' : H' b = some (.row cs e rw_):=by rw [hsm b hbn]; exact hb
 have g:=hv'.nAll hu0 hu1
 have hce:=chainOf_eq hp hu0 hu1
 by_cases hk : (gi l u).k = 5
 ·have hpr:=(hp.at hu0 hu1).pair hk
  rw [if_pos hk] at hce
  rw [hce] at hc1 hc2
  simp only at hc1 hc2
  have hlen : acc.length ≤ 3000:=by
   have hle:=congrArg List.length hc1
   rw [List.length_append] at hle
   have:=chainOf_len h0 h1
   omega
  obtain ⟨H3,f1,f2,f3⟩:=app_one (id1:=n' + 18) (id2:=n' + 19) (bytes:=8) (gi l u).a hat (by omega) (by decide) (by omega)
  have hsm3 : Same n0 H0 H3:=fun i hi => by rw [f3 i (by omega) (by omega) (by omega),hsm i hi]
  have g3:=(hv.keep hsm3 (Nat.le_refl _)).nAll hu0 hu1
  have hb3 : H3 b = some (.row cs e rw_):=by rw [hsm3 b hbn]; exact hb
  (repeat(first|((with_reducible first|apply Wp.gs|apply Wp.cs|apply Wp.cselX|apply Wp.askT|apply Wp.iteKT|apply Wp.ikb|apply Wp.askb|apply Wp.step);case h=>((try simp(disch:=omega)only[↓reduceIte,ask_true,↓X0,X1,Nat.reduceEqDiff,Int.reduceEq,Nat.reduceAdd,Nat.reduceSub,e0,e1,Nat.add_zero,ld_r,hb',rowGet_row,ho,g,hk,bsl_one eInt (gi l u).a (n' + 18) [.int .i64 0] (.int .i64 (gi l u).a) H' rfl rfl (by decide),f1,hb3,g3]);with_reducible first|done|exact rfl|exact bT|exact bF))|apply Wp.andS|apply Wp.orS|with_reducible apply Wp.gu|simp only[↓X3]|simp(disch:=decide)only[asks_nil,asks_in,asks_out,askB_nil,askB_in,askB_out]|with_reducible apply Wp.assoc))
  exact Wp.pure (Nxt.go (gi l u).b.toNat (by omega) ⟨(gi l u).b,n' + 19,acc ++ [(gi l u).a],hpr.2.1,by omega,rfl,by omega,hsm3,by simp [put_at,e0],by simp [put_at],by omega,by omega,by simp only [put_at]; exact .inr ⟨rfl,f2⟩,by rw [List.append_assoc]; exact hc1,hc2⟩)
 ·rw [if_neg hk] at hce
  rw [hce] at hc1 hc2
  (repeat(first|((with_reducible first|apply Wp.gs|apply Wp.cs|apply Wp.cselX|apply Wp.askT|apply Wp.iteKT|apply Wp.ikb|apply Wp.askb|apply Wp.step);case h=>((try simp(disch:=omega)only[↓reduceIte,ask_true,↓X0,X1,Nat.reduceEqDiff,Int.reduceEq,Nat.reduceAdd,Nat.reduceSub,e0,e1,Nat.add_zero,ld_r,hb',rowGet_row,ho,g,hk]);with_reducible first|done|exact rfl|exact bT|exact bF))|apply Wp.andS|apply Wp.orS|with_reducible apply Wp.gu|simp only[↓X3]|simp(disch:=decide)only[asks_nil,asks_in,asks_out,askB_nil,askB_in,askB_out]|with_reducible apply Wp.assoc))
  refine Wp.pure (Nxt.exit ⟨Nat.le_trans hn (Nat.le_add_right _ _),hsm,rfl,by simp [put_at,e0],u,id,hu0,hu1,by simp [put_at,e1],hc2.symm,hid,Nat.lt_of_lt_of_le hidn (Nat.le_add_right _ _),?_⟩)
  rw [← hc1,List.append_nil]
  simpa [put_at] using hat
theorem k89 {n b o : Nat} {H : Hp} {v : Value} {l : List Nd} {cs : List Value} {e : Nat} {rw_ : Bool} (hv : Li eNode n H v l) (hp : PoolOk l) (hbn : b < n) (hb : H b = some (.row cs e rw_)) (ho : cs[o]? = some v) (w : Int) (h0 : 0 ≤ w) (h1 : w < l.length) : RtN Try.prog 89 [ptr b o,.int .i64 w] H n (fun r H' n' => ∃ u,r = .tuple ⟨[u,.bool (chainOf l w).2]⟩ ∧ New eInt n n' H' u (chainOf l w).1):=by
 apply RtN.of
 rw [c89]; unfold S89
 (repeat(first|((with_reducible first|apply Wp.gs|apply Wp.cs|apply Wp.cselX|apply Wp.askT|apply Wp.iteKT|apply Wp.ikb|apply Wp.askb|apply Wp.step);case h=>((try simp(disch:=omega)only[↓reduceIte,ask_true,↓X0,X1,Nat.reduceEqDiff,Int.reduceEq,Nat.reduceAdd,Nat.reduceSub,bsl_zero]);with_reducible first|done|exact rfl|exact bT|exact bF))|apply Wp.andS|apply Wp.orS|with_reducible apply Wp.gu|simp only[↓X3]|simp(disch:=decide)only[asks_nil,asks_in,asks_out,askB_nil,askB_in,askB_out]|with_reducible apply Wp.assoc))
 refine Wp.bind (l89 (n0:=n) (H0:=H) hv hp hbn hb ho w h0 h1 _ _ _ (n + 2) (by omega) ((Same.refl _ _).set (by omega) _) (by omega) (by omega) (by simp [put_at,argsT_at]) (by simp [put_at,argsT_at]) (by simp [put_at]) (Hp_same _ _ _)) ?_
 rintro ⟨oe,ot,oH,on⟩ ⟨f2,f3,f4,f5,u,id,f6,f7,f8,f9,f10,f11,f12⟩
 simp only at f2 f3 f4 f5 f6 f7 f8 f9 f10 f11 f12
 have g:=(hv.keep f3 (Nat.le_refl _)).nAll f6 f7
 have hb' : oH b = some (.row cs e rw_):=by rw [f3 b hbn]; exact hb
 have hnt : notTup (ot 6) = true:=by rcases f12 with ⟨h,_⟩ | ⟨h,_⟩ <;> rw [h] <;> rfl
 (repeat(first|((with_reducible first|apply Wp.gs|apply Wp.cs|apply Wp.cselX|apply Wp.askT|apply Wp.iteKT|apply Wp.ikb|apply Wp.askb|apply Wp.step);case h=>((try simp(disch:=omega)only[↓reduceIte,ask_true,↓X0,X1,Nat.reduceEqDiff,Int.reduceEq,Nat.reduceAdd,Nat.reduceSub,f5,f8,Nat.add_zero,ld_r,hb',rowGet_row,ho,g,hnt]);with_reducible first|done|exact rfl|exact bT|exact bF))|apply Wp.andS|apply Wp.orS|with_reducible apply Wp.gu|simp only[↓X3]|simp(disch:=decide)only[asks_nil,asks_in,asks_out,askB_nil,askB_in,askB_out]|with_reducible apply Wp.assoc))
 exact Wp.pure ⟨by simp only; omega,f3,ot 6,by rw [f9],id,f10,by simp only; omega,f12⟩
theorem l94 {n0 b : Nat} {H0 : Hp} {v : Value} {l : List Nd} {cs : List Value} {e : Nat} {rw_ : Bool} (hv : Li eNode n0 H0 v l) (hp : PoolOk l) (hbn : b < n0) (hb : H0 b = some (.row cs e rw_)) (ho : cs[0]? = some v) (w : Int) (h0 : 0 ≤ w) (h1 : w < l.length) : ∀ t H n id,n0 ≤ n → Same n0 H0 H → n0 ≤ id → id < n → t 2 = ptr b 0 → t 1 = .int .i64 w → t 6 = sl id 0 0 → H id = some (.row [] 1 true) →
  Wp (Loop (S94L0 (Call Try.prog) Loop) t H n) (fun out => n ≤ out.n ∧ Same n0 H0 out.H ∧ out.e = .exit 0 ∧ out.t 2 = ptr b 0 ∧ ∃ (u : Int) (id : Nat),0 ≤ u ∧ u < l.length ∧ out.t 1 = .int .i64 u ∧ (chainOf l w).2 = decide ((gi l u).k = 1) ∧ n0 ≤ id ∧ id < out.n ∧ At eInt id out.H (out.t 6) (chainOf l w).1):=by
 intro t H n id hn0 hsm0 hid hidn e0 e1 e6 hH
 have hl:=hp.2
 refine Loop_rule (fun d T H' n' => ∃ (u : Int) (id : Nat) (acc : List Int),0 ≤ u ∧ u < l.length ∧ d = u.toNat ∧ n ≤ n' ∧ Same n0 H0 H' ∧ T 2 = ptr b 0 ∧ T 1 = .int .i64 u ∧ n0 ≤ id ∧ id < n' ∧ At eInt id H' (T 6) acc ∧ (acc ++ (chainOf l u).1 = (chainOf l w).1) ∧ (chainOf l u).2 = (chainOf l w).2) _ ?_ w.toNat t H n ⟨w,id,[],h0,h1,rfl,by omega,hsm0,e0,e1,hid,hidn,by rw [e6]; exact .inr ⟨rfl,hH⟩,by simp,rfl⟩
 rintro d T H' n' ⟨u,id,acc,hu0,hu1,hd,hn,hsm,e0,e1,hid,hidn,hat,hc1,hc2⟩
 unfold S94L0
 have hv':=hv.keep hsm (Nat.le_refl _)
 have hb' : H' b = some (.row cs e rw_):=by rw [hsm b hbn]; exact hb
 have g:=hv'.nAll hu0 hu1
 have hce:=chainOf_eq hp hu0 hu1
 by_cases hk : (gi l u).k = 5
 ·have hpr:=(hp.at hu0 hu1).pair hk
  rw [if_pos hk] at hce
  rw [hce] at hc1 hc2
  simp only at hc1 hc2
  have hlen : acc.length ≤ 3000:=by
   have hle:=congrArg List.length hc1
   rw [List.length_append] at hle
   have:=chainOf_len h0 h1
   omega
  obtain ⟨H3,f1,f2,f3⟩:=app_one (id1:=n' + 14) (id2:=n' + 15) (bytes:=8) (gi l u).a hat (by omega) (by decide) (by omega)
  have hsm3 : Same n0 H0 H3:=fun i hi => by rw [f3 i (by omega) (by omega) (by omega),hsm i hi]
  have g3:=(hv.keep hsm3 (Nat.le_refl _)).nAll hu0 hu1
  have hb3 : H3 b = some (.row cs e rw_):=by rw [hsm3 b hbn]; exact hb
  (repeat(first|((with_reducible first|apply Wp.gs|apply Wp.cs|apply Wp.cselX|apply Wp.askT|apply Wp.iteKT|apply Wp.ikb|apply Wp.askb|apply Wp.step);case h=>((try simp(disch:=omega)only[↓reduceIte,ask_true,↓X0,X1,Nat.reduceEqDiff,Int.reduceEq,Nat.reduceAdd,Nat.reduceSub,e0,e1,Nat.add_zero,ld_r,hb',rowGet_row,ho,g,hk,bsl_one eInt (gi l u).a (n' + 14) [.int .i64 0] (.int .i64 (gi l u).a) H' rfl rfl (by decide),f1,hb3,g3]);with_reducible first|done|exact rfl|exact bT|exact bF))|apply Wp.andS|apply Wp.orS|with_reducible apply Wp.gu|simp only[↓X3]|simp(disch:=decide)only[asks_nil,asks_in,asks_out,askB_nil,askB_in,askB_out]|with_reducible apply Wp.assoc))
  exact Wp.pure (Nxt.go (gi l u).b.toNat (by omega) ⟨(gi l u).b,n' + 15,acc ++ [(gi l u).a],hpr.2.1,by omega,rfl,by omega,hsm3,by simp [put_at,e0],by simp [put_at],by omega,by omega,by simp only [put_at]; exact .inr ⟨rfl,f2⟩,by rw [List.append_assoc]; exact hc1,hc2⟩)
 ·rw [if_neg hk] at hce
  rw [hce] at hc1 hc2
  (repeat(first|((with_reducible first|apply Wp.gs|apply Wp.cs|apply Wp.cselX|apply Wp.askT|apply Wp.iteKT|apply Wp.ikb|apply Wp.askb|apply Wp.step);case h=>((try simp(disch:=omega)only[↓reduceIte,ask_true,↓X0,X1,Nat.reduceEqDiff,Int.reduceEq,Nat.reduceAdd,Nat.reduceSub,e0,e1,Nat.add_zero,ld_r,hb',rowGet_row,ho,g,hk]);with_reducible first|done|exact rfl|exact bT|exact bF))|apply Wp.andS|apply Wp.orS|with_reducible apply Wp.gu|simp only[↓X3]|simp(disch:=decide)only[asks_nil,asks_in,asks_out,askB_nil,askB_in,askB_out]|with_reducible apply Wp.assoc))
  refine Wp.pure (Nxt.exit ⟨Nat.le_trans hn (Nat.le_add_right _ _),hsm,rfl,by simp [put_at,e0],u,id,hu0,hu1,by simp [put_at,e1],hc2.symm,hid,Nat.lt_of_lt_of_le hidn (Nat.le_add_right _ _),?_⟩)
  rw [← hc1,List.append_nil]
  simpa [put_at] using hat
def listOf (l : List Nd) (w : Int) : List Int × Bool:=if (chainOf l w).2 = true then ((chainOf l w).1,true) else ([],false)
theorem k94 {n : Nat} {H : Hp} {v : Value} {l : List Nd} (hv : Li eNode n H v l) (hp : PoolOk l) (w : Int) (h0 : 0 ≤ w) (h1 : w < l.length) : RtN Try.prog 94 [.agg ⟨[v]⟩,.int .i64 w] H n (fun r H' n' => ∃ u,r = .tuple ⟨[u,.bool (listOf l w).2]⟩ ∧ New eInt n n' H' u (listOf l w).1):=by
 apply RtN.of
 rw [c94]; unfold S94
 have s1 : Same n H (H.set n (some (.row [v] 0 true))):=by (repeat (first | exact Same.refl _ _ | refine Same.set ?_ (by omega) _))
 (repeat(first|((with_reducible first|apply Wp.gs|apply Wp.cs|apply Wp.cselX|apply Wp.askT|apply Wp.iteKT|apply Wp.ikb|apply Wp.askb|apply Wp.step);case h=>((try simp(disch:=omega)only[↓reduceIte,ask_true,↓X0,X1,Nat.reduceEqDiff,Int.reduceEq,Nat.reduceAdd,Nat.reduceSub,X2,Hp_ne,Nat.reduceLeDiff,bsl_zero]);with_reducible first|done|exact rfl|exact bT|exact bF))|apply Wp.andS|apply Wp.orS|with_reducible apply Wp.gu|simp only[↓X3]|simp(disch:=decide)only[asks_nil,asks_in,asks_out,askB_nil,askB_in,askB_out]|with_reducible apply Wp.assoc))
 refine Wp.bind (l94 (n0:=n + 1) (b:=n) (H0:=H.set n (some (.row [v] 0 true))) ((hv.keep s1 (Nat.le_refl _)).up (by omega)) hp (by omega) (Hp_same _ _ _) rfl w h0 h1 _ _ _ (n + 3) (by omega) ((Same.refl _ _).set (by omega) _) (by omega) (by omega) (by simp [put_at]) (by simp [put_at,argsT_at]) (by simp [put_at]) (Hp_same _ _ _)) ?_
 rintro ⟨oe,ot,oH,on⟩ ⟨f2,f3,f4,f5,u,id,f6,f7,f8,f9,f10,f11,f12⟩
 simp only at f2 f3 f4 f5 f6 f7 f8 f9 f10 f11 f12
 have g:=((hv.keep s1 (Nat.le_refl _)).keep (f3.less (show n ≤ n + 1 by omega)) (Nat.le_refl _)).nAll f6 f7
 have hb' : oH n = some (.row [v] 0 true):=by rw [f3 n (by omega)]; exact Hp_same _ _ _
 have hnt : notTup (ot 6) = true:=by rcases f12 with ⟨h,_⟩ | ⟨h,_⟩ <;> rw [h] <;> rfl
 have s3 : Same n H oH:=s1.trans (f3.less (show n ≤ n + 1 by omega)) (Nat.le_refl _)
 unfold listOf
 by_cases hk : (gi l u).k = 1
 ·rw [decide_eq_true hk] at f9
  ((repeat(first|((with_reducible first|apply Wp.gs|apply Wp.cs|apply Wp.cselX|apply Wp.askT|apply Wp.iteKT|apply Wp.ikb|apply Wp.askb|apply Wp.step);case h=>((try simp(disch:=omega)only[↓reduceIte,ask_true,↓X0,X1,Nat.reduceEqDiff,Int.reduceEq,Nat.reduceAdd,Nat.reduceSub,X2,Hp_ne,Nat.reduceLeDiff,f5,f8,hb',g,hk,hnt]);with_reducible first|done|exact rfl|exact bT|exact bF))|apply Wp.andS|apply Wp.orS|with_reducible apply Wp.gu|simp only[↓X3]|simp(disch:=decide)only[asks_nil,asks_in,asks_out,askB_nil,askB_in,askB_out]|with_reducible apply Wp.assoc));try(with_reducible apply Wp.cargs;case h=>((try simp(disch:=omega)only[↓reduceIte,ask_true,↓X0,X1,Nat.reduceEqDiff,Int.reduceEq,Nat.reduceAdd,Nat.reduceSub,X2,Hp_ne,Nat.reduceLeDiff,f5,f8,hb',g,hk,hnt]);with_reducible exact rfl)))
  rw [f9]
  exact Wp.pure ⟨by simp only; omega,s3,ot 6,rfl,id,by omega,by simp only; omega,f12⟩
 ·rw [decide_eq_false hk] at f9
  ((repeat(first|((with_reducible first|apply Wp.gs|apply Wp.cs|apply Wp.cselX|apply Wp.askT|apply Wp.iteKT|apply Wp.ikb|apply Wp.askb|apply Wp.step);case h=>((try simp(disch:=omega)only[↓reduceIte,ask_true,↓X0,X1,Nat.reduceEqDiff,Int.reduceEq,Nat.reduceAdd,Nat.reduceSub,X2,Hp_ne,Nat.reduceLeDiff,f5,f8,hb',g,hk,bsl_zero]);with_reducible first|done|exact rfl|exact bT|exact bF))|apply Wp.andS|apply Wp.orS|with_reducible apply Wp.gu|simp only[↓X3]|simp(disch:=decide)only[asks_nil,asks_in,asks_out,askB_nil,askB_in,askB_out]|with_reducible apply Wp.assoc));try(with_reducible apply Wp.cargs;case h=>((try simp(disch:=omega)only[↓reduceIte,ask_true,↓X0,X1,Nat.reduceEqDiff,Int.reduceEq,Nat.reduceAdd,Nat.reduceSub,X2,Hp_ne,Nat.reduceLeDiff,f5,f8,hb',g,hk,bsl_zero]);with_reducible exact rfl)))
  rw [f9]
  exact Wp.pure ⟨by simp only; omega,s3.set (by omega) _,_,rfl,on + 7,by omega,by simp only; omega,.inr ⟨rfl,Hp_same _ _ _⟩⟩
end Go.Proofs.Ytbgkimkbngocjaa.Ax
set_option linter.unusedVariables false
set_option linter.unusedSimpArgs false
namespace Go.Proofs.Ytbgkimkbngocjaa.Ax
open Go
end Go.Proofs.Ytbgkimkbngocjaa.Ax
set_option linter.unusedVariables false
set_option linter.unusedSimpArgs false
namespace Go.Proofs.Ytbgkimkbngocjaa.Ax
open Go
def fIdx (s : ByteArray) : List ByteArray → Nat → Option Nat
 | [],_ => none
 | x :: l,j => if s = x then some j else fIdx s l (j + 1)
theorem l126 {n0 : Nat} {H : Hp} {v : Value} {l : List ByteArray} (s : ByteArray) (hv : Li eStr n0 H v l) (hl : l.length ≤ 1000000) : ∀ t n,t 0 = v → t 1 = .string s → t 7 = .int .i64 l.length → t 8 = .int .i64 0 →
  Wp (Loop (S126L0 (Call Try.prog) Loop) t H n) (fun o => n ≤ o.n ∧ o.H = H ∧ ((o.e = .exit 0 ∧ fIdx s l 0 = none) ∨ (o.e = .ret ∧ ∃ k : Nat,o.t 4 = .int .i64 k ∧ fIdx s l 0 = some k))):=by
 intro t n e0 e1 e7 e8
 refine Loop_rule (fun d t H' n' => ∃ j : Nat,j + d = l.length ∧ n ≤ n' ∧ H' = H ∧ t 0 = v ∧ t 1 = .string s ∧ t 7 = .int .i64 l.length ∧ t 8 = .int .i64 j ∧ fIdx s l 0 = fIdx s (l.drop j) j) _ ?_ l.length t H n ⟨0,by omega,by omega,rfl,e0,e1,e7,e8,rfl⟩
 rintro d t H' n' ⟨j,hj,hn,rfl,e0,e1,e7,e8,hf⟩
 unfold S126L0
 by_cases hlt : (j : Int) < l.length
 ·have hlt' : j < l.length:=by omega
  have g:=hv.tAll (by omega) hlt
  have hd : l.drop j = gi l (j : Int) :: l.drop (j + 1):=by rw [gi_nat hlt']; exact List.drop_eq_getElem_cons hlt'
  rw [hd,fIdx] at hf
  have hw:=wj (j:=j) (len:=l.length) hlt' (by omega)
  by_cases hs : s = gi l (j : Int)
  ·((repeat(first|((with_reducible first|apply Wp.gs|apply Wp.cs|apply Wp.cselX|apply Wp.askT|apply Wp.iteKT|apply Wp.ikb|apply Wp.askb|apply Wp.step);case h=>((try simp(disch:=omega)only[↓reduceIte,ask_true,↓X0,X1,Nat.reduceEqDiff,Int.reduceEq,Nat.reduceAdd,Nat.reduceSub,e0,e1,e7,e8,hlt,g,hs]);with_reducible first|done|exact rfl|exact bT|exact bF))|apply Wp.andS|apply Wp.orS|with_reducible apply Wp.gu|simp only[↓X3]|simp(disch:=decide)only[asks_nil,asks_in,asks_out,askB_nil,askB_in,askB_out]|with_reducible apply Wp.assoc));try(with_reducible apply Wp.cargs;case h=>((try simp(disch:=omega)only[↓reduceIte,ask_true,↓X0,X1,Nat.reduceEqDiff,Int.reduceEq,Nat.reduceAdd,Nat.reduceSub,e0,e1,e7,e8,hlt,g,hs]);with_reducible exact rfl)))
   rw [if_pos hs] at hf
   exact Wp.pure (Nxt.ret ⟨Nat.le_trans hn (Nat.le_add_right _ _),rfl,.inr ⟨rfl,j,by simp [put_at,e8],hf⟩⟩)
  ·((repeat(first|((with_reducible first|apply Wp.gs|apply Wp.cs|apply Wp.cselX|apply Wp.askT|apply Wp.iteKT|apply Wp.ikb|apply Wp.askb|apply Wp.step);case h=>((try simp(disch:=omega)only[↓reduceIte,ask_true,↓X0,X1,Nat.reduceEqDiff,Int.reduceEq,Nat.reduceAdd,Nat.reduceSub,e0,e1,e7,e8,hlt,g,hs,hw]);with_reducible first|done|exact rfl|exact bT|exact bF))|apply Wp.andS|apply Wp.orS|with_reducible apply Wp.gu|simp only[↓X3]|simp(disch:=decide)only[asks_nil,asks_in,asks_out,askB_nil,askB_in,askB_out]|with_reducible apply Wp.assoc));try(with_reducible apply Wp.cargs;case h=>((try simp(disch:=omega)only[↓reduceIte,ask_true,↓X0,X1,Nat.reduceEqDiff,Int.reduceEq,Nat.reduceAdd,Nat.reduceSub,e0,e1,e7,e8,hlt,g,hs,hw]);with_reducible exact rfl)))
   rw [if_neg hs] at hf
   exact Wp.pure (Nxt.go (d - 1) (by omega) ⟨j + 1,by omega,by omega,rfl,by simp [put_at,e0],by simp [put_at,e1],by simp [put_at,e7],by simp [put_at],hf⟩)
 ·((repeat(first|((with_reducible first|apply Wp.gs|apply Wp.cs|apply Wp.cselX|apply Wp.askT|apply Wp.iteKT|apply Wp.ikb|apply Wp.askb|apply Wp.step);case h=>((try simp(disch:=omega)only[↓reduceIte,ask_true,↓X0,X1,Nat.reduceEqDiff,Int.reduceEq,Nat.reduceAdd,Nat.reduceSub,e0,e1,e7,e8,hlt]);with_reducible first|done|exact rfl|exact bT|exact bF))|apply Wp.andS|apply Wp.orS|with_reducible apply Wp.gu|simp only[↓X3]|simp(disch:=decide)only[asks_nil,asks_in,asks_out,askB_nil,askB_in,askB_out]|with_reducible apply Wp.assoc));try(with_reducible apply Wp.cargs;case h=>((try simp(disch:=omega)only[↓reduceIte,ask_true,↓X0,X1,Nat.reduceEqDiff,Int.reduceEq,Nat.reduceAdd,Nat.reduceSub,e0,e1,e7,e8,hlt]);with_reducible exact rfl)))
  rw [List.drop_eq_nil_of_le (by omega)] at hf
  exact Wp.pure (Nxt.exit ⟨Nat.le_trans hn (Nat.le_add_right _ _),rfl,.inl ⟨rfl,hf⟩⟩)
theorem k126 {n : Nat} {H : Hp} {v : Value} {l : List ByteArray} (s : ByteArray) (hv : Li eStr n H v l) (hl : l.length ≤ 1000000) : ∃ n',n ≤ n' ∧ Call Try.prog 126 [v,.string s] H n = some (.int .i64 (match fIdx s l 0 with | none => -1 | some k => (k : Int)),H,n'):=by
 rw [c126]; unfold S126
 simp(disch:=omega)only[↓reduceIte,ask_true,↓X0,X1,Nat.reduceEqDiff,Int.reduceEq,Nat.reduceAdd,Nat.reduceSub,hv.len]
 generalize hT : put _ _ _ = T
 obtain ⟨⟨oe,ot,oH,on⟩,f1,f2,f3,f4⟩:=l126 s hv hl T (n + 4) (by rw [← hT]; simp [put_at,argsT_at]) (by rw [← hT]; simp [put_at,argsT_at]) (by rw [← hT]; simp [put_at]) (by rw [← hT]; simp [put_at])
 simp only at f2 f3 f4
 rw [f1]
 subst f3
 rcases f4 with ⟨rfl,f4⟩ | ⟨rfl,k,f4,f5⟩
 ·simp(disch:=omega)only[↓reduceIte,ask_true,↓X0,X1,Nat.reduceEqDiff,Int.reduceEq,Nat.reduceAdd,Nat.reduceSub,outOf,f4]
  exact ⟨_,by omega,rfl⟩
 ·simp(disch:=omega)only[↓reduceIte,ask_true,↓X0,X1,Nat.reduceEqDiff,Int.reduceEq,Nat.reduceAdd,Nat.reduceSub,outOf,f4,f5]
  exact ⟨_,by omega,rfl⟩
end Go.Proofs.Ytbgkimkbngocjaa.Ax
set_option linter.unusedVariables false
set_option linter.unusedSimpArgs false
namespace Go.Proofs.Ytbgkimkbngocjaa.Ax
open Go
structure CS where
 how : Int
 L : List Ins
 D : List Df
abbrev Env:=List (List ByteArray)
def insOf (op n i : Int) : Ins:=⟨op,n,i,⟨#[]⟩⟩
def cFail (h : Int) (s : CS) : CS:=if s.how = 0 then ⟨h,s.L,s.D⟩ else s
def cPut (x : Ins) (s : CS) : CS:=if s.how = 0 then (if s.L.length = 400 then ⟨3,s.L,s.D⟩ else ⟨0,s.L ++ [x],s.D⟩) else s
def setN (L : List Ins) (at_ : Nat) : List Ins:=L.set at_ ⟨(gi L (at_ : Int)).op,(L.length : Int),(gi L (at_ : Int)).i,(gi L (at_ : Int)).s⟩
def cTo (at_ : Nat) (s : CS) : CS:=if s.how = 0 then ⟨0,setN s.L at_,s.D⟩ else s
def wQuote : ByteArray:=⟨#[113,117,111,116,101]⟩
def wIf : ByteArray:=⟨#[105,102]⟩
def wFn : ByteArray:=⟨#[102,110]⟩
def wDo : ByteArray:=⟨#[100,111]⟩
def wLet : ByteArray:=⟨#[108,101,116]⟩
def wDefine : ByteArray:=⟨#[100,101,102,105,110,101]⟩
def wMain : ByteArray:=⟨#[109,97,105,110]⟩
def special (s : ByteArray) : Bool:=decide (s = wQuote ∨ s = wIf ∨ s = wFn ∨ s = wDo ∨ s = wLet ∨ s = wDefine)
def isVar (x : Nd) : Bool:=decide (x.k = 4) && !special x.s
def noDup (l : List ByteArray) : Bool:=(List.range l.length).all fun i => (fIdx (gi l (i : Int)) (l.take i) 0).isNone
def cNames (p : List Nd) (l : List Int) : List ByteArray × Int :=
 if (l.all fun v => isVar (gi p v)) = true ∧ l.length ≤ 4 then
  (if noDup (l.map fun v => (gi p v).s) = true then (l.map fun v => (gi p v).s,0) else ([],2))
 else ([],1)
def cVar (s : ByteArray) : Env → Nat → Option (Nat × Nat)
 | [],_ => none
 | f :: r,n => match fIdx s f 0 with
  | some i => some (n,i)
  | none => cVar s r (n + 1)
def varIns (s : ByteArray) (e : Env) : Ins:=match cVar s e 0 with
 | some (n,i) => insOf 2 n i
 | none => ⟨3,0,0,s⟩
abbrev CEx:=Int → Env → CS → CS
def cBody (E : CEx) (e : Env) : List Int → CS → CS
 | [],s => s
 | v :: r,s => r.foldl (fun s v => E v e (cPut (insOf 9 0 0) s)) (E v e s)
def cFun (E : CEx) (names : List ByteArray) (body : List Int) (e : Env) (s : CS) : CS :=
 let s1:=cPut (insOf 6 (s.L.length + 2) names.length) s
 let s2:=cPut (insOf 5 0 0) s1
 let s3:=cBody E (names :: e) body s2
 let s4:=cPut (insOf 8 0 0) s3
 cTo s1.L.length s4
def cIf (E : CEx) (l : List Int) (e : Env) (s : CS) : CS :=
 let s1:=E (gi l 1) e s
 let s2:=cPut (insOf 4 0 0) s1
 let s3:=E (gi l 2) e s2
 let s4:=cPut (insOf 5 0 0) s3
 let s5:=cTo s1.L.length s4
 let s6:=E (gi l 3) e s5
 cTo s3.L.length s6
def cFn (E : CEx) (p : List Nd) (params : List Int) (body : List Int) (e : Env) (s : CS) : CS :=
 if (cNames p params).2 = 0 then cFun E (cNames p params).1 body e s else cFail (cNames p params).2 s
def cForm (E : CEx) (p : List Nd) (w : ByteArray) (l : List Int) (e : Env) (s : CS) : CS :=
 if w = wQuote ∧ l.length = 2 then cPut (insOf 1 (gi l 1) 0) s
 else if w = wIf ∧ l.length = 4 then cIf E l e s
 else if w = wDo ∧ 1 < l.length then cBody E e (l.drop 1) s
 else if w = wFn ∧ 2 < l.length then (if (chainOf p (gi l 1)).2 = true then cFn E p (chainOf p (gi l 1)).1 (l.drop 2) e s else cFail 1 s)
 else if w = wLet ∧ 3 < l.length then
  (if (cNames p [gi l 1]).2 = 0 then cPut (insOf 7 0 1) (E (gi l 2) e (cFun E (cNames p [gi l 1]).1 (l.drop 3) e s)) else cFail (cNames p [gi l 1]).2 s)
 else cFail 1 s
def cExpr (p : List Nd) : Nat → CEx
 | 0,_,_,s => s
 | k + 1,v,e,s =>
  if s.how = 0 then
   if (gi p v).k = 1 ∨ (gi p v).k = 2 ∨ (gi p v).k = 3 then cPut (insOf 1 v 0) s
   else if (gi p v).k = 4 then (if special (gi p v).s = true then cFail 1 s else cPut (varIns (gi p v).s e) s)
   else if (gi p v).k = 5 ∧ (chainOf p v).2 = true then
    (if (gi p (gi (chainOf p v).1 0)).k = 4 ∧ special (gi p (gi (chainOf p v).1 0)).s = true then cForm (cExpr p k) p (gi p (gi (chainOf p v).1 0)).s (chainOf p v).1 e s
    else if 5 < (chainOf p v).1.length then cFail 1 s
    else cPut (insOf 7 0 ((chainOf p v).1.length - 1)) ((chainOf p v).1.foldl (fun s x => cExpr p k x e s) s))
   else cFail 1 s
  else s
def hasDef (name : ByteArray) (D : List Df) : Bool:=D.any fun d => decide (d.s = name)
def cDefine (E : CEx) (name : ByteArray) (params : List ByteArray) (body : List Int) (s : CS) : CS :=
 if hasDef name s.D = true then cFail 2 s
 else cPut (insOf 8 0 0) (cBody E [params] body ⟨s.how,s.L,s.D ++ [⟨name,s.L.length,params.length⟩]⟩)
def cDefn (E : CEx) (p : List Nd) (l : List Int) (s : CS) : CS :=
 if 2 < l.length ∧ (gi p (gi l 1)).k = 5 ∧ (chainOf p (gi l 1)).2 = true then
  (if isVar (gi p (gi (chainOf p (gi l 1)).1 0)) = true then
   (if (cNames p ((chainOf p (gi l 1)).1.drop 1)).2 = 0 then cDefine E (gi p (gi (chainOf p (gi l 1)).1 0)).s (cNames p ((chainOf p (gi l 1)).1.drop 1)).1 (l.drop 2) s
   else cFail (cNames p ((chainOf p (gi l 1)).1.drop 1)).2 s)
  else cFail 1 s)
 else cFail 1 s
def isDefine (p : List Nd) (v : Int) : Bool:=decide ((gi p v).k = 5 ∧ (chainOf p v).2 = true ∧ (gi p (gi (chainOf p v).1 0)).k = 4 ∧ (gi p (gi (chainOf p v).1 0)).s = wDefine)
def cTop (E : CEx) (p : List Nd) (v : Int) (s : CS) : CS :=
 if isDefine p v = true then cDefn E p (chainOf p v).1 s else cDefine E wMain [] [v] s
theorem cFail_how {h : Int} {s : CS} (hs : s.how ≠ 0) : cFail h s = s:=by unfold cFail; rw [if_neg hs]
theorem cFail_no {h : Int} {s : CS} (hh : h ≠ 0) : (cFail h s).how ≠ 0:=by
 unfold cFail; split
 ·exact hh
 ·assumption
theorem cPut_how {x : Ins} {s : CS} (hs : s.how ≠ 0) : cPut x s = s:=by unfold cPut; rw [if_neg hs]
theorem cTo_how {a : Nat} {s : CS} (hs : s.how ≠ 0) : cTo a s = s:=by unfold cTo; rw [if_neg hs]
theorem setN_len (L : List Ins) (a : Nat) : (setN L a).length = L.length:=by simp [setN]
def Goes (f : CS → CS) : Prop:=∀ s,(s.how ≠ 0 → f s = s) ∧ s.L.length ≤ (f s).L.length ∧ (f s).D = s.D
theorem Goes.put (x : Ins) : Goes (cPut x):=fun s => ⟨cPut_how,by unfold cPut; (repeat' split) <;> simp,by unfold cPut; (repeat' split) <;> rfl⟩
theorem Goes.fail (h : Int) : Goes (cFail h):=fun s => ⟨cFail_how,by unfold cFail; split <;> simp,by unfold cFail; split <;> rfl⟩
theorem Goes.to (a : Nat) : Goes (cTo a):=fun s => ⟨cTo_how,by unfold cTo; split <;> simp [setN_len],by unfold cTo; split <;> rfl⟩
theorem Goes.id : Goes (fun s => s):=fun s => ⟨fun _ => rfl,Nat.le_refl _,rfl⟩
theorem Goes.comp {f g : CS → CS} (hf : Goes f) (hg : Goes g) : Goes (fun s => g (f s)):=fun s => by
 obtain ⟨a1,a2,a3⟩:=hf s
 obtain ⟨b1,b2,b3⟩:=hg (f s)
 refine ⟨fun h => ?_,Nat.le_trans a2 b2,b3.trans a3⟩
 have:=a1 h
 show g (f s) = s
 rw [this] at b1 ⊢
 exact b1 h
theorem Goes.fold {f : Int → CS → CS} (hf : ∀ v,Goes (f v)) : ∀ l : List Int,Goes (fun s => l.foldl (fun s v => f v s) s)
 | [] => Goes.id
 | v :: l => (hf v).comp (Goes.fold hf l)
theorem Goes.body {E : CEx} (hE : ∀ v e,Goes (E v e)) (e : Env) : ∀ l : List Int,Goes (cBody E e l)
 | [] => Goes.id
 | v :: l => (hE v e).comp (Goes.fold (f:=fun v s => E v e (cPut (insOf 9 0 0) s)) (fun v => (Goes.put _).comp (hE v e)) l)
theorem Goes.ite {c : Prop} [Decidable c] {f g : CS → CS} (hf : Goes f) (hg : Goes g) : Goes (fun s => if c then f s else g s):=by
 intro s
 by_cases h : c
 ·simp only [h,if_true]; exact hf s
 ·simp only [h,if_false]; exact hg s
theorem Goes.fun_ {E : CEx} (hE : ∀ v e,Goes (E v e)) (names : List ByteArray) (body : List Int) (e : Env) : Goes (cFun E names body e):=by
 intro s
 unfold cFun
 simp only
 have p1:=Goes.put (insOf 6 (s.L.length + 2) names.length) s
 generalize cPut (insOf 6 (s.L.length + 2) names.length) s = s1 at *
 have p2:=((((Goes.put (insOf 5 0 0)).comp (Goes.body hE (names :: e) body)).comp (Goes.put (insOf 8 0 0))).comp (Goes.to s1.L.length)) s1
 simp only at p2
 refine ⟨fun h => ?_,by omega,p2.2.2.trans p1.2.2⟩
 have:=p1.1 h
 subst this
 exact p2.1 h
theorem Goes.if_ {E : CEx} (hE : ∀ v e,Goes (E v e)) (l : List Int) (e : Env) : Goes (cIf E l e):=by
 intro s
 unfold cIf
 simp only
 have p1:=hE (gi l 1) e s
 generalize E (gi l 1) e s = s1 at *
 have p2:=((Goes.put (insOf 4 0 0)).comp (hE (gi l 2) e)) s1
 simp only at p2
 generalize E (gi l 2) e (cPut (insOf 4 0 0) s1) = s3 at *
 have p3:=((((Goes.put (insOf 5 0 0)).comp (Goes.to s1.L.length)).comp (hE (gi l 3) e)).comp (Goes.to s3.L.length)) s3
 simp only at p3
 refine ⟨fun h => ?_,by omega,p3.2.2.trans (p2.2.2.trans p1.2.2)⟩
 have h1:=p1.1 h
 subst h1
 have h2:=p2.1 h
 subst h2
 exact p3.1 h
theorem Goes.form {E : CEx} (hE : ∀ v e,Goes (E v e)) (p : List Nd) (w : ByteArray) (l : List Int) (e : Env) : Goes (cForm E p w l e):=by
 unfold cForm cFn
 refine Goes.ite (Goes.put _) (Goes.ite (Goes.if_ hE l e) (Goes.ite (Goes.body hE e _) (Goes.ite (Goes.ite (Goes.ite (Goes.fun_ hE _ _ e) (Goes.fail _)) (Goes.fail _)) (Goes.ite (Goes.ite ?_ (Goes.fail _)) (Goes.fail _)))))
 exact ((Goes.fun_ hE _ _ e).comp (hE _ e)).comp (Goes.put _)
theorem Goes.expr (p : List Nd) : ∀ (k : Nat) (v : Int) (e : Env),Goes (cExpr p k v e)
 | 0,v,e => Goes.id
 | k + 1,v,e => by
  have hE:=Goes.expr p k
  intro s
  by_cases hs : s.how = 0
  ·have:=(Goes.ite (c:=(gi p v).k = 1 ∨ (gi p v).k = 2 ∨ (gi p v).k = 3) (Goes.put (insOf 1 v 0)) (Goes.ite (c:=(gi p v).k = 4) (Goes.ite (c:=special (gi p v).s = true) (Goes.fail 1) (Goes.put (varIns (gi p v).s e))) (Goes.ite (c:=(gi p v).k = 5 ∧ (chainOf p v).2 = true) (Goes.ite (c:=(gi p (gi (chainOf p v).1 0)).k = 4 ∧ special (gi p (gi (chainOf p v).1 0)).s = true) (Goes.form hE p (gi p (gi (chainOf p v).1 0)).s (chainOf p v).1 e) (Goes.ite (c:=5 < (chainOf p v).1.length) (Goes.fail 1) ((Goes.fold (f:=fun x s => cExpr p k x e s) (fun x => hE x e) (chainOf p v).1).comp (Goes.put (insOf 7 0 ((chainOf p v).1.length - 1)))))) (Goes.fail 1)))) s
   rw [cExpr,if_pos hs]
   exact this
  ·rw [cExpr,if_neg hs]
   exact ⟨fun _ => rfl,Nat.le_refl _,rfl⟩
def cAll (p : List Nd) : List Int → Nat → CS → CS × Nat
 | [],i,s => (s,i)
 | v :: r,i,s =>
  if (cTop (cExpr p p.length) p v s).how = 0 then cAll p r (i + 1) (cTop (cExpr p p.length) p v s) else (cTop (cExpr p p.length) p v s,i)
end Go.Proofs.Ytbgkimkbngocjaa.Ax
set_option linter.unusedVariables false
set_option linter.unusedSimpArgs false
set_option maxHeartbeats 4000000
namespace Go.Proofs.Ytbgkimkbngocjaa.Ax
open Go
structure LO {α : Type} (E : Enc α) (c il n : Nat) (H : Hp) (w : Value) (l : List α) : Prop where
 li : Li E n H w l
 oc : Off c w
 oi : Off il w
theorem LO.mv {α : Type} {E : Enc α} {c il il' n m : Nat} {H H' : Hp} {w : Value} {l : List α} (h : LO E c il n H w l) (hm : n ≤ m) (hs : ∀ i,i < n → i ≠ c → i ≠ il → H' i = H i) (hi : il' = il ∨ n ≤ il') : LO E c il' m H' w l:=by
 refine ⟨(h.li.keep' fun i o a k e => hs i (h.li.2 i o a k e) (h.oc i o a k e) (h.oi i o a k e)).up hm,h.oc,?_⟩
 rcases hi with rfl | hi
 ·exact h.oi
 ·exact h.li.off hi
theorem At.lo {α : Type} {E : Enc α} {id c il n : Nat} {H : Hp} {w : Value} {l : List α} (h : At E id H w l) (hn : id < n) (hc : id ≠ c) (hi : id ≠ il) : LO E c il n H w l:=by
 refine ⟨h.lst hn,?_,?_⟩ <;> (rcases h with ⟨rfl,_⟩ | ⟨rfl,_⟩) <;> intro i o a k e <;> cases e <;> assumption
theorem sliceV_off {sz : Nat} {v v' : Value} {lo hi : Option Value} (h : sliceV sz v lo hi = some v') {c : Nat} (ho : Off c v) : Off c v':=by
 unfold sliceV at h
 split at h
 ·rename_i str
  cases hb : bnd 0 lo with
  | none => simp [hb] at h
  | some a =>
   cases hb2 : bnd str.size hi with
   | none => simp [hb,hb2] at h
   | some b =>
    simp only [hb,hb2,Option.bind_some] at h
    split at h
    ·cases h; intro i o a k e; cases e
    ·cases h
 ·cases hb : bnd 0 lo with
  | none => simp [hb] at h
  | some a =>
   cases hb2 : bnd 0 hi with
   | none => simp [hb,hb2] at h
   | some b =>
    simp only [hb,hb2,Option.bind_some] at h
    split at h
    ·cases h; intro i o a k e; cases e
    ·cases h
 ·rename_i i o n q
  cases hb : bnd 0 lo with
  | none => simp [hb] at h
  | some a =>
   cases hb2 : bnd n hi with
   | none => simp [hb,hb2] at h
   | some b =>
    simp only [hb,hb2,Option.bind_some] at h
    split at h
    ·split at h
     ·cases h; intro i o a k e; cases e
     ·cases h; intro i' o' a' k' e; cases e; exact ho _ _ _ _ rfl
    ·cases h
 ·cases hb : bnd 0 lo with
  | none => simp [hb] at h
  | some a =>
   cases hb2 : bnd 0 hi with
   | none => simp [hb,hb2] at h
   | some b =>
    simp only [hb,hb2,Option.bind_some] at h
    split at h
    ·cases h; intro i o a k e; cases e
    ·cases h
 ·cases h
theorem LO.slice {α : Type} {E : Enc α} {c il n : Nat} {H : Hp} {w : Value} {l : List α} (h : LO E c il n H w l) (hz : 0 < E.sz) (lo hi : Option Value) (a b : Nat) (ha : bnd 0 lo = some a) (hb : ∀ d,d = l.length → bnd d hi = some b) (hab : a ≤ b) (hbl : b ≤ l.length) : ∃ w',sliceV E.sz w lo hi = some w' ∧ LO E c il n H w' ((l.drop a).take (b - a)):=by
 obtain ⟨w',h1,h2⟩:=h.li.slice hz lo hi a b ha hb hab hbl
 exact ⟨w',h1,h2,sliceV_off h1 h.oc,sliceV_off h1 h.oi⟩
abbrev eVl : Enc Value:=⟨1,fun x => [x],fun _ => rfl⟩
theorem Li.vAll {n : Nat} {H : Hp} {v : Value} {l : List Value} (h : Li eVl n H v l) {i : Int} (h0 : 0 ≤ i) (h1 : i < l.length) : (∀ k,idxA 1 v (.int k i) = some (elP 1 v i.toNat)) ∧ ld false 1 (elP 1 v i.toNat) H = some (l[i.toNat]'(by omega)) :=
 ⟨fun k => h.idx h0 h1,h.ldc h0 h1 rfl⟩
structure EV (c il n : Nat) (H : Hp) (w : Value) (e : List (List ByteArray)) : Prop where
 ex : ∃ ws : List Value,LO eVl c il n H w ws ∧ ws.length = e.length ∧ ∀ (i : Nat) (h1 : i < ws.length) (h2 : i < e.length),LO eStr c il n H ws[i] e[i] ∧ cell1 ws[i] = true
theorem EV.mv {c il il' n m : Nat} {H H' : Hp} {w : Value} {e : List (List ByteArray)} (h : EV c il n H w e) (hm : n ≤ m) (hs : ∀ i,i < n → i ≠ c → i ≠ il → H' i = H i) (hi : il' = il ∨ n ≤ il') : EV c il' m H' w e:=by
 obtain ⟨ws,h1,h2,h3⟩:=h.ex
 exact ⟨ws,h1.mv hm hs hi,h2,fun i a b => ⟨(h3 i a b).1.mv hm hs hi,(h3 i a b).2⟩⟩
structure CC (c il n : Nat) (H : Hp) (v ul ud : Value) (s : CS) : Prop where
 hc : H c = some (.row [v,ul,ud,.int .i64 s.how] 0 true)
 al : At eIns il H ul s.L
 cn : c < n
 iln : il < n
 ne : il ≠ c
 len : s.L.length ≤ 400
 hr : 0 ≤ s.how ∧ s.how ≤ 3
theorem CC.mv {c il n m : Nat} {H H' : Hp} {v ul ud : Value} {s : CS} (h : CC c il n H v ul ud s) (hm : n ≤ m) (h1 : H' c = H c) (h2 : H' il = H il) : CC c il m H' v ul ud s :=
 ⟨by rw [h1]; exact h.hc,h.al.mv h2,by have:=h.cn; omega,by have:=h.iln; omega,h.ne,h.len,h.hr⟩
theorem k111 {c il n : Nat} {H : Hp} {v ul ud : Value} {s : CS} (h : CC c il n H v ul ud s) (x : Int) (hx : 0 ≤ x ∧ x ≤ 3) : RtA Try.prog 111 [ptr c 0,.int .i64 x] c il H n (fun r H' n' => r = .tuple ⟨[]⟩ ∧ CC c il n' H' v ul ud (cFail x s)):=by
 apply RtA.of
 rw [c111]; unfold S111
 obtain ⟨hc,hal,hcn,hil,hne,hlen,hr⟩:=h
 have hst:=st_cset (o:=3) (v:=.int .i64 x) hc (by simp) rfl
 by_cases h0 : s.how = 0
 ·have e : cFail x s = ⟨x,s.L,s.D⟩:=by unfold cFail; rw [if_pos h0]
  rw [e]
  (repeat(first|((with_reducible first|apply Wp.gs|apply Wp.cs|apply Wp.cselX|apply Wp.askT|apply Wp.iteKT|apply Wp.ikb|apply Wp.askb|apply Wp.step);case h=>((try simp(disch:=omega)only[↓reduceIte,ask_true,↓X0,X1,Nat.reduceEqDiff,Int.reduceEq,Nat.reduceAdd,Nat.reduceSub,X2,Hp_ne,Nat.reduceLeDiff,hc,h0,hst]);with_reducible first|done|exact rfl|exact bT|exact bF))|apply Wp.andS|apply Wp.orS|with_reducible apply Wp.gu|simp only[↓X3]|simp(disch:=decide)only[asks_nil,asks_in,asks_out,askB_nil,askB_in,askB_out]|with_reducible apply Wp.assoc))
  exact Wp.pure ⟨by simp only; omega,(by intros;first|with_reducible rfl|simp(disch:=omega)only[Hp_ne,Hp_same]),rfl,Hp_same _ _ _,hal.mv (by intros;first|with_reducible rfl|simp(disch:=omega)only[Hp_ne,Hp_same]),by simp only; omega,by simp only; omega,hne,hlen,hx⟩
 ·rw [cFail_how h0]
  (repeat(first|((with_reducible first|apply Wp.gs|apply Wp.cs|apply Wp.cselX|apply Wp.askT|apply Wp.iteKT|apply Wp.ikb|apply Wp.askb|apply Wp.step);case h=>((try simp(disch:=omega)only[↓reduceIte,ask_true,↓X0,X1,Nat.reduceEqDiff,Int.reduceEq,Nat.reduceAdd,Nat.reduceSub,X2,Hp_ne,Nat.reduceLeDiff,hc,h0]);with_reducible first|done|exact rfl|exact bT|exact bF))|apply Wp.andS|apply Wp.orS|with_reducible apply Wp.gu|simp only[↓X3]|simp(disch:=decide)only[asks_nil,asks_in,asks_out,askB_nil,askB_in,askB_out]|with_reducible apply Wp.assoc))
  exact Wp.pure ⟨by simp only; omega,(by intros;first|with_reducible rfl|simp(disch:=omega)only[Hp_ne,Hp_same]),rfl,hc,hal,by simp only; omega,by simp only; omega,hne,hlen,hr⟩
theorem k115 {c il n : Nat} {H : Hp} {v ul ud : Value} {s : CS} (h : CC c il n H v ul ud s) (x : Ins) : RtA Try.prog 115 [ptr c 0,.agg ⟨x.cells⟩] c il H n (fun r H' n' => r = .int .i64 (if (cPut x s).how = 0 then (s.L.length : Int) else 0) ∧ ∃ ul' il',(il' = il ∨ n ≤ il') ∧ CC c il' n' H' v ul' ud (cPut x s)):=by
 apply RtA.of
 rw [c115]; unfold S115
 have hcn:=h.cn
 have hil:=h.iln
 have hne:=h.ne
 have hc:=h.hc
 have hal:=h.al
 have hlen:=h.len
 have hr:=h.hr
 have hlv : lenV false ul = some (.int .i64 s.L.length):=(hal.lst hil).len
 by_cases h4 : (s.L.length : Int) = 400
 ·have h4' : s.L.length = 400:=by omega
  ((repeat(first|((with_reducible first|apply Wp.gs|apply Wp.cs|apply Wp.cselX|apply Wp.askT|apply Wp.iteKT|apply Wp.ikb|apply Wp.askb|apply Wp.step);case h=>((try simp(disch:=omega)only[↓reduceIte,ask_true,↓X0,X1,Nat.reduceEqDiff,Int.reduceEq,Nat.reduceAdd,Nat.reduceSub,X2,Hp_ne,Nat.reduceLeDiff,Ins.cells,hc,hlv,h4]);with_reducible first|done|exact rfl|exact bT|exact bF))|apply Wp.andS|apply Wp.orS|with_reducible apply Wp.gu|simp only[↓X3]|simp(disch:=decide)only[asks_nil,asks_in,asks_out,askB_nil,askB_in,askB_out]|with_reducible apply Wp.assoc));try(with_reducible apply Wp.cargs;case h=>((try simp(disch:=omega)only[↓reduceIte,ask_true,↓X0,X1,Nat.reduceEqDiff,Int.reduceEq,Nat.reduceAdd,Nat.reduceSub,X2,Hp_ne,Nat.reduceLeDiff,Ins.cells,hc,hlv,h4]);with_reducible exact rfl)))
  refine Wp.rta (k111 (h.mv (m:=n + 11) (H':=H.set n (some (.row x.cells 0 true))) (by omega) (by intros;first|with_reducible rfl|simp(disch:=omega)only[Hp_ne,Hp_same]) (by intros;first|with_reducible rfl|simp(disch:=omega)only[Hp_ne,Hp_same])) 3 (by decide)) ?_
  rintro _ H1 n1 q1 s1 ⟨rfl,h1⟩
  have hc1:=h1.hc
  have hc1':=h1.hr
  have hcn1:=h1.cn
  have hno : (cFail 3 s).how ≠ 0:=cFail_no (by decide)
  have e : cPut x s = cFail 3 s:=by
   unfold cPut cFail
   split
   ·first | rfl | rw [if_pos h4']
   ·rfl
  (repeat(first|((with_reducible first|apply Wp.gs|apply Wp.cs|apply Wp.cselX|apply Wp.askT|apply Wp.iteKT|apply Wp.ikb|apply Wp.askb|apply Wp.step);case h=>((try simp(disch:=omega)only[↓reduceIte,ask_true,↓X0,X1,Nat.reduceEqDiff,Int.reduceEq,Nat.reduceAdd,Nat.reduceSub,X2,Hp_ne,Nat.reduceLeDiff,hc1,hno]);with_reducible first|done|exact rfl|exact bT|exact bF))|apply Wp.andS|apply Wp.orS|with_reducible apply Wp.gu|simp only[↓X3]|simp(disch:=decide)only[asks_nil,asks_in,asks_out,askB_nil,askB_in,askB_out]|with_reducible apply Wp.assoc))
  exact Wp.pure ⟨by simp only; omega,(by intros;first|with_reducible rfl|simp(disch:=omega)only[Hp_ne,Hp_same,s1]),by rw [e,if_neg hno],ul,il,.inl rfl,by rw [e]; exact h1.mv (by simp only; omega) rfl rfl⟩
 ·have h4' : ¬ s.L.length = 400:=by omega
  by_cases h0 : s.how = 0
  ·have e : cPut x s = ⟨0,s.L ++ [x],s.D⟩:=by unfold cPut; rw [if_pos h0,if_neg h4']
   have hb:=bsl_ic (n + 9 + 12) x
   simp only [Ins.cells] at hb
   ((repeat(first|((with_reducible first|apply Wp.gs|apply Wp.cs|apply Wp.cselX|apply Wp.askT|apply Wp.iteKT|apply Wp.ikb|apply Wp.askb|apply Wp.step);case h=>((try simp(disch:=omega)only[↓reduceIte,ask_true,↓X0,X1,Nat.reduceEqDiff,Int.reduceEq,Nat.reduceAdd,Nat.reduceSub,X2,Hp_ne,Nat.reduceLeDiff,Ins.cells,hc,hlv,h4,h0,hb]);with_reducible first|done|exact rfl|exact bT|exact bF))|apply Wp.andS|apply Wp.orS|with_reducible apply Wp.gu|simp only[↓X3]|simp(disch:=decide)only[asks_nil,asks_in,asks_out,askB_nil,askB_in,askB_out]|with_reducible apply Wp.assoc));try(with_reducible apply Wp.cargs;case h=>((try simp(disch:=omega)only[↓reduceIte,ask_true,↓X0,X1,Nat.reduceEqDiff,Int.reduceEq,Nat.reduceAdd,Nat.reduceSub,X2,Hp_ne,Nat.reduceLeDiff,Ins.cells,hc,hlv,h4,h0,hb]);with_reducible exact rfl)))
   refine Wp.app1 (E:=eIns) x (hal.mv (by intros;first|with_reducible rfl|simp(disch:=omega)only[Hp_ne,Hp_same])) (by omega) (by decide) (by omega) ?_
   intro H4 r1 r2
   have hc4 : H4 c = some (.row [v,ul,ud,.int .i64 s.how] 0 true):=by simp (disch:=omega) only [r2,Hp_ne,hc]
   have hst:=st_cset (o:=1) (v:=sl (n + 9 + 13) 0 (s.L ++ [x]).length) hc4 (by simp) rfl
   simp only [List.set_cons_succ,List.set_cons_zero] at hst
   have hw : IntKind.i64.wrap (((s.L ++ [x]).length : Int) - 1) = (s.L.length : Int):=by rw [List.length_append]; exact sub1 (by omega)
   (repeat(first|((with_reducible first|apply Wp.gs|apply Wp.cs|apply Wp.cselX|apply Wp.askT|apply Wp.iteKT|apply Wp.ikb|apply Wp.askb|apply Wp.step);case h=>((try simp(disch:=omega)only[↓reduceIte,ask_true,↓X0,X1,Nat.reduceEqDiff,Int.reduceEq,Nat.reduceAdd,Nat.reduceSub,X2,Hp_ne,Nat.reduceLeDiff,hst,hw]);with_reducible first|done|exact rfl|exact bT|exact bF))|apply Wp.andS|apply Wp.orS|with_reducible apply Wp.gu|simp only[↓X3]|simp(disch:=decide)only[asks_nil,asks_in,asks_out,askB_nil,askB_in,askB_out]|with_reducible apply Wp.assoc))
   refine Wp.pure ⟨by simp only; omega,(by intros;first|with_reducible rfl|simp(disch:=omega)only[Hp_ne,Hp_same,r2]),by rw [e]; simp,sl (n + 9 + 13) 0 (s.L ++ [x]).length,n + 9 + 13,.inr (by omega),?_⟩
   rw [e]
   exact ⟨by rw [← h0]; exact Hp_same _ _ _,.inr ⟨rfl,(Hp_ne _ _ (by omega)).trans r1⟩,by simp only; omega,by simp only; omega,by omega,by simp; omega,⟨Int.le_refl 0,by show (0 : Int) ≤ 3; decide⟩⟩
  ·have e : cPut x s = s:=cPut_how h0
   (repeat(first|((with_reducible first|apply Wp.gs|apply Wp.cs|apply Wp.cselX|apply Wp.askT|apply Wp.iteKT|apply Wp.ikb|apply Wp.askb|apply Wp.step);case h=>((try simp(disch:=omega)only[↓reduceIte,ask_true,↓X0,X1,Nat.reduceEqDiff,Int.reduceEq,Nat.reduceAdd,Nat.reduceSub,X2,Hp_ne,Nat.reduceLeDiff,Ins.cells,hc,hlv,h4,h0]);with_reducible first|done|exact rfl|exact bT|exact bF))|apply Wp.andS|apply Wp.orS|with_reducible apply Wp.gu|simp only[↓X3]|simp(disch:=decide)only[asks_nil,asks_in,asks_out,askB_nil,askB_in,askB_out]|with_reducible apply Wp.assoc))
   exact Wp.pure ⟨by simp only; omega,(by intros;first|with_reducible rfl|simp(disch:=omega)only[Hp_ne,Hp_same]),by rw [e,if_neg h0],ul,il,.inl rfl,by rw [e]; exact h.mv (by simp only; omega) (by intros;first|with_reducible rfl|simp(disch:=omega)only[Hp_ne,Hp_same]) (by intros;first|with_reducible rfl|simp(disch:=omega)only[Hp_ne,Hp_same])⟩
theorem k135 {c il n : Nat} {H : Hp} {v ul ud : Value} {s : CS} (h : CC c il n H v ul ud s) (a : Int) (b : Nat) (ha : s.how = 0 → a = b ∧ b < s.L.length) : RtA Try.prog 135 [ptr c 0,.int .i64 a] c il H n (fun r H' n' => r = .tuple ⟨[]⟩ ∧ CC c il n' H' v ul ud (cTo b s)):=by
 apply RtA.of
 rw [c135]; unfold S135
 have hcn:=h.cn
 have hil:=h.iln
 have hne:=h.ne
 have hc:=h.hc
 have hal:=h.al
 have hlv : lenV false ul = some (.int .i64 s.L.length):=(hal.lst hil).len
 by_cases h0 : s.how = 0
 ·obtain ⟨rfl,hb⟩:=ha h0
  have e : cTo b s = ⟨0,setN s.L b,s.D⟩:=by unfold cTo; rw [if_pos h0]
  have hul : ul = sl il 0 s.L.length ∧ H il = some (.row (s.L.flatMap eIns.cells) eIns.sz true):=by
   rcases hal with ⟨_,h2⟩ | h
   ·rw [h2] at hb; simp at hb
   ·exact h
  obtain ⟨rfl,hrow⟩:=hul
  have hix:=idx_sl (sz:=4) (id:=il) (k:=.i64) hb
  have hst : st false 1 (ptr il (b * 4 + 1)) (.int .i64 s.L.length) H = some (H.set il (some (.row ((setN s.L b).flatMap eIns.cells) eIns.sz true))):=by
   rw [st_c rfl]
   refine st_fld (E:=eIns) hrow hb (by decide) ?_
   rw [gi_nat hb]; rfl
  (repeat(first|((with_reducible first|apply Wp.gs|apply Wp.cs|apply Wp.cselX|apply Wp.askT|apply Wp.iteKT|apply Wp.ikb|apply Wp.askb|apply Wp.step);case h=>((try simp(disch:=omega)only[↓reduceIte,ask_true,↓X0,X1,Nat.reduceEqDiff,Int.reduceEq,Nat.reduceAdd,Nat.reduceSub,X2,Hp_ne,Nat.reduceLeDiff,hc,hlv,h0,hix,hst]);with_reducible first|done|exact rfl|exact bT|exact bF))|apply Wp.andS|apply Wp.orS|with_reducible apply Wp.gu|simp only[↓X3]|simp(disch:=decide)only[asks_nil,asks_in,asks_out,askB_nil,askB_in,askB_out]|with_reducible apply Wp.assoc))
  refine Wp.pure ⟨by simp only; omega,(by intros;first|with_reducible rfl|simp(disch:=omega)only[Hp_ne,Hp_same]),rfl,?_⟩
  rw [e]
  exact ⟨by show (H.set il _) c = _; rw [Hp_ne _ _ (by omega),hc,h0],.inr ⟨by rw [setN_len],Hp_same _ _ _⟩,by simp only; omega,by simp only; omega,hne,by rw [setN_len]; exact h.len,⟨Int.le_refl 0,by show (0 : Int) ≤ 3; decide⟩⟩
 ·rw [cTo_how h0]
  (repeat(first|((with_reducible first|apply Wp.gs|apply Wp.cs|apply Wp.cselX|apply Wp.askT|apply Wp.iteKT|apply Wp.ikb|apply Wp.askb|apply Wp.step);case h=>((try simp(disch:=omega)only[↓reduceIte,ask_true,↓X0,X1,Nat.reduceEqDiff,Int.reduceEq,Nat.reduceAdd,Nat.reduceSub,X2,Hp_ne,Nat.reduceLeDiff,hc,h0]);with_reducible first|done|exact rfl|exact bT|exact bF))|apply Wp.andS|apply Wp.orS|with_reducible apply Wp.gu|simp only[↓X3]|simp(disch:=decide)only[asks_nil,asks_in,asks_out,askB_nil,askB_in,askB_out]|with_reducible apply Wp.assoc))
  exact Wp.pure ⟨by simp only; omega,(by intros;first|with_reducible rfl|simp(disch:=omega)only[Hp_ne,Hp_same]),rfl,h.mv (by simp only; omega) rfl rfl⟩
theorem k90 {c n : Nat} {H : Hp} {v : Value} {cs : List Value} {p : List Nd} (hv : Li eNode n H v p) (hc : H c = some (.row (v :: cs) 0 true)) (hcn : c < n) (x : Int) (h0 : 0 ≤ x) (h1 : x < (p.length : Int)) : Rt Try.prog 90 [ptr c 0,.int .i64 x] H n (.tuple ⟨[.string (gi p x).s,.bool (decide ((gi p x).k = 4))]⟩):=by
 apply Rt.mk
 rw [c90]; unfold S90
 have g:=hv.nAll h0 h1
 have hcl : (gi p x).cells = [.int .i64 (gi p x).k,.int .i64 (gi p x).n,.string (gi p x).s,.int .i64 (gi p x).a,.int .i64 (gi p x).b]:=rfl
 rw [hcl] at g
 (repeat(first|((with_reducible first|apply Wp.gs|apply Wp.cs|apply Wp.cselX|apply Wp.askT|apply Wp.iteKT|apply Wp.ikb|apply Wp.askb|apply Wp.step);case h=>((try simp(disch:=omega)only[↓reduceIte,ask_true,↓X0,X1,Nat.reduceEqDiff,Int.reduceEq,Nat.reduceAdd,Nat.reduceSub,X2,Hp_ne,Nat.reduceLeDiff,hc,g]);with_reducible first|done|exact rfl|exact bT|exact bF))|apply Wp.andS|apply Wp.orS|with_reducible apply Wp.gu|simp only[↓X3]|simp(disch:=decide)only[asks_nil,asks_in,asks_out,askB_nil,askB_in,askB_out]|with_reducible apply Wp.assoc))
 exact Wp.pure ⟨by simp only; omega,(by intros;first|with_reducible rfl|simp(disch:=omega)only[Hp_ne,Hp_same]),rfl⟩
theorem k122 {n : Nat} {H : Hp} {v : Value} {l : List ByteArray} (s : ByteArray) (hv : Li eStr n H v l) (hl : l.length ≤ 1000000) : Rt Try.prog 122 [v,.string s] H n (.bool (fIdx s l 0).isSome):=by
 apply Rt.mk
 rw [c122]; unfold S122
 ((repeat(first|((with_reducible first|apply Wp.gs|apply Wp.cs|apply Wp.cselX|apply Wp.askT|apply Wp.iteKT|apply Wp.ikb|apply Wp.askb|apply Wp.step);case h=>((try simp(disch:=omega)only[↓reduceIte,ask_true,↓X0,X1,Nat.reduceEqDiff,Int.reduceEq,Nat.reduceAdd,Nat.reduceSub]);with_reducible first|done|exact rfl|exact bT|exact bF))|apply Wp.andS|apply Wp.orS|with_reducible apply Wp.gu|simp only[↓X3]|simp(disch:=decide)only[asks_nil,asks_in,asks_out,askB_nil,askB_in,askB_out]|with_reducible apply Wp.assoc));try(with_reducible apply Wp.cargs;case h=>((try simp(disch:=omega)only[↓reduceIte,ask_true,↓X0,X1,Nat.reduceEqDiff,Int.reduceEq,Nat.reduceAdd,Nat.reduceSub]);with_reducible exact rfl)))
 refine Wp.rp (k126 s (hv.up (by omega)) hl) ?_
 intro n1 q1
 cases hf : fIdx s l 0 with
 | none =>
  simp only [hf]
  (repeat(first|((with_reducible first|apply Wp.gs|apply Wp.cs|apply Wp.cselX|apply Wp.askT|apply Wp.iteKT|apply Wp.ikb|apply Wp.askb|apply Wp.step);case h=>((try simp(disch:=omega)only[↓reduceIte,ask_true,↓X0,X1,Nat.reduceEqDiff,Int.reduceEq,Nat.reduceAdd,Nat.reduceSub,show ¬ (0 : Int) ≤ -1 by decide]);with_reducible first|done|exact rfl|exact bT|exact bF))|apply Wp.andS|apply Wp.orS|with_reducible apply Wp.gu|simp only[↓X3]|simp(disch:=decide)only[asks_nil,asks_in,asks_out,askB_nil,askB_in,askB_out]|with_reducible apply Wp.assoc))
  exact Wp.pure ⟨by simp only; omega,(by intros;first|with_reducible rfl|simp(disch:=omega)only[Hp_ne,Hp_same]),rfl⟩
 | some k =>
  simp only [hf]
  (repeat(first|((with_reducible first|apply Wp.gs|apply Wp.cs|apply Wp.cselX|apply Wp.askT|apply Wp.iteKT|apply Wp.ikb|apply Wp.askb|apply Wp.step);case h=>((try simp(disch:=omega)only[↓reduceIte,ask_true,↓X0,X1,Nat.reduceEqDiff,Int.reduceEq,Nat.reduceAdd,Nat.reduceSub,show (0 : Int) ≤ (k : Int) by omega]);with_reducible first|done|exact rfl|exact bT|exact bF))|apply Wp.andS|apply Wp.orS|with_reducible apply Wp.gu|simp only[↓X3]|simp(disch:=decide)only[asks_nil,asks_in,asks_out,askB_nil,askB_in,askB_out]|with_reducible apply Wp.assoc))
  exact Wp.pure ⟨by simp only; omega,(by intros;first|with_reducible rfl|simp(disch:=omega)only[Hp_ne,Hp_same]),rfl⟩
theorem special_idx (s : ByteArray) : (fIdx s [wQuote,wIf,wFn,wDo,wLet,wDefine] 0).isSome = special s:=by
 unfold special
 simp only [fIdx]
 by_cases h1 : s = wQuote
 ·simp [h1]
 by_cases h2 : s = wIf
 ·simp [h1,h2]; (repeat' split) <;> rfl
 by_cases h3 : s = wFn
 ·simp [h1,h2,h3]; (repeat' split) <;> rfl
 by_cases h4 : s = wDo
 ·simp [h1,h2,h3,h4]; (repeat' split) <;> rfl
 by_cases h5 : s = wLet
 ·simp [h1,h2,h3,h4,h5]; (repeat' split) <;> rfl
 by_cases h6 : s = wDefine
 ·simp [h1,h2,h3,h4,h5,h6]; (repeat' split) <;> rfl
 simp [h1,h2,h3,h4,h5,h6]
theorem k112 (s : ByteArray) (H : Hp) (n : Nat) : Rt Try.prog 112 [.string s] H n (.bool (special s)):=by
 apply Rt.mk
 rw [c112]; unfold S112
 refine Wp.bslN eStr [wQuote,wIf,wFn,wDo,wLet,wDefine] ⟨by decide,rfl⟩ rfl rfl ?_
 generalize hG : Hp.set _ _ _ = G
 have hat : At eStr (n + 1) G (sl (n + 1) 0 [wQuote,wIf,wFn,wDo,wLet,wDefine].length) [wQuote,wIf,wFn,wDo,wLet,wDefine]:=.inr ⟨rfl,by rw [← hG]; exact Hp_same _ _ _⟩
 have hs : ∀ i,i < n + 1 → G i = H i:=by rw [← hG]; exact (by intros;first|with_reducible rfl|simp(disch:=omega)only[Hp_ne,Hp_same])
 refine Wp.rt (k122 s (hat.lst (by omega)) (by simp)) ?_
 intro H1 n1 q1 s1
 (repeat(first|((with_reducible first|apply Wp.gs|apply Wp.cs|apply Wp.cselX|apply Wp.askT|apply Wp.iteKT|apply Wp.ikb|apply Wp.askb|apply Wp.step);case h=>((try simp(disch:=omega)only[↓reduceIte,ask_true,↓X0,X1,Nat.reduceEqDiff,Int.reduceEq,Nat.reduceAdd,Nat.reduceSub]);with_reducible first|done|exact rfl|exact bT|exact bF))|apply Wp.andS|apply Wp.orS|with_reducible apply Wp.gu|simp only[↓X3]|simp(disch:=decide)only[asks_nil,asks_in,asks_out,askB_nil,askB_in,askB_out]|with_reducible apply Wp.assoc))
 exact Wp.pure ⟨by simp only; omega,(by intros;first|with_reducible rfl|simp(disch:=omega)only[Hp_ne,Hp_same,s1,hs]),by rw [special_idx]⟩
end Go.Proofs.Ytbgkimkbngocjaa.Ax
