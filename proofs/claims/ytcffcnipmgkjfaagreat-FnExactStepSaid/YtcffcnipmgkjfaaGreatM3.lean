/- What the law needs: laws of the abstract machine, and contracts of functions. -/
import Derived.Test.YtcffcnipmgkjfaaGreatM2
import Derived.Test.YtcffcnipmgkjfaaGreatM1
import Derived.Test.YtcffcnipmgkjfaaGreatSh
set_option linter.unusedVariables false
set_option linter.unusedSimpArgs false
namespace Go.Proofs.YtcffcnipmgkjfaaGreat.Ax
open Go
theorem k82 (x:Nd) (left:Int) (hx:x.s.size≤9223372036854775807) (hl:0≤left∧left≤9000000000000000000) (H:Hp) (n:Nat):Rt Tryz.prog 82 [.agg ⟨x.cells⟩,.int .i64 left] H n (.int .i64 (if left - x.s.size < 0 then -1 else left - x.s.size)):=by
 unfold Rt
 rw [c82]; unfold S82
 have hw:IntKind.i64.wrap (left - (x.s.size:Int))=left - x.s.size:=w64 oo
 simp(disch:=omega)only[↓reduceIte,Zh,↓X0,X1,Nat.reduceEqDiff,Int.reduceEq,Nat.reduceAdd,Nat.reduceSub,vcells_agg,Nd.cells,ld_set,hw]
 by_cases h:left - (x.s.size:Int) < 0
 ·simp(disch:=omega)only[↓reduceIte,Zh,↓X0,X1,Nat.reduceEqDiff,Int.reduceEq,Nat.reduceAdd,Nat.reduceSub,h]
  exact ⟨_,_,by omega,(Same.refl _ _).set (Nat.le_refl _) _,rfl⟩
 ·simp(disch:=omega)only[↓reduceIte,Zh,↓X0,X1,Nat.reduceEqDiff,Int.reduceEq,Nat.reduceAdd,Nat.reduceSub,h]
  exact ⟨_,_,by omega,(Same.refl _ _).set (Nat.le_refl _) _,rfl⟩
theorem l48 {n0:Nat} {H0:Hp} {v:Value} {l:List Nd} (hv:Li eNode n0 H0 v l) (hs:∀ x∈l,x.s.size≤9223372036854775807) (hl:l.length≤1048576) (m:Int) (hm:m≤1048576):∀ t n,n0≤n→t 0=v→t 5=.int .i64 0→t 1=.int .i64 m→0≤m →
  Wp (Zi (S48L0 (Call Tryz.prog) Zi) t H0 n) (fun o=>n≤o.n∧Same n0 H0 o.H∧((o.e=.exit 0∧∃ r:Int,0≤r∧r≤m∧o.t 1=.int .i64 r∧∀ x∈l,(x.s.size:Int)≤m)∨(o.e=.ret∧o.t 4=.int .i64 (-1)))):=by
 intro t n hn0 e0 e5 e1 hm0
 refine Zs (fun d t H n'=>∃ (j:Nat) (r:Int),j+d=l.length∧n≤n'∧Same n0 H0 H∧t 0=v∧t 5=.int .i64 j∧t 1=.int .i64 r∧0≤r∧r≤m∧∀ x∈l.take j,(x.s.size:Int)≤m) _ ?_ l.length t H0 n ⟨0,m,by omega,by omega,Same.refl _ _,e0,e5,e1,hm0,by omega,by simp⟩
 rintro d t H n' ⟨j,r,hj,hn,hsm,e0,e5,e1,hr0,hr1,hx⟩
 unfold S48L0
 have hv':=hv.keep hsm (Nat.le_refl _)
 by_cases hlt:(j:Int) < l.length
 ·have hlt':j < l.length:=by omega
  have g:=hv'.nAll oo hlt
  have hmem:=gi_mem (l:=l) oo hlt
  obtain ⟨H1,n1,a1,a2,a3⟩:=k82 (gi l (j:Int)) r (hs _ hmem) oo H (n'+11)
  by_cases h:r - ((gi l (j:Int)).s.size:Int) < 0
  ·refine W0 (A8 e0 e5 e1 hv'.len hlt g a3 h) ?_
   exact Wp.pure (Nxt.ret ⟨so,hsm.trans (a2.less (show n0≤n'+11 by omega)) (Nat.le_refl _),.inr ⟨rfl,p0⟩⟩)
  ·have hw:=wj (j:=j) (len:=l.length) hlt' oo
   refine W0 (A8 e0 e5 e1 hv'.len hlt g a3 (A2 h hw)) ?_
   refine Wp.pure (Nxt.go (d - 1) oo ⟨j+1,r - (gi l (j:Int)).s.size,by omega,by omega,hsm.trans (a2.less (show n0≤n'+11 by omega)) (Nat.le_refl _),pp e0,p0,p0,by omega,by omega,?_⟩)
   intro x hx'
   rw [take_next hlt'] at hx'
   rcases List.mem_append.1 hx' with h' | h'
   ·exact hx x h'
   ·simp only [List.mem_cons,List.not_mem_nil,or_false] at h'
    rw [h',← gi_nat hlt']; omega
 ·refine W0 (A5 e0 e5 e1 hv'.len hlt) ?_
  rw [List.take_of_length_le oo] at hx
  exact Wp.pure (Nxt.exit ⟨so,hsm,.inl ⟨rfl,r,hr0,hr1,pp e1,hx⟩⟩)
def Light (l:List Nd) (left r:Int):Prop:=-1≤r∧r≤left∧(0≤r→(l.length:Int)≤left∧∀ x∈l,(x.s.size:Int)≤left)
theorem k48 {n:Nat} {H:Hp} {v:Value} {l:List Nd} (hv:Li eNode n H v l) (hs:∀ x∈l,x.s.size≤9223372036854775807) (hl:l.length≤9223372036854775807) (left:Int) (hleft:0≤left∧left≤1048576):∃ r,Light l left r∧Rt Tryz.prog 48 [v,.int .i64 left] H n (.int .i64 r):=by
 unfold Rt Light
 rw [c48]; unfold S48
 have hw:IntKind.i64.wrap (left - (l.length:Int))=left - l.length:=w64 oo
 by_cases h:left - (l.length:Int) < 0
 ·refine ⟨-1,⟨by omega,by omega,fun h=>by omega⟩,?_⟩
  simp(disch:=omega)only[↓reduceIte,Zh,↓X0,X1,Nat.reduceEqDiff,Int.reduceEq,Nat.reduceAdd,Nat.reduceSub,hv.len,hw,h]
  exact ⟨_,_,by omega,Same.refl _ _,rfl⟩
 ·simp(disch:=omega)only[↓reduceIte,Zh,↓X0,X1,Nat.reduceEqDiff,Int.reduceEq,Nat.reduceAdd,Nat.reduceSub,hv.len,hw,h]
  generalize hT:put _ _ _=T
  obtain ⟨⟨oe,ot,oH,on⟩,f1,f2,f3,f4⟩:=l48 hv hs oo (left - l.length) oo T (n+9) oo (by rw [← hT]; simp [Zk,Zt]) (by rw [← hT]; simp [Zk]) (by rw [← hT]; simp [Zk]) oo
  simp only at f2 f3 f4
  rw [f1]
  rcases f4 with ⟨rfl,r,f4,f5,f6,f7⟩ | ⟨rfl,f4⟩
  ·refine ⟨r,⟨by omega,by omega,fun _=>⟨by omega,fun x hx=>by have:=f7 x hx; omega⟩⟩,?_⟩
   simp(disch:=omega)only[↓reduceIte,Zh,↓X0,X1,Nat.reduceEqDiff,Int.reduceEq,Nat.reduceAdd,Nat.reduceSub,outOf,f6]
   exact ⟨_,_,by omega,f3,rfl⟩
  ·refine ⟨-1,⟨by omega,by omega,fun h=>by omega⟩,?_⟩
   simp(disch:=omega)only[↓reduceIte,Zh,↓X0,X1,Nat.reduceEqDiff,Int.reduceEq,Nat.reduceAdd,Nat.reduceSub,outOf,f4]
   exact ⟨_,_,by omega,f3,rfl⟩
theorem k20 {n:Nat} {H:Hp} {v:Value} {l:List Nd} (hv:Li eNode n H v l) (hs:∀ x∈l,x.s.size≤9223372036854775807) (hl:l.length≤9223372036854775807) (left:Int) (hleft:0≤left∧left≤1048576):∃ r,Light l left r∧Rt Tryz.prog 20 [.agg ⟨[v]⟩,.int .i64 left] H n (.int .i64 r):=by
 unfold Rt
 rw [c20]; unfold S20
 have s1:Same n H (H.set n (some (.row [v] 0 true))):=(Same.refl _ _).set (Nat.le_refl _) _
 obtain ⟨r,hr,H1,n1,a1,a2,a3⟩:=k48 ((hv.keep s1 (Nat.le_refl _)).up (show n≤n+7 by omega)) hs hl left hleft
 have s2:=s1.trans (a2.less (show n≤n+7 by omega)) (Nat.le_refl _)
 refine ⟨r,hr,?_⟩
 by_cases h:r < 0
 ·have:r = -1:=by have:=hr.1; omega
  subst this
  simp(disch:=omega)only[↓reduceIte,Zh,↓X0,X1,Nat.reduceEqDiff,Int.reduceEq,Nat.reduceAdd,Nat.reduceSub,vcells_agg,ld_set,a3,h]
  exact ⟨_,_,by omega,s2,rfl⟩
 ·simp(disch:=omega)only[↓reduceIte,Zh,↓X0,X1,Nat.reduceEqDiff,Int.reduceEq,Nat.reduceAdd,Nat.reduceSub,vcells_agg,ld_set,a3,h]
  exact ⟨_,_,by omega,s2,rfl⟩
theorem k91 (x:Nd) (H:Hp) (n:Nat):Rt Tryz.prog 91 [.agg ⟨x.cells⟩] H n (.agg ⟨x.cells⟩):=by
 unfold Rt
 rw [c91]; unfold S91
 simp(disch:=omega)only[↓reduceIte,Zh,↓X0,X1,Nat.reduceEqDiff,Int.reduceEq,Nat.reduceAdd,Nat.reduceSub,X2,Zj,Nat.reduceLeDiff,Nd.cells]
 refine ⟨_,_,?_,?_,rfl⟩
 ·omega
 ·(repeat (first | exact Same.refl _ _ | refine Same.set ?_ oo _))
theorem l54 {n0 id:Nat} {H0:Hp} {v:Value} {l:List Nd} (hv:Li eNode n0 H0 v l) (hid:n0≤id) (hl:l.length≤100000000):∀ t H n,id < n→Same n0 H0 H→t 0=v→t 3=sl id 0 l.length→t 4=.int .i64 0→H id=some (.row ((List.replicate l.length (default:Nd)).flatMap eNode.cells) 5 true) →
  Wp (Zi (S54L0 (Call Tryz.prog) Zi) t H n) (fun o=>n≤o.n∧Same n0 H0 o.H∧o.e=.exit 0∧o.t 3=sl id 0 l.length∧o.H id=some (.row (l.flatMap eNode.cells) 5 true)):=by
 intro t H n hn0 hsm e0 e3 e4 hH
 refine Zs (fun d t H n'=>∃ (j:Nat),j+d=l.length∧n≤n'∧Same n0 H0 H∧t 0=v∧t 3=sl id 0 l.length∧t 4=.int .i64 j∧H id=some (.row ((l.take j++List.replicate d (default:Nd)).flatMap eNode.cells) 5 true)) _ ?_ l.length t H n ⟨0,by omega,by omega,hsm,e0,e3,e4,by simpa using hH⟩
 rintro d t H n' ⟨j,hj,hn,hsm,e0,e3,e4,hH⟩
 unfold S54L0
 have hv':=hv.keep hsm (Nat.le_refl _)
 by_cases hlt:(j:Int) < l.length
 ·have hlt':j < l.length:=by omega
  obtain ⟨d,rfl⟩:∃ d',d=d'+1:=⟨d - 1,by omega⟩
  have g:=hv'.nAll oo hlt
  have hw:=wj (j:=j) (len:=l.length) hlt' oo
  obtain ⟨H1,n1,a1,a2,a3⟩:=k91 (gi l (j:Int)) H (n'+13)
  have hix:Zn 5 (sl id 0 l.length) (.int .i64 j)=some (ptr id (j * 5)):=by simp [Zn,hlt']
  have hst:st true 5 (ptr id (j * 5)) (.agg ⟨(gi l (j:Int)).cells⟩) H1=some (H1.set id (some (.row ((l.take (j+1)++List.replicate d (default:Nd)).flatMap eNode.cells) 5 true))):=by
   rw [st_agg,if_pos (show (gi l (j:Int)).cells.length=5 from rfl)]
   have hH1:H1 id=some (.row ((l.take j++List.replicate (d+1) (default:Nd)).flatMap eNode.cells) 5 true):=by rw [a2 id oo]; exact hH
   have:=st_el (E:=eNode) hH1 (j:=j) (by simp; omega) (gi l (j:Int))
   have hset:(l.take j++List.replicate (d+1) (default:Nd)).set j (gi l (j:Int))=l.take (j+1)++List.replicate d default:=by
    rw [take_next hlt',gi_nat hlt',List.replicate_succ,List.set_append_right _ _ (by rw [List.length_take]; omega)]
    rw [List.length_take,Nat.min_eq_left oo,Nat.sub_self,List.set_cons_zero,List.append_assoc]
    rfl
   rw [hset] at this
   exact this
  refine W0 (A8 e0 e3 e4 hv'.len hlt g a3 (A3 hix hst hw)) ?_
  exact Wp.pure (Nxt.go d oo ⟨j+1,by omega,by omega,(hsm.trans (a2.less (show n0≤n'+13 by omega)) (Nat.le_refl _)).set hid _,pp e0,pp e3,p0,Zf _ _ _⟩)
 ·refine W0 (A5 e0 e3 e4 hv'.len hlt) ?_
  have hd:d=0:=by omega
  subst hd
  rw [List.take_of_length_le oo] at hH
  exact Wp.pure (Nxt.exit ⟨Nat.le_trans hn (Nat.le_add_right _ _),hsm,rfl,pp e3,by simpa using hH⟩)
theorem k54 {n:Nat} {H:Hp} {v:Value} {l:List Nd} (hv:Li eNode n H v l) (hl:l.length≤100000000):RtN Tryz.prog 54 [v] H n (fun w H' n'=>New eNode n n' H' w l):=by
 unfold RtN
 rw [c54]; unfold S54
 have hm:=mks_new eNode (default:Nd) (id:=n+3) (bytes:=48) (k:=l.length) H (by decide) oo
 have hz:eNode.cells (default:Nd)=[.int .i64 0,.int .i64 0,.string ⟨#[]⟩,.int .i64 0,.int .i64 0]:=rfl
 rw [hz] at hm
 simp(disch:=omega)only[↓reduceIte,Zh,↓X0,X1,Nat.reduceEqDiff,Int.reduceEq,Nat.reduceAdd,Nat.reduceSub,hv.len,hm]
 generalize hT:put _ _ _=T
 obtain ⟨⟨oe,ot,oH,on⟩,f1,f2,f3,f4,f5,f6⟩:=l54 (id:=n+3) hv oo hl T (H.set (n+3) (some (.row ((List.replicate l.length (default:Nd)).flatMap eNode.cells) 5 true))) (n+6) oo ((Same.refl _ _).set oo _) (by rw [← hT]; simp [Zk,Zt]) (by rw [← hT]; simp [Zk]) (by rw [← hT]; simp [Zk]) (Zf _ _ _)
 simp only at f2 f3 f4 f5 f6
 rw [f1]
 simp(disch:=omega)only[↓reduceIte,Zh,↓X0,X1,Nat.reduceEqDiff,Int.reduceEq,Nat.reduceAdd,Nat.reduceSub,f5]
 exact ⟨_,_,_,by omega,f3,rfl,n+3,by omega,by omega,.inr ⟨rfl,f6⟩⟩
theorem k25 {n:Nat} {H:Hp} {v:Value} {l:List Nd} (hv:Li eNode n H v l) (hl:l.length≤100000000):RtN Tryz.prog 25 [.agg ⟨[v]⟩] H n (fun w H' n'=>∃ u,w=.agg ⟨[u]⟩∧New eNode n n' H' u l):=by
 unfold RtN
 rw [c25]; unfold S25
 have s1:Same n H (((H.set n (some (.row [v] 0 true))).set (n+1) (some (.row [nilS] 0 true))).set (n+2) (some (.row [nilS] 0 true))):=by (repeat (first | exact Same.refl _ _ | refine Same.set ?_ oo _))
 obtain ⟨u,H1,n1,a1,a2,a3,id,a4,a5,a6⟩:=k54 ((hv.keep s1 (Nat.le_refl _)).up (show n≤n+8 by omega)) hl
 have h2:H1 (n+2)=some (.row [nilS] 0 true):=by rw [a2 _ oo]; exact Zf _ _ _
 have h1:H1 (n+1)=some (.row [nilS] 0 true):=by rw [a2 _ oo,Zj _ _ oo,Zf]
 simp(disch:=omega)only[↓reduceIte,Zh,↓X0,X1,Nat.reduceEqDiff,Int.reduceEq,Nat.reduceAdd,Nat.reduceSub,X2,Zj,Nat.reduceLeDiff,a3,st_c a6.cell,h1,h2]
 refine ⟨_,_,_,?_,?_,rfl,u,rfl,id,?_,?_,?_⟩
 ·omega
 ·exact ((s1.trans (a2.less (show n≤n+8 by omega)) (Nat.le_refl _)).set oo _).set oo _
 ·omega
 ·omega
 ·exact a6.keep (by rw [Zj _ _ oo,Zj _ _ oo])
theorem k102 (x y:Nd) (H:Hp) (n:Nat):Rt Tryz.prog 102 [.agg ⟨x.cells⟩,.agg ⟨y.cells⟩] H n (.bool (decide (x=y))):=by
 unfold Rt
 rw [c102]; unfold S102
 have hxy:(x=y)=(x.k=y.k∧x.n=y.n∧x.s=y.s∧x.a=y.a∧x.b=y.b):=by
  apply propext; constructor
  ·rintro rfl; exact ⟨rfl,rfl,rfl,rfl,rfl⟩
  ·rintro ⟨a,b,c,d,e⟩; cases x; cases y; simp_all
 have fin:∀ (b:Bool) (c:Nat),∃ H' n',n≤n'∧Same n H H'∧some (Value.bool b,(H.set n (some (.row x.cells 0 true))).set (n+1) (some (.row y.cells 0 true)),n+c)=some (Value.bool b,H',n'):=by
  intro b c
  refine ⟨_,_,?_,?_,rfl⟩
  ·omega
  ·(repeat (first | exact Same.refl _ _ | refine Same.set ?_ oo _))
 by_cases h1:x.k=y.k
 ·by_cases h2:x.n=y.n
  ·by_cases h3:x.s=y.s
   ·by_cases h4:x.a=y.a
    ·by_cases h5:x.b=y.b
     ·simp(disch:=omega)only[↓reduceIte,Zh,↓X0,X1,Nat.reduceEqDiff,Int.reduceEq,Nat.reduceAdd,Nat.reduceSub,X2,Zj,Nat.reduceLeDiff,Nd.cells,h1,h2,h3,h4,h5,hxy,and_self,and_true,true_and]
      simpa [Nd.cells,h1,h2,h3,h4,h5] using fin true 29
     ·simp(disch:=omega)only[↓reduceIte,Zh,↓X0,X1,Nat.reduceEqDiff,Int.reduceEq,Nat.reduceAdd,Nat.reduceSub,X2,Zj,Nat.reduceLeDiff,Nd.cells,h1,h2,h3,h4,h5,hxy,and_self,and_false]
      simpa [Nd.cells,h1,h2,h3,h4,h5] using fin false 29
    ·simp(disch:=omega)only[↓reduceIte,Zh,↓X0,X1,Nat.reduceEqDiff,Int.reduceEq,Nat.reduceAdd,Nat.reduceSub,X2,Zj,Nat.reduceLeDiff,Nd.cells,h1,h2,h3,h4,hxy,and_self,and_false,false_and]
     simpa [Nd.cells,h1,h2,h3] using fin false 24
   ·simp(disch:=omega)only[↓reduceIte,Zh,↓X0,X1,Nat.reduceEqDiff,Int.reduceEq,Nat.reduceAdd,Nat.reduceSub,X2,Zj,Nat.reduceLeDiff,Nd.cells,h1,h2,h3,hxy,and_self,and_false,false_and]
    simpa [Nd.cells,h1,h2] using fin false 19
  ·simp(disch:=omega)only[↓reduceIte,Zh,↓X0,X1,Nat.reduceEqDiff,Int.reduceEq,Nat.reduceAdd,Nat.reduceSub,X2,Zj,Nat.reduceLeDiff,Nd.cells,h1,h2,hxy,and_self,and_false,false_and]
   simpa [Nd.cells,h1] using fin false 14
 ·simp(disch:=omega)only[↓reduceIte,Zh,↓X0,X1,Nat.reduceEqDiff,Int.reduceEq,Nat.reduceAdd,Nat.reduceSub,X2,Zj,Nat.reduceLeDiff,Nd.cells,h1,hxy,and_self,and_false,false_and]
  simpa [Nd.cells] using fin false 9
theorem l62 {n0:Nat} {H0:Hp} {v1 v2:Value} {a b:List Nd} (h1:Li eNode n0 H0 v1 a) (h2:Li eNode n0 H0 v2 b) (hab:a.length=b.length) (hl:a.length≤1000000000):∀ t n,n0≤n→t 0=v1→t 1=v2→t 5=.int .i64 0 →
  Wp (Zi (S62L0 (Call Tryz.prog) Zi) t H0 n) (fun o=>n≤o.n∧Same n0 H0 o.H∧((o.e=.exit 0∧a=b)∨(o.e=.ret∧o.t 4=.bool false∧a≠b))):=by
 intro t n hn0 e0 e1 e5
 refine Zs (fun d t H n'=>∃ (j:Nat),j+d=a.length∧n≤n'∧Same n0 H0 H∧t 0=v1∧t 1=v2∧t 5=.int .i64 j∧a.take j=b.take j) _ ?_ a.length t H0 n ⟨0,by omega,by omega,Same.refl _ _,e0,e1,e5,by simp⟩
 rintro d t H n' ⟨j,hj,hn,hsm,e0,e1,e5,htk⟩
 unfold S62L0
 have g1:=h1.keep hsm (Nat.le_refl _)
 have g2:=h2.keep hsm (Nat.le_refl _)
 by_cases hlt:(j:Int) < a.length
 ·have ha:j < a.length:=by omega
  have hb:j < b.length:=by omega
  have q1:=g1.nAll oo hlt
  have q2:=g2.nAll (i:=(j:Int)) oo oo
  have hw:=wj (j:=j) (len:=a.length) ha oo
  obtain ⟨H1,n1,a1,a2,a3⟩:=k102 (gi a (j:Int)) (gi b (j:Int)) H (n'+14)
  have s2:=hsm.trans (a2.less (show n0≤n'+14 by omega)) (Nat.le_refl _)
  by_cases he:gi a (j:Int)=gi b (j:Int)
  ·rw [decide_eq_true he] at a3
   refine W0 (A8 e0 e1 e5 g1.len hlt q1 q2 (A2 a3 hw)) ?_
   exact Wp.pure (Nxt.go (d - 1) oo ⟨j+1,by omega,by omega,s2,pp e0,pp e1,p0,by rw [take_next ha,take_next hb,htk,← gi_nat ha,← gi_nat hb,he]⟩)
  ·rw [decide_eq_false he] at a3
   refine W0 (A8 e0 e1 e5 g1.len hlt q1 q2 (A2 a3 hw)) ?_
   exact Wp.pure (Nxt.ret ⟨so,s2,.inr ⟨rfl,p0,fun h=>he (by rw [h])⟩⟩)
 ·refine W0 (A5 e0 e1 e5 g1.len hlt) ?_
  rw [List.take_of_length_le oo,List.take_of_length_le oo] at htk
  exact Wp.pure (Nxt.exit ⟨Nat.le_trans hn (Nat.le_add_right _ _),hsm,.inl ⟨rfl,htk⟩⟩)
theorem k62 {n:Nat} {H:Hp} {v1 v2:Value} {a b:List Nd} (h1:Li eNode n H v1 a) (h2:Li eNode n H v2 b) (hl:a.length≤1000000000):Rt Tryz.prog 62 [v1,v2] H n (.bool (decide (a=b))):=by
 unfold Rt
 rw [c62]; unfold S62
 by_cases hab:(a.length:Int)=b.length
 ·simp(disch:=omega)only[↓reduceIte,Zh,↓X0,X1,Nat.reduceEqDiff,Int.reduceEq,Nat.reduceAdd,Nat.reduceSub,h1.len,h2.len,hab]
  generalize hT:put _ _ _=T
  obtain ⟨⟨oe,ot,oH,on⟩,f1,f2,f3,f4⟩:=l62 h1 h2 oo hl T (n+7) oo (by rw [← hT]; simp [Zk,Zt]) (by rw [← hT]; simp [Zk,Zt]) (by rw [← hT]; simp [Zk])
  simp only at f2 f3 f4
  rw [f1]
  rcases f4 with ⟨rfl,f4⟩ | ⟨rfl,f4,f5⟩
  ·simp(disch:=omega)only[↓reduceIte,Zh,↓X0,X1,Nat.reduceEqDiff,Int.reduceEq,Nat.reduceAdd,Nat.reduceSub,outOf,f4]
   exact ⟨_,_,by omega,f3,rfl⟩
  ·simp(disch:=omega)only[↓reduceIte,Zh,↓X0,X1,Nat.reduceEqDiff,Int.reduceEq,Nat.reduceAdd,Nat.reduceSub,outOf,f4,f5]
   exact ⟨_,_,by omega,f3,rfl⟩
 ·have hne:¬ a=b:=fun h=>hab (by rw [h])
  simp(disch:=omega)only[↓reduceIte,Zh,↓X0,X1,Nat.reduceEqDiff,Int.reduceEq,Nat.reduceAdd,Nat.reduceSub,h1.len,h2.len,hab,hne]
  exact ⟨_,_,by omega,Same.refl _ _,rfl⟩
theorem k30 {n:Nat} {H:Hp} {v1 v2:Value} {a b:List Nd} (h1:Li eNode n H v1 a) (h2:Li eNode n H v2 b) (hl:a.length≤1000000000):Rt Tryz.prog 30 [.agg ⟨[v1]⟩,.agg ⟨[v2]⟩] H n (.bool (decide (a=b))):=by
 unfold Rt
 rw [c30]; unfold S30
 have s1:Same n H ((H.set n (some (.row [v1] 0 true))).set (n+1) (some (.row [v2] 0 true))):=by (repeat (first | exact Same.refl _ _ | refine Same.set ?_ oo _))
 obtain ⟨H1,n1,a1,a2,a3⟩:=k62 ((h1.keep s1 (Nat.le_refl _)).up (show n≤n+9 by omega)) ((h2.keep s1 (Nat.le_refl _)).up (show n≤n+9 by omega)) hl
 have s2:=s1.trans (a2.less (show n≤n+9 by omega)) (Nat.le_refl _)
 by_cases h:a=b
 ·simp(disch:=omega)only[↓reduceIte,Zh,↓X0,X1,Nat.reduceEqDiff,Int.reduceEq,Nat.reduceAdd,Nat.reduceSub,X2,Zj,Nat.reduceLeDiff,a3,h]
  exact ⟨_,_,by omega,s2,rfl⟩
 ·simp(disch:=omega)only[↓reduceIte,Zh,↓X0,X1,Nat.reduceEqDiff,Int.reduceEq,Nat.reduceAdd,Nat.reduceSub,X2,Zj,Nat.reduceLeDiff,a3,h]
  exact ⟨_,_,by omega,s2,rfl⟩
end Go.Proofs.YtcffcnipmgkjfaaGreat.Ax
set_option linter.unusedVariables false
set_option linter.unusedSimpArgs false
namespace Go.Proofs.YtcffcnipmgkjfaaGreat.Ax
open Go
theorem k47 (a b c:Int) (H:Hp) (n:Nat):Call Tryz.prog 47 [.int .i64 a,.int .i64 b,.int .i64 c] H n=some (.bool (decide (b≤a∧a≤c)),H,n+10):=by
 rw [c47]; unfold S47
 by_cases h1:b≤a <;> simp [Zt,Zk,i_geq,i_leq,gsel_true,pickV_bool,h1]
theorem k43 (a b c:Int) (H:Hp) (n:Nat):Call Tryz.prog 43 [.int .i64 a,.int .i64 b,.int .i64 c] H n=some (.bool (decide (b≤a∧a≤c)),H,n+10):=by
 rw [c43]; unfold S43
 by_cases h1:b≤a <;> simp [Zt,Zk,i_geq,i_leq,gsel_true,pickV_bool,h1]
def nameByte (a:Int):Bool:=decide (97≤a∧a≤122) || (decide (a=43) || (decide (a=45) || (decide (a=42) || (decide (a=60) || (decide (a=61) || (decide (a=63) || (decide (a=33) || decide (a=47))))))))
theorem k116 (a:Int) (H:Hp) (n:Nat):Call Tryz.prog 116 [.int .u8 a] H n=some (.bool (nameByte a),H,n+40):=by
 rw [c116]; unfold S116 nameByte
 by_cases h1:97≤a
 ·by_cases h2:a≤122
  ·simp [Zt,Zk,i_geq,i_leq,i_eql,gsel_true,gsel_false,pickV_bool,h1,h2]
  ·by_cases e43:a=43
   ·simp [Zt,Zk,i_geq,i_leq,i_eql,gsel_true,gsel_false,pickV_bool,h1,h2,e43]
   ·by_cases e45:a=45
    ·simp [Zt,Zk,i_geq,i_leq,i_eql,gsel_true,gsel_false,pickV_bool,h1,h2,e43,e45]
    ·by_cases e42:a=42
     ·simp [Zt,Zk,i_geq,i_leq,i_eql,gsel_true,gsel_false,pickV_bool,h1,h2,e43,e45,e42]
     ·by_cases e60:a=60
      ·simp [Zt,Zk,i_geq,i_leq,i_eql,gsel_true,gsel_false,pickV_bool,h1,h2,e43,e45,e42,e60]
      ·by_cases e61:a=61
       ·simp [Zt,Zk,i_geq,i_leq,i_eql,gsel_true,gsel_false,pickV_bool,h1,h2,e43,e45,e42,e60,e61]
       ·by_cases e63:a=63
        ·simp [Zt,Zk,i_geq,i_leq,i_eql,gsel_true,gsel_false,pickV_bool,h1,h2,e43,e45,e42,e60,e61,e63]
        ·by_cases e33:a=33
         ·simp [Zt,Zk,i_geq,i_leq,i_eql,gsel_true,gsel_false,pickV_bool,h1,h2,e43,e45,e42,e60,e61,e63,e33]
         ·by_cases e47:a=47
          ·simp [Zt,Zk,i_geq,i_leq,i_eql,gsel_true,gsel_false,pickV_bool,h1,h2,e43,e45,e42,e60,e61,e63,e33,e47]
          ·simp [Zt,Zk,i_geq,i_leq,i_eql,gsel_true,gsel_false,pickV_bool,h1,h2,e43,e45,e42,e60,e61,e63,e33,e47]
 ·by_cases e43:a=43
  ·simp [Zt,Zk,i_geq,i_leq,i_eql,gsel_true,gsel_false,pickV_bool,h1,e43]
  ·by_cases e45:a=45
   ·simp [Zt,Zk,i_geq,i_leq,i_eql,gsel_true,gsel_false,pickV_bool,h1,e43,e45]
   ·by_cases e42:a=42
    ·simp [Zt,Zk,i_geq,i_leq,i_eql,gsel_true,gsel_false,pickV_bool,h1,e43,e45,e42]
    ·by_cases e60:a=60
     ·simp [Zt,Zk,i_geq,i_leq,i_eql,gsel_true,gsel_false,pickV_bool,h1,e43,e45,e42,e60]
     ·by_cases e61:a=61
      ·simp [Zt,Zk,i_geq,i_leq,i_eql,gsel_true,gsel_false,pickV_bool,h1,e43,e45,e42,e60,e61]
      ·by_cases e63:a=63
       ·simp [Zt,Zk,i_geq,i_leq,i_eql,gsel_true,gsel_false,pickV_bool,h1,e43,e45,e42,e60,e61,e63]
       ·by_cases e33:a=33
        ·simp [Zt,Zk,i_geq,i_leq,i_eql,gsel_true,gsel_false,pickV_bool,h1,e43,e45,e42,e60,e61,e63,e33]
        ·by_cases e47:a=47
         ·simp [Zt,Zk,i_geq,i_leq,i_eql,gsel_true,gsel_false,pickV_bool,h1,e43,e45,e42,e60,e61,e63,e33,e47]
         ·simp [Zt,Zk,i_geq,i_leq,i_eql,gsel_true,gsel_false,pickV_bool,h1,e43,e45,e42,e60,e61,e63,e33,e47]
theorem l151 {C:Zb} {H:Hp} {v:Value} {l:List Int} (hv:View H 1 v (bytesV l) l.length) (hl:l.length≤1048576) (x:Int):∀ (d j:Nat) (t:Tm) (n:Nat),j+d=l.length→t 0=v→t 1=.int .u8 x→t 7=.int .i64 l.length→t 8=.int .i64 j →
  ∃ o,Zi (S151L0 C Zi) t H n=some o∧n≤o.n∧o.H=H∧((o.e=.exit 0∧x ∉ l.drop j)∨(o.e=.ret∧∃ k:Nat,o.t 4=.int .i64 k∧x∈l.drop j)):=by
 intro d
 induction d with
 | zero =>
  intro j t n hj h0 h1 h7 h8
  rw [Loop_eq]
  unfold S151L0
  have:¬ (j:Int) < l.length:=by omega
  simp [h7,h8,i_lss,csel_bool,this,thenO]
  rw [List.drop_eq_nil_of_le oo]; simp
 | succ d ih =>
  intro j t n hj h0 h1 h7 h8
  have hlt:j < l.length:=by omega
  obtain ⟨p,hp,hc,_⟩:=hv.idx (k:=.i64) (j:=(j:Int)) oo oo
  have hld:=hc (.int .u8 l[j]) rfl (by simp [hlt])
  rw [Loop_eq]
  unfold S151L0
  have hd:l.drop j=l[j] :: l.drop (j+1):=(List.drop_eq_getElem_cons hlt)
  by_cases hx:x=l[j]
  ·simp [h0,h1,h7,h8,i_lss,i_eql,csel_bool,hlt,thenO,hp,hld,← hx,Zk]
   rw [hd,hx]
   exact ⟨⟨j,rfl⟩,List.mem_cons_self ..⟩
  ·have hw:IntKind.i64.wrap ((j:Int)+1)=((j+1:Nat):Int):=by rw [w64 oo]; omega
   simp only [h0,h1,h7,h8,i_lss,i_eql,i_add,csel_bool,hp,hld,Option.bind_some,hx,decide_false,Bool.false_eq_true,if_false,Int.ofNat_lt,hlt,decide_true,if_true,hw,thenO]
   obtain ⟨o,e1,e2,e3,e4⟩:=ih (j+1) (put (put (put (put (put (put (put (put (put (put (put t 9 (.bool true)) 10 (.int .i64 j)) 5 (.int .i64 j)) 11 (.int .u8 x)) 12 v) 13 (.int .i64 j)) 14 p) 15 (.int .u8 l[j])) 16 (.bool false)) 18 (.int .i64 ((j+1:Nat):Int))) 8 (.int .i64 ((j+1:Nat):Int))) (n+11) oo (pp h0) (pp h1) (pp h7) p0
   refine ⟨o,e1,by omega,e3,?_⟩
   rw [hd]
   rcases e4 with ⟨e4,e5⟩ | ⟨e4,k,e5,e6⟩
   ·exact .inl ⟨e4,by simp only [List.mem_cons,not_or]; exact ⟨hx,e5⟩⟩
   ·exact .inr ⟨e4,k,e5,List.mem_cons_of_mem _ e6⟩
theorem k151 {H:Hp} {v:Value} {l:List Int} (hv:View H 1 v (bytesV l) l.length) (hl:l.length≤1048576) (x:Int) (n:Nat):∃ (r:Int) (n':Nat),n≤n'∧Call Tryz.prog 151 [v,.int .u8 x] H n=some (.int .i64 r,H,n')∧(0≤r↔x∈l):=by
 rw [c151]; unfold S151
 simp only [Zt,List.getD_cons_zero,hv.len,Option.bind_some]
 obtain ⟨o,e1,e2,e3,e4⟩:=l151 (C:=Call Tryz.prog) hv hl x l.length 0 (put (put (put (put (Zm [v,.int .u8 x]) 4 (.int .i64 0)) 6 v) 7 (.int .i64 l.length)) 8 (.int .i64 0)) (n+4) oo pa pa p0 p0
 rw [e1]
 obtain ⟨oe,ot,oH,on⟩:=o
 simp only at e2 e3 e4
 subst e3
 rcases e4 with ⟨rfl,e4⟩ | ⟨rfl,k,e4,e5⟩
 ·refine ⟨-1,on+1,by omega,?_,?_⟩
  ·simp [outOf,thenK]
  ·simpa using e4
 ·refine ⟨k,on,by omega,?_,?_⟩
  ·simp [outOf,thenK,e4]
  ·simp at e5; simp [e5]
theorem k135 {H:Hp} {v:Value} {l:List Int} (hv:View H 1 v (bytesV l) l.length) (hl:l.length≤1048576) (x:Int) (n:Nat):∃ (n':Nat),n≤n'∧Call Tryz.prog 135 [v,.int .u8 x] H n=some (.bool (decide (x∈l)),H,n'):=by
 rw [c135]; unfold S135
 obtain ⟨r,n',h1,h2,h3⟩:=k151 hv hl x (n+6)
 refine ⟨n',by omega,?_⟩
 simp [Zt,h2,i_geq,h3]
theorem k113 (a:Int) (H:Hp) (n:Nat):∃ (H':Hp) (n':Nat),n≤n'∧Same n H H'∧Call Tryz.prog 113 [.int .u8 a] H n=some (.bool (nameByte a),H',n'):=by
 rw [c113]; unfold S113
 by_cases h1:97≤a∧a≤122
 ·refine ⟨H,n+14,by omega,fun _ _=>rfl,?_⟩
  simp [Zt,Zk,i_geq,i_leq,gsel_true,gsel_false,pickV_bool,h1,nameByte]
 ·have hv:View (H.set (n+8) (some (.row (bytesV [43,45,42,60,61,63,33,47]) 1 true))) 1 (sl (n+8) 0 8) (bytesV [43,45,42,60,61,63,33,47]) 8:=View.new (e:=1) (rw:=true) (by simp [Hp.set]) rfl
  obtain ⟨n',e1,e2⟩:=k135 hv (by decide) a (n+14)
  refine ⟨H.set (n+8) (some (.row (bytesV [43,45,42,60,61,63,33,47]) 1 true)),n',by omega,fun i hi=>by simp [Hp.set]; omega,?_⟩
  have hb:bsl (n+8) 1 8 [.int .u8 0] [(0,1,.int .u8 43),(1,1,.int .u8 45),(2,1,.int .u8 42),(3,1,.int .u8 60),(4,1,.int .u8 61),(5,1,.int .u8 63),(6,1,.int .u8 33),(7,1,.int .u8 47)] H=some (sl (n+8) 0 8,H.set (n+8) (some (.row (bytesV [43,45,42,60,61,63,33,47]) 1 true))):=rfl
  have hm:conv .mark (n+9) (sl (n+8) 0 8) (H.set (n+8) (some (.row (bytesV [43,45,42,60,61,63,33,47]) 1 true)))=some (sl (n+8) 0 8,H.set (n+8) (some (.row (bytesV [43,45,42,60,61,63,33,47]) 1 true))):=by simp [conv,Hp.set]
  have hn:nameByte a=decide (a∈[43,45,42,60,61,63,33,47]):=by
   unfold nameByte
   rw [decide_eq_false h1]
   simp
  rw [hn]
  by_cases h2:97≤a
  ·have h3:¬ a≤122:=fun h=>h1 ⟨h2,h⟩
   simp only [Zt,Zk,i_geq,i_leq,gsel_true,gsel_false,pickV_bool,h2,h3,List.getD_cons_zero,Option.bind_some,decide_true,decide_false,if_true,Nat.reduceEqDiff,if_false,Bool.false_eq_true,hb,hm,e2]
  ·simp only [Zt,Zk,i_geq,i_leq,gsel_true,gsel_false,pickV_bool,h2,List.getD_cons_zero,Option.bind_some,decide_true,decide_false,if_true,Nat.reduceEqDiff,if_false,Bool.false_eq_true,hb,hm,e2]
def numsOf (s:ByteArray):List Int:=s.data.toList.map fun b=>(b.toNat:Int)
theorem numsOf_length (s:ByteArray):(numsOf s).length=s.size:=by simp [numsOf]
theorem idx_nums {s:ByteArray} {k:IntKind} {j:Nat} (h1:j < s.size):idxS (.string s) (.int k j)=some (.int .u8 ((numsOf s)[j]'(by rw [numsOf_length]; exact h1))):=by
 have hd:j < s.data.toList.length:=by simpa using h1
 simp [idxS,h1,numsOf,hd]
theorem l79 (s:ByteArray) (hs:s.size≤1048576):∀ (d j:Nat) (t:Tm) (H:Hp) (n:Nat),j+d=s.size→t 0=.string s→t 3=.int .i64 j →
  ∃ o,Zi (S79L0 (Call Tryz.prog) Zi) t H n=some o∧n≤o.n∧o.H=H∧((o.e=.exit 0∧o.t 0=.string s∧((numsOf s).drop j).all nameByte=true)∨(o.e=.ret∧o.t 2=.bool false∧((numsOf s).drop j).all nameByte=false)):=by
 intro d
 induction d with
 | zero =>
  intro j t H n hj h0 h3
  rw [Loop_eq]
  unfold S79L0
  have:¬ (j:Int) < s.size:=by omega
  simp [h0,h3,len_str,i_lss,csel_bool,this,thenO,Zk]
  rw [List.drop_eq_nil_of_le (by rw [numsOf_length]; omega)]
  simp
 | succ d ih =>
  intro j t H n hj h0 h3
  have hlt:j < s.size:=by omega
  have hlt':j < (numsOf s).length:=by rw [numsOf_length]; exact hlt
  have hd:(numsOf s).drop j=(numsOf s)[j] :: (numsOf s).drop (j+1):=List.drop_eq_getElem_cons hlt'
  rw [Loop_eq]
  generalize hLL:Zi (S79L0 (Call Tryz.prog) Zi)=LL at ih ⊢
  unfold S79L0
  have hix:=idx_nums (k:=.i64) hlt
  cases hb:nameByte (numsOf s)[j] with
  | false =>
   simp [h0,h3,len_str,i_lss,csel_bool,hlt,thenO,hix,k116,un_not,hb,Zk]
   rw [hd]
   exact ⟨by omega,_,List.mem_cons_self ..,hb⟩
  | true =>
   have hw:IntKind.i64.wrap ((j:Int)+1)=((j+1:Nat):Int):=by rw [w64 oo]; omega
   simp only [h0,h3,len_str,i_lss,csel_bool,Int.ofNat_lt,hlt,decide_true,if_true,hix,k116,un_not,hb,i_add,Option.bind_some,Bool.not_true,Bool.false_eq_true,if_false,thenO,hw]
   generalize hT:put _ _ _=T
   obtain ⟨o,e1,e2,e3,e4⟩:=ih (j+1) T H (n+9+40+3) oo (by rw [← hT]; simp [Zk,h0]) (by rw [← hT]; simp [Zk])
   refine ⟨o,e1,by omega,e3,?_⟩
   rw [hd,List.all_cons,hb,Bool.true_and]
   exact e4
theorem k79 (s:ByteArray) (hs:s.size≤1048576) (H:Hp) (n:Nat):∃ n',n≤n'∧Call Tryz.prog 79 [.string s] H n=some (.bool (decide (1≤s.size∧s.size≤12) && (numsOf s).all nameByte),H,n'):=by
 rw [c79]; unfold S79
 obtain ⟨⟨oe,ot,oH,on⟩,e1,e2,e3,e4⟩:=l79 s hs s.size 0 (put (put (Zm [.string s]) 2 (.bool false)) 3 (.int .i64 0)) H (n+2) oo pa p0
 rw [e1]
 simp only at e2 e3 e4
 subst e3
 rw [List.drop_zero] at e4
 rcases e4 with ⟨rfl,e4,e5⟩ | ⟨rfl,e4,e5⟩
 ·refine ⟨on+4+10,by omega,?_⟩
  have hz:((1:Int)≤s.size∧(s.size:Int)≤12)=(1≤s.size∧s.size≤12):=by apply propext; omega
  simp only [outOf,thenK,if_true,e4,len_str,Option.bind_some,k47,hz,e5,Bool.and_true]
 ·refine ⟨on,by omega,?_⟩
  simp [outOf,thenK,e4,e5]
theorem l75 (s:ByteArray) (hs:s.size≤1048576):∀ (d j:Nat) (t:Tm) (H:Hp) (n:Nat),j+d=s.size→t 0=.string s→t 9=.int .i64 s.size→t 10=.int .i64 j →
  ∃ o,Zi (S75L0 (Call Tryz.prog) Zi) t H n=some o∧n≤o.n∧Same n H o.H∧((o.e=.exit 0∧((numsOf s).drop j).all nameByte=true)∨(o.e=.ret∧o.t 2=.bool false∧((numsOf s).drop j).all nameByte=false)):=by
 intro d
 induction d with
 | zero =>
  intro j t H n hj h0 h9 h10
  rw [Loop_eq]
  unfold S75L0
  have:¬ (j:Int) < s.size:=by omega
  simp [h9,h10,i_lss,csel_bool,this,thenO,Zk]
  refine ⟨Same.refl _ _,?_⟩
  rw [List.drop_eq_nil_of_le (by rw [numsOf_length]; omega)]
  simp
 | succ d ih =>
  intro j t H n hj h0 h9 h10
  have hlt:j < s.size:=by omega
  have hlt':j < (numsOf s).length:=by rw [numsOf_length]; exact hlt
  have hd:(numsOf s).drop j=(numsOf s)[j] :: (numsOf s).drop (j+1):=List.drop_eq_getElem_cons hlt'
  rw [Loop_eq]
  generalize hLL:Zi (S75L0 (Call Tryz.prog) Zi)=LL at ih ⊢
  unfold S75L0
  have hix:=idx_nums (k:=.i64) hlt
  obtain ⟨H1,n1,f1,f2,f3⟩:=k113 (numsOf s)[j] H (n+8)
  cases hb:nameByte (numsOf s)[j] with
  | false =>
   rw [hb] at f3
   simp [h0,h9,h10,i_lss,csel_bool,hlt,thenO,hix,f3,un_not,Zk]
   rw [hd]
   exact ⟨by omega,f2.less oo,_,List.mem_cons_self ..,hb⟩
  | true =>
   rw [hb] at f3
   have hw:IntKind.i64.wrap ((j:Int)+1)=((j+1:Nat):Int):=by rw [w64 oo]; omega
   simp only [h0,h9,h10,i_lss,csel_bool,Int.ofNat_lt,hlt,decide_true,if_true,hix,f3,un_not,i_add,Option.bind_some,Bool.not_true,Bool.false_eq_true,if_false,thenO,hw]
   generalize hT:put _ _ _=T
   obtain ⟨o,e1,e2,e3,e4⟩:=ih (j+1) T H1 (n1+2) oo (by rw [← hT]; simp [Zk,h0]) (by rw [← hT]; simp [Zk,h9]) (by rw [← hT]; simp [Zk])
   refine ⟨o,e1,by omega,(f2.less oo).trans e3 oo,?_⟩
   rw [hd,List.all_cons,hb,Bool.true_and]
   exact e4
theorem k75 (s:ByteArray) (hs:s.size≤1048576) (H:Hp) (n:Nat):∃ H' n',n≤n'∧Same n H H'∧Call Tryz.prog 75 [.string s] H n=some (.bool (decide (1≤s.size∧s.size≤12) && (numsOf s).all nameByte),H',n'):=by
 rw [c75]; unfold S75
 by_cases hz:1≤s.size∧s.size≤12
 ·have hz':(1:Int)≤s.size∧(s.size:Int)≤12:=by omega
  simp only [Zt,List.getD_cons_zero,len_str,Option.bind_some,k43,hz',and_self,decide_true,un_not,Bool.not_true,csel_bool,Bool.false_eq_true,if_false]
  obtain ⟨⟨oe,ot,oH,on⟩,e1,e2,e3,e4⟩:=l75 s hs s.size 0 (put (put (put (put (put (put (put (put (Zm [.string s]) 2 (.bool false)) 4 (.string s)) 5 (.int .i64 s.size)) 6 (.bool true)) 7 (.bool false)) 8 (.string s)) 9 (.int .i64 s.size)) 10 (.int .i64 0)) H (n+5+10+3) oo pa p0 p0
  rw [e1]
  simp only at e2 e3 e4
  rw [List.drop_zero] at e4
  rcases e4 with ⟨rfl,e5⟩ | ⟨rfl,e4,e5⟩
  ·refine ⟨oH,on+1,by omega,e3.less oo,?_⟩
   simp [outOf,thenK,e5,hz]
  ·refine ⟨oH,on,by omega,e3.less oo,?_⟩
   simp [outOf,thenK,e4,e5]
 ·have hz':¬ ((1:Int)≤s.size∧(s.size:Int)≤12):=by omega
  refine ⟨H,n+5+10+1,by omega,Same.refl _ _,?_⟩
  simp only [Zt,List.getD_cons_zero,len_str,Option.bind_some,k43,hz',decide_false,un_not,Bool.not_false,csel_bool,if_true,hz,Bool.false_and]
end Go.Proofs.YtcffcnipmgkjfaaGreat.Ax
set_option linter.unusedVariables false
set_option linter.unusedSimpArgs false
namespace Go.Proofs.YtcffcnipmgkjfaaGreat.Ax
open Go
def nameOk (s:ByteArray):Bool:=decide (1≤s.size∧s.size≤12) && (numsOf s).all nameByte
def NodeOk (x:Nd) (m:Int):Prop :=
 (x.k=1∧x.n=0∧x.s=⟨#[]⟩∧x.a=0∧x.b=0) ∨
 (x.k=2∧(0≤x.n∧x.n≤1)∧x.s=⟨#[]⟩∧x.a=0∧x.b=0) ∨
 (x.k=3∧(-1000000000≤x.n∧x.n≤1000000000)∧x.s=⟨#[]⟩∧x.a=0∧x.b=0) ∨
 (x.k=4∧x.n=0∧nameOk x.s=true∧x.a=0∧x.b=0) ∨
 (x.k=5∧x.n=0∧x.s=⟨#[]⟩∧(0≤x.a∧x.a≤m - 1)∧(0≤x.b∧x.b≤m - 1)) ∨
 (x.k=6∧(0≤x.n∧x.n≤1000000000)∧x.s=⟨#[]⟩∧(0≤x.a∧x.a≤m - 1)∧x.b=0) ∨
 (x.k=7∧x.n=0∧x.s=⟨#[]⟩∧(0≤x.a∧x.a≤m - 1)∧x.b=0) ∨
 (x.k=8∧(0≤x.n∧x.n≤99)∧x.s=⟨#[]⟩∧x.a=0∧x.b=0) ∨
 (x.k=9∧(0≤x.n∧x.n≤1000000000)∧x.s=⟨#[]⟩∧x.a=0∧x.b=0)
instance (x:Nd) (m:Int):Decidable (NodeOk x m):=by unfold NodeOk; infer_instance
theorem k77 (x:Nd) (hx:x.s.size≤1048576) (m:Int) (hm:0≤m∧m≤1000000000) (H:Hp) (n:Nat):Rt Tryz.prog 77 [.agg ⟨x.cells⟩,.int .i64 m] H n (.bool (decide (NodeOk x m))):=by
 apply Rt.of
 rw [c77]; unfold S77
 have hw:IntKind.i64.wrap (m - 1)=m - 1:=w64 oo
 obtain ⟨xk,xn,xs,xa,xb⟩:=x
 simp only at hx
 have fin:∀ (b:Bool) (H':Hp) (n':Nat),n≤n'→Same n H H'→b=decide (NodeOk ⟨xk,xn,xs,xa,xb⟩ m)→Wp (some (Value.bool b,H',n')) (fun q=>n≤q.2.2∧Same n H q.2.1∧q.1=.bool (decide (NodeOk ⟨xk,xn,xs,xa,xb⟩ m))):=by
  intro b H' n' h1 h2 h3
  exact Wp.pure ⟨h1,h2,by rw [h3]⟩
 by_cases e1:xk=1
 ·subst e1
  refine W1 (A2 @Nd.cells.eq_1 @k43) ?_
  refine fin _ _ _ oo (by (repeat (first | exact Same.refl _ _ | refine Same.set ?_ oo _))) ?_
  rw [Bool.eq_iff_iff]; simp [NodeOk,nameOk]; try grind
 by_cases e2:xk=2
 ·subst e2
  refine W1 (A2 @Nd.cells.eq_1 @k43) ?_
  refine fin _ _ _ oo (by (repeat (first | exact Same.refl _ _ | refine Same.set ?_ oo _))) ?_
  rw [Bool.eq_iff_iff]; simp [NodeOk,nameOk]; try grind
 by_cases e3:xk=3
 ·subst e3
  refine W1 (A2 @Nd.cells.eq_1 @k43) ?_
  refine fin _ _ _ oo (by (repeat (first | exact Same.refl _ _ | refine Same.set ?_ oo _))) ?_
  rw [Bool.eq_iff_iff]; simp [NodeOk,nameOk]; try grind
 by_cases e4:xk=4
 ·subst e4
  obtain ⟨H1,n1,a1,a2,a3⟩:=k75 xs hx (H.set n (some (.row [.int .i64 4,.int .i64 xn,.string xs,.int .i64 xa,.int .i64 xb] 0 true))) (n+30)
  have b0:H1 n=some (.row [.int .i64 4,.int .i64 xn,.string xs,.int .i64 xa,.int .i64 xb] 0 true):=by rw [a2 n oo]; exact Zf _ _ _
  refine W1 (A4 @Nd.cells.eq_1 @k43 a3 b0) ?_
  refine fin _ _ _ ?_ (((Same.refl _ _).set (Nat.le_refl _) _).trans (a2.less (show n≤n+30 by omega)) (Nat.le_refl _)) ?_
  ·omega
  rw [Bool.eq_iff_iff]; simp [NodeOk,nameOk]; try grind
 by_cases e5:xk=5
 ·subst e5
  refine W1 (A3 @Nd.cells.eq_1 @k43 hw) ?_
  refine fin _ _ _ oo (by (repeat (first | exact Same.refl _ _ | refine Same.set ?_ oo _))) ?_
  rw [Bool.eq_iff_iff]; simp [NodeOk,nameOk]; try grind
 by_cases e6:xk=6
 ·subst e6
  refine W1 (A3 @Nd.cells.eq_1 @k43 hw) ?_
  refine fin _ _ _ oo (by (repeat (first | exact Same.refl _ _ | refine Same.set ?_ oo _))) ?_
  rw [Bool.eq_iff_iff]; simp [NodeOk,nameOk]; try grind
 by_cases e7:xk=7
 ·subst e7
  refine W1 (A3 @Nd.cells.eq_1 @k43 hw) ?_
  refine fin _ _ _ oo (by (repeat (first | exact Same.refl _ _ | refine Same.set ?_ oo _))) ?_
  rw [Bool.eq_iff_iff]; simp [NodeOk,nameOk]; try grind
 by_cases e8:xk=8
 ·subst e8
  refine W1 (A2 @Nd.cells.eq_1 @k43) ?_
  refine fin _ _ _ oo (by (repeat (first | exact Same.refl _ _ | refine Same.set ?_ oo _))) ?_
  rw [Bool.eq_iff_iff]; simp [NodeOk,nameOk]; try grind
 by_cases e9:xk=9
 ·subst e9
  refine W1 (A2 @Nd.cells.eq_1 @k43) ?_
  refine fin _ _ _ oo (by (repeat (first | exact Same.refl _ _ | refine Same.set ?_ oo _))) ?_
  rw [Bool.eq_iff_iff]; simp [NodeOk,nameOk]; try grind
 refine W1 (A8 @Nd.cells.eq_1 @k43 e1 e2 e3 e4 e5 (A4 e6 e7 e8 e9)) ?_
 refine fin _ _ _ oo (by (repeat (first | exact Same.refl _ _ | refine Same.set ?_ oo _))) ?_
 simp [NodeOk,e1,e2,e3,e4,e5,e6,e7,e8,e9]
theorem k81 (x:Nd) (hx:x.s.size≤1048576) (m:Int) (hm:0≤m∧m≤1000000000) (H:Hp) (n:Nat):Rt Tryz.prog 81 [.agg ⟨x.cells⟩,.int .i64 m] H n (.bool (decide (NodeOk x m))):=by
 apply Rt.of
 rw [c81]; unfold S81
 have hw:IntKind.i64.wrap (m - 1)=m - 1:=w64 oo
 obtain ⟨xk,xn,xs,xa,xb⟩:=x
 simp only at hx
 have fin:∀ (b:Bool) (H':Hp) (n':Nat),n≤n'→Same n H H'→b=decide (NodeOk ⟨xk,xn,xs,xa,xb⟩ m)→Wp (some (Value.bool b,H',n')) (fun q=>n≤q.2.2∧Same n H q.2.1∧q.1=.bool (decide (NodeOk ⟨xk,xn,xs,xa,xb⟩ m))):=by
  intro b H' n' h1 h2 h3
  exact Wp.pure ⟨h1,h2,by rw [h3]⟩
 by_cases e1:xk=1
 ·subst e1
  refine W1 (A3 @Nd.cells.eq_1 @k47 hw) ?_
  refine fin _ _ _ oo (by (repeat (first | exact Same.refl _ _ | refine Same.set ?_ oo _))) ?_
  rw [Bool.eq_iff_iff]; simp [NodeOk,nameOk]; try grind
 by_cases e2:xk=2
 ·subst e2
  by_cases c0:0≤xn∧xn≤1
  case neg =>
   refine W1 (A4 @Nd.cells.eq_1 @k47 hw c0) ?_
   refine fin _ _ _ oo (by (repeat (first | exact Same.refl _ _ | refine Same.set ?_ oo _))) ?_
   rw [Bool.eq_iff_iff]; simp [NodeOk,nameOk]; try grind
  refine W1 (A5 @Nd.cells.eq_1 @k47 hw c0 @and_self) ?_
  refine fin _ _ _ oo (by (repeat (first | exact Same.refl _ _ | refine Same.set ?_ oo _))) ?_
  rw [Bool.eq_iff_iff]; simp [NodeOk,nameOk]; try grind
 by_cases e3:xk=3
 ·subst e3
  by_cases c0 : -1000000000≤xn∧xn≤1000000000
  case neg =>
   refine W1 (A4 @Nd.cells.eq_1 @k47 hw c0) ?_
   refine fin _ _ _ oo (by (repeat (first | exact Same.refl _ _ | refine Same.set ?_ oo _))) ?_
   rw [Bool.eq_iff_iff]; simp [NodeOk,nameOk]; try grind
  refine W1 (A5 @Nd.cells.eq_1 @k47 hw c0 @and_self) ?_
  refine fin _ _ _ oo (by (repeat (first | exact Same.refl _ _ | refine Same.set ?_ oo _))) ?_
  rw [Bool.eq_iff_iff]; simp [NodeOk,nameOk]; try grind
 by_cases e4:xk=4
 ·subst e4
  obtain ⟨n1,a1,a3⟩:=k79 xs hx (H.set n (some (.row [.int .i64 4,.int .i64 xn,.string xs,.int .i64 xa,.int .i64 xb] 0 true))) (n+8+10+6+10+21)
  by_cases c0:(decide (1≤xs.size∧xs.size≤12) && (numsOf xs).all nameByte)=true
  ·rw [c0] at a3
   refine W1 (A4 @Nd.cells.eq_1 @k47 hw a3) ?_
   refine fin _ _ _ oo (by (repeat (first | exact Same.refl _ _ | refine Same.set ?_ oo _))) ?_
   rw [Bool.eq_iff_iff]; simp [NodeOk,nameOk] at c0 ⊢; try grind
  ·rw [Bool.not_eq_true] at c0; rw [c0] at a3
   refine W1 (A4 @Nd.cells.eq_1 @k47 hw a3) ?_
   refine fin _ _ _ oo (by (repeat (first | exact Same.refl _ _ | refine Same.set ?_ oo _))) ?_
   simp only [NodeOk,nameOk,c0]; simp
 by_cases e5:xk=5
 ·subst e5
  by_cases c0:(0≤xa∧xa≤m - 1)∧(0≤xb∧xb≤m - 1)
  case neg =>
   refine W1 (A4 @Nd.cells.eq_1 @k47 hw (show (decide (0≤xa∧xa≤m - 1) && decide (0≤xb∧xb≤m - 1))=false by simp only [← Bool.decide_and]; exact decide_eq_false c0)) ?_
   refine fin _ _ _ oo (by (repeat (first | exact Same.refl _ _ | refine Same.set ?_ oo _))) ?_
   rw [Bool.eq_iff_iff]; simp [NodeOk,nameOk]; try grind
  by_cases c1:xn=0
  case neg =>
   refine W1 (A7 @Nd.cells.eq_1 @k47 hw c0.1 c0.2 @and_self c1) ?_
   refine fin _ _ _ oo (by (repeat (first | exact Same.refl _ _ | refine Same.set ?_ oo _))) ?_
   rw [Bool.eq_iff_iff]; simp [NodeOk,nameOk]; try grind
  refine W1 (A8 @Nd.cells.eq_1 @k47 hw c0.1 c0.2 @and_self c1 @and_self) ?_
  refine fin _ _ _ oo (by (repeat (first | exact Same.refl _ _ | refine Same.set ?_ oo _))) ?_
  rw [Bool.eq_iff_iff]; simp [NodeOk,nameOk]; try grind
 by_cases e6:xk=6
 ·subst e6
  by_cases c0:0≤xa∧xa≤m - 1
  case neg =>
   refine W1 (A4 @Nd.cells.eq_1 @k47 hw c0) ?_
   refine fin _ _ _ oo (by (repeat (first | exact Same.refl _ _ | refine Same.set ?_ oo _))) ?_
   rw [Bool.eq_iff_iff]; simp [NodeOk,nameOk]; try grind
  by_cases c1:0≤xn∧xn≤1000000000
  case neg =>
   refine W1 (A6 @Nd.cells.eq_1 @k47 hw c0 @and_self c1) ?_
   refine fin _ _ _ oo (by (repeat (first | exact Same.refl _ _ | refine Same.set ?_ oo _))) ?_
   rw [Bool.eq_iff_iff]; simp [NodeOk,nameOk]; try grind
  by_cases c2:xb=0
  case neg =>
   refine W1 (A8 @Nd.cells.eq_1 @k47 hw c0 @and_self c1 @and_self c2) ?_
   refine fin _ _ _ oo (by (repeat (first | exact Same.refl _ _ | refine Same.set ?_ oo _))) ?_
   rw [Bool.eq_iff_iff]; simp [NodeOk,nameOk]; try grind
  refine W1 (A8 @Nd.cells.eq_1 @k47 hw c0 @and_self c1 @and_self (A2 c2 @and_self)) ?_
  refine fin _ _ _ oo (by (repeat (first | exact Same.refl _ _ | refine Same.set ?_ oo _))) ?_
  rw [Bool.eq_iff_iff]; simp [NodeOk,nameOk]; try grind
 by_cases e7:xk=7
 ·subst e7
  by_cases c0:0≤xa∧xa≤m - 1
  case neg =>
   refine W1 (A4 @Nd.cells.eq_1 @k47 hw c0) ?_
   refine fin _ _ _ oo (by (repeat (first | exact Same.refl _ _ | refine Same.set ?_ oo _))) ?_
   rw [Bool.eq_iff_iff]; simp [NodeOk,nameOk]; try grind
  by_cases c1:xn=0
  case neg =>
   refine W1 (A6 @Nd.cells.eq_1 @k47 hw c0 @and_self c1) ?_
   refine fin _ _ _ oo (by (repeat (first | exact Same.refl _ _ | refine Same.set ?_ oo _))) ?_
   rw [Bool.eq_iff_iff]; simp [NodeOk,nameOk]; try grind
  by_cases c2:xb=0
  case neg =>
   refine W1 (A8 @Nd.cells.eq_1 @k47 hw c0 @and_self c1 @and_self c2) ?_
   refine fin _ _ _ oo (by (repeat (first | exact Same.refl _ _ | refine Same.set ?_ oo _))) ?_
   rw [Bool.eq_iff_iff]; simp [NodeOk,nameOk]; try grind
  refine W1 (A8 @Nd.cells.eq_1 @k47 hw c0 @and_self c1 @and_self (A2 c2 @and_self)) ?_
  refine fin _ _ _ oo (by (repeat (first | exact Same.refl _ _ | refine Same.set ?_ oo _))) ?_
  rw [Bool.eq_iff_iff]; simp [NodeOk,nameOk]; try grind
 by_cases e8:xk=8
 ·subst e8
  by_cases c0:0≤xn∧xn≤99
  case neg =>
   refine W1 (A4 @Nd.cells.eq_1 @k47 hw c0) ?_
   refine fin _ _ _ oo (by (repeat (first | exact Same.refl _ _ | refine Same.set ?_ oo _))) ?_
   rw [Bool.eq_iff_iff]; simp [NodeOk,nameOk]; try grind
  refine W1 (A5 @Nd.cells.eq_1 @k47 hw c0 @and_self) ?_
  refine fin _ _ _ oo (by (repeat (first | exact Same.refl _ _ | refine Same.set ?_ oo _))) ?_
  rw [Bool.eq_iff_iff]; simp [NodeOk,nameOk]; try grind
 by_cases e9:xk=9
 ·subst e9
  by_cases c0:0≤xn∧xn≤1000000000
  case neg =>
   refine W1 (A4 @Nd.cells.eq_1 @k47 hw c0) ?_
   refine fin _ _ _ oo (by (repeat (first | exact Same.refl _ _ | refine Same.set ?_ oo _))) ?_
   rw [Bool.eq_iff_iff]; simp [NodeOk,nameOk]; try grind
  refine W1 (A5 @Nd.cells.eq_1 @k47 hw c0 @and_self) ?_
  refine fin _ _ _ oo (by (repeat (first | exact Same.refl _ _ | refine Same.set ?_ oo _))) ?_
  rw [Bool.eq_iff_iff]; simp [NodeOk,nameOk]; try grind
 refine W1 (A8 @Nd.cells.eq_1 @k47 hw e1 e2 e3 e4 (A5 e5 e6 e7 e8 e9)) ?_
 refine fin _ _ _ oo (by (repeat (first | exact Same.refl _ _ | refine Same.set ?_ oo _))) ?_
 simp [NodeOk,e1,e2,e3,e4,e5,e6,e7,e8,e9]
def NodesOk:List Nd→Nat→Prop
 | [],_=>True
 | x :: l,i=>NodeOk x i∧NodesOk l (i+1)
instance:∀ (l:List Nd) (i:Nat),Decidable (NodesOk l i)
 | [],_=>isTrue trivial
 | x :: l,i=>@instDecidableAnd _ _ _ (instDecidableNodesOk l (i+1))
def PoolOk (l:List Nd):Prop:=NodesOk l 0∧l.length≤3000
instance (l:List Nd):Decidable (PoolOk l):=by unfold PoolOk; infer_instance
theorem NodesOk_app:∀ (l m:List Nd) (i:Nat),NodesOk (l++m) i↔NodesOk l i∧NodesOk m (i+l.length)
 | [],m,i=>by simp [NodesOk]
 | x :: l,m,i=>by
  rw [List.cons_append,NodesOk,NodesOk,NodesOk_app l m (i+1),List.length_cons,and_assoc,show i+1+l.length=i+(l.length+1) by omega]
theorem l40 {n0:Nat} {H0:Hp} {v:Value} {l:List Nd} (hv:Li eNode n0 H0 v l) (hs:∀ x∈l,x.s.size≤1048576) (hl:l.length≤1048576):∀ t H n,n0≤n→Same n0 H0 H→t 6=v→t 7=.int .i64 l.length→t 8=.int .i64 0 →
  Wp (Zi (S40L0 (Call Tryz.prog) Zi) t H n) (fun o=>n≤o.n∧Same n H o.H∧((o.e=.exit 0∧o.t 1=t 1∧NodesOk l 0)∨(o.e=.ret∧o.t 2=.bool false∧¬ NodesOk l 0))):=by
 intro t H n hn0 hsm0 e6 e7 e8
 refine Zs (fun d T H' n'=>∃ (j:Nat),j+d=l.length∧n≤n'∧Same n H H'∧T 1=t 1∧T 6=v∧T 7=.int .i64 l.length∧T 8=.int .i64 j∧NodesOk (l.take j) 0) _ ?_ l.length t H n ⟨0,by omega,by omega,Same.refl _ _,rfl,e6,e7,e8,by simp [NodesOk]⟩
 rintro d T H' n' ⟨j,hj,hn,hsm,e1,e6,e7,e8,hok⟩
 unfold S40L0
 have hv':=hv.keep (hsm0.trans hsm hn0) (Nat.le_refl _)
 by_cases hlt:(j:Int) < l.length
 ·have hlt':j < l.length:=by omega
  have g:=hv'.nAll oo hlt
  have hw:=wj (j:=j) (len:=l.length) hlt' oo
  obtain ⟨H1,n1,a1,a2,a3⟩:=k77 (gi l (j:Int)) (hs _ (gi_mem oo hlt)) (j:Int) oo (H'.set (n'+4) (some (.row (gi l (j:Int)).cells 0 true))) (n'+11)
  have s2:Same n H H1:=(hsm.set (show n≤n'+4 by omega) _).trans (a2.less (show n≤n'+11 by omega)) (Nat.le_refl _)
  have hz:setAt [Value.int .i64 0,.int .i64 0,.string ⟨#[]⟩,.int .i64 0,.int .i64 0] 0 (gi l (j:Int)).cells=(gi l (j:Int)).cells:=rfl
  have hc:(gi l (j:Int)).cells.length=5:=rfl
  have hd:(List.take 5 (List.drop 0 (gi l (j:Int)).cells))=(gi l (j:Int)).cells:=rfl
  have hnx:NodesOk (l.take (j+1)) 0↔NodesOk (l.take j) 0∧NodeOk (gi l (j:Int)) (j:Int):=by
   rw [take_next hlt',NodesOk_app,List.length_take,Nat.min_eq_left oo,Nat.zero_add,gi_nat hlt']
   simp [NodesOk]
  by_cases h:NodeOk (gi l (j:Int)) (j:Int)
  ·rw [decide_eq_true h] at a3
   refine W0 (A8 e6 e7 e8 hlt g hw @st_agg (A8 @stv_set hc hz @ldA_set hd a3 @Hp_set_set (A2 @List.length_cons.{0} @List.length_nil.{0}))) ?_
   exact Wp.pure (Nxt.go (d - 1) oo ⟨j+1,by omega,by omega,s2,pp e1,pp e6,pp e7,p0,hnx.2 ⟨hok,h⟩⟩)
  ·rw [decide_eq_false h] at a3
   refine W0 (A8 e6 e7 e8 hlt g hw @st_agg (A8 @stv_set hc hz @ldA_set hd a3 @Hp_set_set (A2 @List.length_cons.{0} @List.length_nil.{0}))) ?_
   refine Wp.pure (Nxt.ret ⟨so,s2,.inr ⟨rfl,p0,fun hn=>?_⟩⟩)
   have:NodesOk (l.take (j+1)) 0:=by
    rw [← List.take_append_drop (j+1) l,NodesOk_app] at hn
    exact hn.1
   exact h (hnx.1 this).2
 ·refine W0 (A4 e6 e7 e8 hlt) ?_
  rw [List.take_of_length_le oo] at hok
  exact Wp.pure (Nxt.exit ⟨Nat.le_trans hn (Nat.le_add_right _ _),hsm,.inl ⟨rfl,pp e1,hok⟩⟩)
theorem k40 {n:Nat} {H:Hp} {v:Value} {l:List Nd} (hv:Li eNode n H v l) (hs:∀ x∈l,x.s.size≤1048576) (hl:l.length≤1048576):Rt Tryz.prog 40 [.agg ⟨[v]⟩] H n (.bool (decide (PoolOk l))):=by
 apply Rt.of
 rw [c40]; unfold S40
 have s1:Same n H (H.set n (some (.row [v] 0 true))):=by (repeat (first | exact Same.refl _ _ | refine Same.set ?_ oo _))
 refine W1 hv.len ?_
 refine Wp.bind (l40 (n0:=n) (hv.keep s1 (Nat.le_refl _)) hs hl _ _ _ oo (Same.refl _ _) p0 p0 p0) ?_
 rintro ⟨oe,ot,oH,on⟩ ⟨f2,f3,f4⟩
 simp only at f2 f3 f4
 have hb:oH n=some (.row [v] 0 true):=by rw [f3 n oo]; exact Zf _ _ _
 rcases f4 with ⟨rfl,f4,f5⟩ | ⟨rfl,f4,f5⟩
 ·have f4:ot 1=ptr n 0:=by rw [f4]; simp [Zk]
  refine W0 (A6 @outOf.eq_1 f4 @ld_r hb @rowGet_row hv.len) ?_
  refine Wp.pure ⟨so,s1.trans (f3.less oo) (Nat.le_refl _),?_⟩
  have:decide (PoolOk l)=decide ((l.length:Int)≤3000):=by
   by_cases hc:(l.length:Int)≤3000
   ·rw [decide_eq_true hc]; exact decide_eq_true ⟨f5,by omega⟩
   ·rw [decide_eq_false hc]; exact decide_eq_false fun h=>hc (by have:=h.2; omega)
  rw [this]
 ·refine W0 f4 ?_
  exact Wp.pure ⟨so,s1.trans (f3.less oo) (Nat.le_refl _),by show ot 2=_; rw [f4,decide_eq_false fun h=>f5 h.1]⟩
theorem l45 {n0 b:Nat} {H0:Hp} {v:Value} {l:List Nd} (hv:Li eNode n0 H0 v l) (hs:∀ x∈l,x.s.size≤1048576) (hl:l.length≤1048576):∀ t H n,n0≤n→Same n0 H0 H→b < n→H b=some (.row [v] 0 true)→t 1=ptr b 0→t 3=.int .i64 0 →
  Wp (Zi (S45L0 (Call Tryz.prog) Zi) t H n) (fun o=>n≤o.n∧Same n H o.H∧((o.e=.exit 0∧o.t 1=ptr b 0∧NodesOk l 0)∨(o.e=.ret∧o.t 2=.bool false∧¬ NodesOk l 0))):=by
 intro t H n hn0 hsm0 hb hH e1 e3
 refine Zs (fun d T H' n'=>∃ (j:Nat),j+d=l.length∧n≤n'∧Same n H H'∧T 1=ptr b 0∧T 3=.int .i64 j∧NodesOk (l.take j) 0) _ ?_ l.length t H n ⟨0,by omega,by omega,Same.refl _ _,e1,e3,by simp [NodesOk]⟩
 rintro d T H' n' ⟨j,hj,hn,hsm,e1,e3,hok⟩
 unfold S45L0
 have hv':=hv.keep (hsm0.trans hsm hn0) (Nat.le_refl _)
 have hb':H' b=some (.row [v] 0 true):=by rw [hsm b hb]; exact hH
 by_cases hlt:(j:Int) < l.length
 ·have hlt':j < l.length:=by omega
  have g:=hv'.nAll oo hlt
  have hw:=wj (j:=j) (len:=l.length) hlt' oo
  obtain ⟨H1,n1,a1,a2,a3⟩:=k81 (gi l (j:Int)) (hs _ (gi_mem oo hlt)) (j:Int) oo H' (n'+13)
  have s2:Same n H H1:=hsm.trans (a2.less (show n≤n'+13 by omega)) (Nat.le_refl _)
  have hnx:NodesOk (l.take (j+1)) 0↔NodesOk (l.take j) 0∧NodeOk (gi l (j:Int)) (j:Int):=by
   rw [take_next hlt',NodesOk_app,List.length_take,Nat.min_eq_left oo,Nat.zero_add,gi_nat hlt']
   simp [NodesOk]
  by_cases h:NodeOk (gi l (j:Int)) (j:Int)
  ·rw [decide_eq_true h] at a3
   refine W0 (A8 e1 e3 @ld_r hb' @rowGet_row hv'.len hlt (A3 g hw a3)) ?_
   exact Wp.pure (Nxt.go (d - 1) oo ⟨j+1,by omega,by omega,s2,pp e1,p0,hnx.2 ⟨hok,h⟩⟩)
  ·rw [decide_eq_false h] at a3
   refine W0 (A8 e1 e3 @ld_r hb' @rowGet_row hv'.len hlt (A3 g hw a3)) ?_
   refine Wp.pure (Nxt.ret ⟨so,s2,.inr ⟨rfl,p0,fun hn=>?_⟩⟩)
   have:NodesOk (l.take (j+1)) 0:=by
    rw [← List.take_append_drop (j+1) l,NodesOk_app] at hn
    exact hn.1
   exact h (hnx.1 this).2
 ·refine W0 (A7 e1 e3 @ld_r hb' @rowGet_row hv'.len hlt) ?_
  rw [List.take_of_length_le oo] at hok
  exact Wp.pure (Nxt.exit ⟨Nat.le_trans hn (Nat.le_add_right _ _),hsm,.inl ⟨rfl,pp e1,hok⟩⟩)
theorem k45 {n:Nat} {H:Hp} {v:Value} {l:List Nd} (hv:Li eNode n H v l) (hs:∀ x∈l,x.s.size≤1048576) (hl:l.length≤1048576):Rt Tryz.prog 45 [.agg ⟨[v]⟩] H n (.bool (decide (PoolOk l))):=by
 apply Rt.of
 rw [c45]; unfold S45
 have s1:Same n H (H.set n (some (.row [v] 0 true))):=by (repeat (first | exact Same.refl _ _ | refine Same.set ?_ oo _))
 refine W1 hv.len ?_
 refine Wp.bind (l45 (n0:=n) (b:=n) (hv.keep s1 (Nat.le_refl _)) hs hl _ _ _ oo (Same.refl _ _) oo (Zf _ _ _) p0 p0) ?_
 rintro ⟨oe,ot,oH,on⟩ ⟨f2,f3,f4⟩
 simp only at f2 f3 f4
 have hb:oH n=some (.row [v] 0 true):=by rw [f3 n oo]; exact Zf _ _ _
 rcases f4 with ⟨rfl,f4,f5⟩ | ⟨rfl,f4,f5⟩
 ·refine W0 (A5 f4 @ld_r hb @rowGet_row hv.len) ?_
  refine Wp.pure ⟨so,s1.trans (f3.less oo) (Nat.le_refl _),?_⟩
  have:decide (PoolOk l)=decide ((l.length:Int)≤3000):=by
   by_cases hc:(l.length:Int)≤3000
   ·rw [decide_eq_true hc]; exact decide_eq_true ⟨f5,by omega⟩
   ·rw [decide_eq_false hc]; exact decide_eq_false fun h=>hc (by have:=h.2; omega)
  rw [this]
 ·refine W0 f4 ?_
  exact Wp.pure ⟨so,s1.trans (f3.less oo) (Nat.le_refl _),by show ot 2=_; rw [f4,decide_eq_false fun h=>f5 h.1]⟩
end Go.Proofs.YtcffcnipmgkjfaaGreat.Ax
set_option linter.unusedVariables false
set_option linter.unusedSimpArgs false
namespace Go.Proofs.YtcffcnipmgkjfaaGreat.Ax
open Go
theorem NodesOk_at:∀ {l:List Nd} {i:Nat},NodesOk l i→∀ {j:Nat},j < l.length→NodeOk (gi l (j:Int)) ((i+j:Nat):Int)
 | x :: l,i,h,0,_=>h.1
 | x :: l,i,h,j+1,hj=>by
  have:=NodesOk_at h.2 (j:=j) (by simpa using hj)
  rw [show i+1+j=i+(j+1) by omega] at this
  exact this
theorem PoolOk.at {l:List Nd} (h:PoolOk l) {v:Int} (h0:0≤v) (h1:v < l.length):NodeOk (gi l v) v:=by
 obtain ⟨j,rfl⟩:=Int.eq_ofNat_of_zero_le h0
 have:=NodesOk_at h.1 (j:=j) oo
 rw [Nat.zero_add] at this
 exact this
theorem NodeOk.pair {x:Nd} {m:Int} (h:NodeOk x m) (hk:x.k=5):(0≤x.a∧x.a < m)∧(0≤x.b∧x.b < m):=by
 rcases h with h | h | h | h | h | h | h | h | h <;> (obtain ⟨h1,h2⟩:=h; rw [hk] at h1; try (exact absurd h1 (by decide)))
 omega
theorem NodeOk.one {x:Nd} {m:Int} (h:NodeOk x m) (hk:x.k=6∨x.k=7):0≤x.a∧x.a < m:=by
 rcases h with h | h | h | h | h | h | h | h | h <;> obtain ⟨h1,h2⟩:=h <;> omega
theorem k46 {n:Nat} {H:Hp} {v:Value} {l:List Nd} (hv:Li eNode n H v l) (hl:l.length≤1048576) (i:Int):Rt Tryz.prog 46 [.agg ⟨[v]⟩,.int .i64 i] H n (.bool (decide (0≤i∧i < l.length))):=by
 apply Rt.of
 rw [c46]; unfold S46
 have hw:IntKind.i64.wrap ((l.length:Int) - 1)=l.length - 1:=w64 oo
 have he:(0≤i∧i≤(l.length:Int) - 1)=(0≤i∧i < (l.length:Int)):=propext oo
 refine W1 (A4 hv.len hw @k47 he) ?_
 exact Wp.pure ⟨so,by (repeat (first | exact Same.refl _ _ | refine Same.set ?_ oo _)),rfl⟩
theorem k41 {n:Nat} {H:Hp} {v:Value} {l:List Nd} (hv:Li eNode n H v l) (hl:l.length≤1048576) (i:Int):Rt Tryz.prog 41 [.agg ⟨[v]⟩,.int .i64 i] H n (.bool (decide (0≤i∧i < l.length))):=by
 apply Rt.of
 rw [c41]; unfold S41
 have hw:IntKind.i64.wrap ((l.length:Int) - 1)=l.length - 1:=w64 oo
 have he:(0≤i∧i≤(l.length:Int) - 1)=(0≤i∧i < (l.length:Int)):=propext oo
 refine W1 (A4 hv.len hw @k43 he) ?_
 exact Wp.pure ⟨so,by (repeat (first | exact Same.refl _ _ | refine Same.set ?_ oo _)),rfl⟩
def szStep (acc:List Int) (x:Nd):Int :=
 let s:=if x.k=5 then 1+gi acc x.a+gi acc x.b else if x.k=6∨x.k=7 then 1+gi acc x.a else 1
 if s < 1000000000 then s else 1000000000
def sizes (l:List Nd):List Int:=l.foldl (fun acc x=>acc++[szStep acc x]) []
def sizeOf (l:List Nd) (v:Int):Int:=if PoolOk l∧0≤v∧v < l.length then gi (sizes l) v else 0
end Go.Proofs.YtcffcnipmgkjfaaGreat.Ax
set_option linter.unusedVariables false
set_option linter.unusedSimpArgs false
namespace Go.Proofs.YtcffcnipmgkjfaaGreat.Ax
open Go
def chain (l:List Nd):Nat→Int→List Int × Bool
 | 0,_=>([],false)
 | f+1,v=>if (gi l v).k=5 then ((gi l v).a :: (chain l f (gi l v).b).1,(chain l f (gi l v).b).2) else ([],decide ((gi l v).k=1))
def Zq (l:List Nd) (v:Int):List Int × Bool:=chain l (v.toNat+1) v
theorem chain_len (l:List Nd):∀ (f:Nat) (v:Int),(chain l f v).1.length≤f
 | 0,v=>by simp [chain]
 | f+1,v=>by
  unfold chain
  split
  ·simp only [List.length_cons]; have:=chain_len l f (gi l v).b; omega
  ·simp
theorem chainOf_len {l:List Nd} {v:Int} (h0:0≤v) (h1:v < l.length):(Zq l v).1.length≤l.length:=by
 have:=chain_len l (v.toNat+1) v
 unfold Zq; omega
def listOf (l:List Nd) (w:Int):List Int × Bool:=if (Zq l w).2=true then ((Zq l w).1,true) else ([],false)
end Go.Proofs.YtcffcnipmgkjfaaGreat.Ax
set_option linter.unusedVariables false
set_option linter.unusedSimpArgs false
namespace Go.Proofs.YtcffcnipmgkjfaaGreat.Ax
open Go
def mAcc:Nat→Int→ByteArray→ByteArray
 | 0,_,acc=>acc
 | f+1,k,acc=>if 0 < k then mAcc f (k.tdiv 10) (strOf [IntKind.u8.wrap (48+k.tmod 10)]++acc) else acc
def mText (k:Int):ByteArray:=if k≤0 then ⟨#[109,48]⟩ else ⟨#[109]⟩++mAcc k.toNat k ⟨#[]⟩
theorem tdiv10 {k:Int} (h:0 < k):0≤k.tdiv 10∧k.tdiv 10 < k:=by
 rw [Int.tdiv_eq_ediv_of_nonneg oo]; omega
theorem tmod10 {k:Int} (h:0≤k):0≤k.tmod 10∧k.tmod 10 < 10:=by
 rw [Int.tmod_eq_emod_of_nonneg oo]; omega
theorem l66 {m:Int} (hm:m≤1000000000):∀ t H n,t 0=.int .i64 m→t 3=.string ⟨#[]⟩→0≤m →
  Wp (Zi (S66L0 (Call Tryz.prog) Zi) t H n) (fun o=>n≤o.n∧(∀ i,i < n→o.H i=H i)∧o.e=.exit 0∧o.t 3=.string (mAcc m.toNat m ⟨#[]⟩)∧(mAcc m.toNat m ⟨#[]⟩).size≤1000000000):=by
 intro t H n e0 e3 hm0
 refine Zs (fun d T H' n'=>∃ (k:Int) (acc:ByteArray),0≤k∧k≤m∧k.toNat≤d∧n≤n'∧(∀ i,i < n→H' i=H i)∧T 0=.int .i64 k∧T 3=.string acc∧acc.size+d=m.toNat∧mAcc d k acc=mAcc m.toNat m ⟨#[]⟩) _ ?_ m.toNat t H n ⟨m,⟨#[]⟩,by omega,by omega,by omega,by omega,fun _ _=>rfl,e0,e3,by simp [ByteArray.size],rfl⟩
 rintro d T H' n' ⟨k,acc,hk0,hkm,hd,hn,s0,e0,e3,hsz,hres⟩
 unfold S66L0
 by_cases hk:0 < k
 ·have h1:=tdiv10 hk
  have h2:=tmod10 hk0
  obtain ⟨d,rfl⟩:∃ d',d=d'+1:=⟨d - 1,by omega⟩
  have w1:IntKind.i64.wrap (48+k.tmod 10)=48+k.tmod 10:=w64 oo
  have w2:IntKind.i64.wrap (k.tdiv 10)=k.tdiv 10:=w64 oo
  have w3:=s_add (a:=strOf [IntKind.u8.wrap (48+k.tmod 10)]) (b:=acc) (by rw [strOf1_size]; omega)
  refine W1 (A8 e0 e3 hk w1 w2 @bsl_b @conv_b w3) ?_
  rw [mAcc,if_pos hk] at hres
  exact Wp.pure (Nxt.go d oo ⟨k.tdiv 10,_,by omega,by omega,by omega,by omega,(mm s0),p0,p0,by rw [ba_app,strOf1_size]; omega,hres⟩)
 ·refine W0 (A3 e0 e3 hk) ?_
  have hk':k=0:=by omega
  have hr:mAcc d k acc=acc:=by cases d <;> simp [mAcc,hk]
  rw [hr] at hres
  exact Wp.pure (Nxt.exit ⟨so,s0,rfl,by simp [Zk,e3,hres],by rw [← hres]; omega⟩)
theorem k66 (k:Int) (hk:k≤1000000000) (H:Hp) (n:Nat):Rt Tryz.prog 66 [.int .i64 k] H n (.string (mText k)):=by
 apply Rt.mk
 rw [c66]; unfold S66 mText
 by_cases h:k≤0
 ·refine W0 h ?_
  exact Wp.pure ⟨so,fun _ _=>rfl,by simp only [h,if_true]⟩
 ·refine W0 h ?_
  refine Wp.bind (l66 hk _ _ _ pa p0 oo) ?_
  rintro ⟨oe,ot,oH,on⟩ ⟨f1,f2,rfl,f4,f5⟩
  simp only at f1 f2 f4 f5
  have w3:=s_add (a:=⟨#[109]⟩) (b:=mAcc k.toNat k ⟨#[]⟩) (by have:(⟨#[109]⟩:ByteArray).size=1:=rfl; omega)
  refine W0 (A2 f4 w3) ?_
  exact Wp.pure ⟨so,(mm f2),by simp only [h,if_false]⟩
end Go.Proofs.YtcffcnipmgkjfaaGreat.Ax
set_option linter.unusedVariables false
set_option linter.unusedSimpArgs false
namespace Go.Proofs.YtcffcnipmgkjfaaGreat.Ax
open Go
def nMark (k:Int) (i:Nat):Nd:=⟨k+5 * i,k+5 * i+1,mText (k+5 * i+2),k+5 * i+3,k+5 * i+4⟩
theorem st_fc {α:Type} {E:Enc α} {id:Nat} {H:Hp} {l:List α} (h:H id=some (.row (l.flatMap E.cells) E.sz true)) {j f:Nat} (hj:j < l.length) (hf:f < E.sz) {y:α} {c:Value} (h1:cell1 c=true) (hy:E.cells y=setAt (E.cells l[j]) f [c]):st false 1 (ptr id (j * E.sz+f)) c H=some (H.set id (some (.row ((l.set j y).flatMap E.cells) E.sz true))):=by
 rw [st_c h1]; exact st_fld h hj hf hy
theorem l65 {id n0:Nat} {H0:Hp} {l:List Nd} {k:Int} (hk:0≤k∧k≤100000000) (hl:l.length≤10000000) (hid:id < n0) (h:H0 id=some (.row (l.flatMap eNode.cells) 5 true)):∀ t n,n0≤n→t 0=sl id 0 l.length→t 1=.int .i64 k→t 5=.int .i64 0 →
  Wp (Zi (S65L0 (Call Tryz.prog) Zi) t H0 n) (fun o=>n≤o.n∧(∀ i,i < n0→i≠id→o.H i=H0 i)∧o.e=.exit 0∧o.t 1=.int .i64 (k+5 * l.length)∧o.H id=some (.row ((fam (nMark k) l.length).flatMap eNode.cells) 5 true)):=by
 intro t n hn0 e0 e1 e5
 refine Zs (fun d t H n'=>∃ (j:Nat),j+d=l.length∧n≤n'∧(∀ i,i < n0→i≠id→H i=H0 i)∧t 0=sl id 0 l.length∧t 1=.int .i64 (k+5 * j)∧t 5=.int .i64 j∧H id=some (.row ((fam (nMark k) j++l.drop j).flatMap eNode.cells) 5 true)) _ ?_ l.length t H0 n ⟨0,by omega,by omega,fun _ _ _=>rfl,e0,by simpa using e1,e5,by simpa [fam] using h⟩
 rintro d t H n' ⟨j,hj,hn,s0,e0,e1,e5,hH⟩
 unfold S65L0
 by_cases hlt:j < l.length
 ·have hlti:(j:Int) < l.length:=by omega
  have hw:=wj (j:=j) (len:=l.length) hlt oo
  have w1:IntKind.i64.wrap (k+5 * (j:Int)+1)=k+5 * j+1:=w64 oo
  have w2:IntKind.i64.wrap (k+5 * (j:Int)+1+1)=k+5 * j+2:=by rw [w64 oo]; omega
  have w3:IntKind.i64.wrap (k+5 * (j:Int)+2+1)=k+5 * j+3:=by rw [w64 oo]; omega
  have w4:IntKind.i64.wrap (k+5 * (j:Int)+3+1)=k+5 * j+4:=by rw [w64 oo]; omega
  have w5:IntKind.i64.wrap (k+5 * (j:Int)+4+1)=k+5 * ((j+1:Nat):Int):=by rw [w64 oo]; omega
  have hset:=fam_set (nMark k) hlt
  have hjl:j < (fam (nMark k) j++l.drop j).length:=by rw [fam_drop_len _ oo]; exact hlt
  generalize hL:fam (nMark k) j++l.drop j=L at *
  have hix:=idx_sl (sz:=5) (id:=id) (k:=.i64) hlt
  rcases hx:L[j] with ⟨xk,xn,xs,xa,xb⟩
  have t0:st false 1 (ptr id (j * 5)) (.int .i64 (k+5 * j)) H=some (H.set id (some (.row ((L.set j ⟨k+5 * j,xn,xs,xa,xb⟩).flatMap eNode.cells) 5 true))):=st_fc (E:=eNode) hH hjl (f:=0) (by decide) (y:=⟨k+5 * j,xn,xs,xa,xb⟩) (c:=.int .i64 (k+5 * j)) rfl (by rw [hx]; rfl)
  have t1:=st_fc (E:=eNode) (Zf H id (some (.row ((L.set j ⟨k+5 * j,xn,xs,xa,xb⟩).flatMap eNode.cells) 5 true))) (by rw [List.length_set]; exact hjl) (f:=1) (by decide) (y:=⟨k+5 * j,k+5 * j+1,xs,xa,xb⟩) (c:=.int .i64 (k+5 * j+1)) rfl (by rw [List.getElem_set_self]; rfl)
  rw [List.set_set,Hp_set_set] at t1
  refine W0 (A8 e0 e1 e5 hlti hix t0 w1 (A2 t1 w2)) ?_
  refine Zu (k66 (k+5 * j+2) oo _ _) ?_
  intro H1 n1 q1 s1
  have hH1:H1 id=some (.row ((L.set j ⟨k+5 * j,k+5 * j+1,xs,xa,xb⟩).flatMap eNode.cells) 5 true):=by simp (disch:=omega) only [s1,Zf]
  have t2:=st_fc (E:=eNode) hH1 (by rw [List.length_set]; exact hjl) (f:=2) (by decide) (y:=⟨k+5 * j,k+5 * j+1,mText (k+5 * j+2),xa,xb⟩) (c:=.string (mText (k+5 * j+2))) rfl (by rw [List.getElem_set_self]; rfl)
  rw [List.set_set] at t2
  have t3:=st_fc (E:=eNode) (Zf H1 id (some (.row ((L.set j ⟨k+5 * j,k+5 * j+1,mText (k+5 * j+2),xa,xb⟩).flatMap eNode.cells) 5 true))) (by rw [List.length_set]; exact hjl) (f:=3) (by decide) (y:=⟨k+5 * j,k+5 * j+1,mText (k+5 * j+2),k+5 * j+3,xb⟩) (c:=.int .i64 (k+5 * j+3)) rfl (by rw [List.getElem_set_self]; rfl)
  rw [List.set_set,Hp_set_set] at t3
  have t4:=st_fc (E:=eNode) (Zf H1 id (some (.row ((L.set j ⟨k+5 * j,k+5 * j+1,mText (k+5 * j+2),k+5 * j+3,xb⟩).flatMap eNode.cells) 5 true))) (by rw [List.length_set]; exact hjl) (f:=4) (by decide) (y:=nMark k j) (c:=.int .i64 (k+5 * j+4)) rfl (by rw [List.getElem_set_self]; rfl)
  rw [List.set_set,Hp_set_set,hset] at t4
  refine W0 (A8 e0 e1 e5 hix t2 w3 t3 (A4 w4 t4 w5 hw)) ?_
  exact Wp.pure (Nxt.go (d - 1) oo ⟨j+1,by omega,by omega,(mm (A2 s1 s0)),pp e0,p0,p0,Zf _ _ _⟩)
 ·have hlti:¬ (j:Int) < l.length:=by omega
  refine W0 (A4 e0 e1 e5 hlti) ?_
  have hjl:j=l.length:=by omega
  subst hjl
  exact Wp.pure (Nxt.exit ⟨Nat.le_trans hn (Nat.le_add_right _ _),s0,rfl,pp e1,by simpa using hH⟩)
theorem k65 {id n:Nat} {H:Hp} {v:Value} {l:List Nd} (h:At eNode id H v l) (hid:id < n) (k:Int) (hk:0≤k∧k≤100000000) (hl:l.length≤10000000):RtM Tryz.prog 65 [v,.int .i64 k] id H n (.int .i64 (k+5 * l.length)) (fun H' n'=>At eNode id H' v (fam (nMark k) l.length)):=by
 apply RtM.of
 rw [c65]; unfold S65
 rcases h with ⟨rfl,rfl⟩ | ⟨rfl,h⟩
 ·rw [Loop_eq]
  unfold S65L0
  simp(disch:=omega)only[↓reduceIte,Zh,↓X0,X1,Nat.reduceEqDiff,Int.reduceEq,Nat.reduceAdd,Nat.reduceSub,thenO]
  exact Wp.pure ⟨so,fun _ _ _=>rfl,pa,.inl ⟨rfl,rfl⟩⟩
 ·refine Wp.bind (l65 hk hl hid h _ _ oo pa pa p0) ?_
  rintro ⟨oe,ot,oH,on⟩ ⟨f1,f2,rfl,f4,f5⟩
  simp only at f1 f2 f4 f5
  simp(disch:=omega)only[↓reduceIte,Zh,↓X0,X1,Nat.reduceEqDiff,Int.reduceEq,Nat.reduceAdd,Nat.reduceSub,f4]
  exact Wp.pure ⟨so,f2,rfl,.inr ⟨by rw [fam_len],f5⟩⟩
theorem k33 {id n:Nat} {H:Hp} {v:Value} {l:List Nd} (h:At eNode id H v l) (hid:id < n) (k:Int) (hk:0≤k∧k≤100000000) (hl:l.length≤10000000):RtM Tryz.prog 33 [.agg ⟨[v]⟩,.int .i64 k] id H n (.int .i64 (k+5 * l.length)) (fun H' n'=>At eNode id H' v (fam (nMark k) l.length)):=by
 apply RtM.of
 rw [c33]; unfold S33
 refine W1 trivial ?_
 refine Wp.rtm (k65 (h.mv m0) oo k hk hl) ?_
 intro H1 n1 q1 s1 a1
 refine W0 trivial ?_
 exact Wp.pure ⟨so,(mm s1),rfl,a1⟩
theorem k67 {n:Nat} {H:Hp} {v:Value} {m:Nat} {k:Int} (hv:Li eNode n H v (fam (nMark k) m)) (hk:0≤k∧k≤100000000) (hl:m≤10000000):Rt Tryz.prog 67 [v,.int .i64 k] H n (.int .i64 (k+5 * m)):=by
 apply Rt.mk
 rw [c67]; unfold S67
 refine Wp.bind (Zs (fun d t H' n'=>∃ (j:Nat),j+d=m∧n+2≤n'∧(∀ i,i < n→H' i=H i)∧t 0=v∧t 1=.int .i64 (k+5 * j)∧t 5=.int .i64 j) (fun o=>n≤o.n∧(∀ i,i < n→o.H i=H i)∧o.e=.exit 0∧o.t 1=.int .i64 (k+5 * m)) ?_ m _ H _ ⟨0,by omega,by omega,fun _ _=>rfl,pa,pa,p0⟩) ?_
 ·rintro d t H' n' ⟨j,hj,hn,s0,e0,e1,e5⟩
  unfold S67L0
  have hlen:=hv.len
  rw [fam_len] at hlen
  by_cases hlt:j < m
  ·have hlti:(j:Int) < m:=by omega
   have hw:=wj (j:=j) (len:=m) hlt oo
   have w1:IntKind.i64.wrap (k+5 * (j:Int)+1)=k+5 * j+1:=w64 oo
   have w2:IntKind.i64.wrap (k+5 * (j:Int)+1+1)=k+5 * j+2:=by rw [w64 oo]; omega
   have w3:IntKind.i64.wrap (k+5 * (j:Int)+2+1)=k+5 * j+3:=by rw [w64 oo]; omega
   have w4:IntKind.i64.wrap (k+5 * (j:Int)+3+1)=k+5 * j+4:=by rw [w64 oo]; omega
   have w5:IntKind.i64.wrap (k+5 * (j:Int)+4+1)=k+5 * ((j+1:Nat):Int):=by rw [w64 oo]; omega
   have g:=(hv.mv (m:=n) (H':=H') oo s0).nAll (i:=(j:Int)) oo (by rw [fam_len]; exact hlti)
   rw [fam_gi _ hlt] at g
   simp only [nMark] at g
   refine W0 (A8 e0 e1 e5 hlen hlti g w1 w2) ?_
   refine Zu (k66 (k+5 * j+2) oo _ _) ?_
   intro H1 n1 q1 s1
   have g:=(hv.mv (m:=n) (H':=H1) oo (mm (A2 s1 s0))).nAll (i:=(j:Int)) oo (by rw [fam_len]; exact hlti)
   rw [fam_gi _ hlt] at g
   simp only [nMark] at g
   refine W0 (A8 e0 e1 e5 hlen hlti g w3 (A3 w4 w5 hw)) ?_
   exact Wp.pure (Nxt.go (d - 1) oo ⟨j+1,by omega,by omega,(mm (A2 s1 s0)),pp e0,p0,p0⟩)
  ·have hlti:¬ (j:Int) < m:=by omega
   refine W0 (A5 e0 e1 e5 hlen hlti) ?_
   have hjl:j=m:=by omega
   subst hjl
   exact Wp.pure (Nxt.exit ⟨so,s0,rfl,pp e1⟩)
 ·rintro ⟨oe,ot,oH,on⟩ ⟨f1,f2,rfl,f4⟩
  simp only at f1 f2 f4
  simp(disch:=omega)only[↓reduceIte,Zh,↓X0,X1,Nat.reduceEqDiff,Int.reduceEq,Nat.reduceAdd,Nat.reduceSub,f4]
  exact Wp.pure ⟨so,f2,rfl⟩
theorem k36 {n:Nat} {H:Hp} {v:Value} {m:Nat} {k:Int} (hv:Li eNode n H v (fam (nMark k) m)) (hk:0≤k∧k≤100000000) (hl:m≤10000000):Rt Tryz.prog 36 [.agg ⟨[v]⟩,.int .i64 k] H n (.int .i64 (k+5 * m)):=by
 apply Rt.mk
 rw [c36]; unfold S36
 refine W1 trivial ?_
 refine Zu (k67 (hv.mv oo m0) hk hl) ?_
 intro H1 n1 q1 s1
 refine W0 ((show ¬ k+5 * (m:Int) < 0 by omega)) ?_
 exact Wp.pure ⟨so,(mm s1),rfl⟩
end Go.Proofs.YtcffcnipmgkjfaaGreat.Ax
set_option linter.unusedVariables false
set_option linter.unusedSimpArgs false
namespace Go.Proofs.YtcffcnipmgkjfaaGreat.Ax
open Go
abbrev RtA (P:Program) (f:Nat) (args:List Value) (c id:Nat) (H:Hp) (n:Nat) (R:Value→Hp→Nat→Prop):Prop:=∃ v H' n',n≤n'∧(∀ i,i < n→i≠c→i≠id→H' i=H i)∧Call P f args H n=some (v,H',n')∧R v H' n'
theorem Zp {P:Program} {f:Nat} {args:List Value} {H:Hp} {n c id:Nat} {β:Type} {g:Value × Hp × Nat→Option β} {Q:β→Prop} {R:Value→Hp→Nat→Prop} (h:RtA P f args c id H n R) (k:∀ v H' n',n≤n'→(∀ i,i < n→i≠c→i≠id→H' i=H i)→R v H' n'→Wp (g (v,H',n')) Q):Wp ((Call P f args H n).bind g) Q:=by
 obtain ⟨v,H',n',h1,h2,h3,h4⟩:=h
 rw [h3]; exact k v H' n' h1 h2 h4
theorem RtA.of {P:Program} {f:Nat} {args:List Value} {c id:Nat} {H:Hp} {n:Nat} {R:Value→Hp→Nat→Prop} (h:Wp (Call P f args H n) fun q=>n≤q.2.2∧(∀ i,i < n→i≠c→i≠id→q.2.1 i=H i)∧R q.1 q.2.1 q.2.2):RtA P f args c id H n R:=by
 obtain ⟨⟨v',H',n'⟩,h1,h2,h3,h4⟩:=h
 exact ⟨v',H',n',h2,h3,h1,h4⟩
theorem setAt_set {cs:List Value} {o:Nat} (v:Value) (h:o < cs.length):setAt cs o [v]=cs.set o v:=by
 unfold setAt
 rw [List.set_eq_take_append_cons_drop,if_pos h]
 simp
theorem st_cset {H:Hp} {c o:Nat} {cs:List Value} {e:Nat} {v:Value} (h:H c=some (.row cs e true)) (ho:o < cs.length) (hv:cell1 v=true):st false 1 (ptr c o) v H=some (H.set c (some (.row (cs.set o v) e true))):=by
 rw [st_c hv,stv_box h,setAt_set v ho]
 rw [if_pos (by simp; omega)]
theorem lt_get {cs:List Value} {o:Nat} {v:Value} (h:cs[o]?=some v):o < cs.length:=(List.getElem?_eq_some_iff.1 h).1
structure PC (c o id n:Nat) (H:Hp) (cs:List Value) (e:Nat) (v:Value) (l:List Nd):Prop where
 hc:H c=some (.row cs e true)
 ho:cs[o]?=some v
 at_:At eNode id H v l
 cn:c < n
 idn:id < n
 ne:id≠c
theorem PC.mv {c o id n m:Nat} {H H':Hp} {cs:List Value} {e:Nat} {v:Value} {l:List Nd} (h:PC c o id n H cs e v l) (hm:n≤m) (h1:H' c=H c) (h2:H' id=H id):PC c o id m H' cs e v l :=
 ⟨by rw [h1]; exact h.hc,h.ho,h.at_.mv h2,by have:=h.cn; omega,by have:=h.idn; omega,h.ne⟩
theorem sub1 {m:Nat} (h:m≤9000000000000000000):IntKind.i64.wrap (((m+1:Nat):Int) - 1)=(m:Int):=by rw [w64 oo]; omega
theorem k101 {c o id n:Nat} {H:Hp} {cs:List Value} {e:Nat} {v:Value} {l:List Nd} (h:PC c o id n H cs e v l) (hl:l.length≤10000000) (x:Nd) :
  RtA Tryz.prog 101 [ptr c o,.agg ⟨x.cells⟩] c id H n (fun r H' n'=>r=.int .i64 l.length∧∃ v' id',n≤id'∧PC c o id' n' H' (cs.set o v') e v' (l++[x])):=by
 apply RtA.of
 rw [c101]; unfold S101
 obtain ⟨hc,ho,hat,hcn,hid,hne⟩:=h
 have hol:=lt_get ho
 refine W1 (A4 hc ho @Nd.cells.eq_1 @bsl_n) ?_
 refine Wp.app1 (E:=eNode) x (hat.mv m0) oo (by decide) oo ?_
 intro H4 r1 r2
 have hc4:H4 c=some (.row cs e true):=by simp (disch:=omega) only [r2,Zj,hc]
 have hst:=st_cset (v:=sl (n+9) 0 (l++[x]).length) hc4 hol rfl
 have hlast:(cs.set o (sl (n+9) 0 (l++[x]).length))[o]?=some (sl (n+9) 0 (l++[x]).length):=by rw [List.getElem?_set_self hol]
 have hw:IntKind.i64.wrap (((l++[x]).length:Int) - 1)=(l.length:Int):=by rw [List.length_append]; exact sub1 oo
 refine W0 (A6 hst @ld_r @Zf @rowGet_row hlast hw) ?_
 refine Wp.pure ⟨so,?_,rfl,_,n+9,by omega,Zf _ _ _,hlast,.inr ⟨rfl,?_⟩,so,so,by omega⟩
 ·intro i hi h1 h2; simp (disch:=omega) only [Zj,r2]
 ·exact (Zj _ _ oo).trans r1
theorem k88 {c o id n:Nat} {H:Hp} {cs:List Value} {e:Nat} {v:Value} {l:List Nd} (h:PC c o id n H cs e v l) (hl:l.length≤10000000) (x:Nd) :
  RtA Tryz.prog 88 [ptr c o,.agg ⟨x.cells⟩] c id H n (fun r H' n'=>r=.int .i64 l.length∧∃ v' id',n≤id'∧PC c o id' n' H' (cs.set o v') e v' (l++[x])):=by
 apply RtA.of
 rw [c88]; unfold S88
 obtain ⟨hc,ho,hat,hcn,hid,hne⟩:=h
 have hol:=lt_get ho
 refine W1 (A4 hc ho @Nd.cells.eq_1 @bsl_n) ?_
 refine Wp.app1 (E:=eNode) x (hat.mv m0) oo (by decide) oo ?_
 intro H4 r1 r2
 have hc4:H4 c=some (.row cs e true):=by simp (disch:=omega) only [r2,Zj,hc]
 have hst:=st_cset (v:=sl (n+9) 0 (l++[x]).length) hc4 hol rfl
 have hlast:(cs.set o (sl (n+9) 0 (l++[x]).length))[o]?=some (sl (n+9) 0 (l++[x]).length):=by rw [List.getElem?_set_self hol]
 have hw:IntKind.i64.wrap (((l++[x]).length:Int) - 1)=(l.length:Int):=by rw [List.length_append]; exact sub1 oo
 refine W0 (A6 hst @ld_r @Zf @rowGet_row hlast hw) ?_
 refine Wp.pure ⟨so,?_,rfl,_,n+9,by omega,Zf _ _ _,hlast,.inr ⟨rfl,?_⟩,so,so,by omega⟩
 ·intro i hi h1 h2; simp (disch:=omega) only [Zj,r2]
 ·exact (Zj _ _ oo).trans r1
theorem k125 {c o id n:Nat} {H:Hp} {cs:List Value} {e:Nat} {v:Value} {l:List Nd} (h:PC c o id n H cs e v l) (hl:l.length≤10000000) (a b:Int) :
  RtA Tryz.prog 125 [ptr c o,.int .i64 a,.int .i64 b] c id H n (fun r H' n'=>r=.int .i64 l.length∧∃ v' id',n≤id'∧PC c o id' n' H' (cs.set o v') e v' (l++[⟨5,0,⟨#[]⟩,a,b⟩])):=by
 apply RtA.of
 rw [c125]; unfold S125
 refine W1 trivial ?_
 refine Zp (k101 (h.mv oo rfl rfl) hl ⟨5,0,⟨#[]⟩,a,b⟩) ?_
 rintro _ H1 n1 q1 s1 ⟨rfl,v',id',i1,i2⟩
 refine W0 trivial ?_
 exact Wp.pure ⟨so,(mm s1),rfl,v',id',by omega,i2⟩
theorem Li.nilOr {α:Type} {E:Enc α} {n:Nat} {H:Hp} {v:Value} {l:List α} (h:Li E n H v l):(v=nilS∧l=[])∨∃ a m c,v=.slice (some a) m c:=by
 obtain ⟨⟨_,⟨h0,rfl | ⟨i,o,q,c,rfl⟩⟩ | ⟨i,o,c,cs,e,rw,rfl,_⟩⟩,_⟩:=h
 ·exact .inl ⟨rfl,List.length_eq_zero_iff.1 h0⟩
 ·exact .inr ⟨_,_,_,rfl⟩
 ·exact .inr ⟨_,_,_,rfl⟩
theorem bsl_z5 (id:Nat) (H:Hp):bsl id 5 0 [.int .i64 0,.int .i64 0,.string ⟨#[]⟩,.int .i64 0,.int .i64 0] [] H=some (sl id 0 0,H.set id (some (.row [] 5 true))):=bsl_zn _ _ _ _ rfl
theorem k92 {n:Nat} {H:Hp} {v:Value} {l:List Nd} (hv:Li eNode n H v l) (hl:l.length≤10000000):RtN Tryz.prog 92 [v] H n (fun r H' n'=>New eNode n n' H' r l):=by
 apply RtN.mk
 rw [c92]; unfold S92
 rcases hv.nilOr with ⟨rfl,rfl⟩ | ⟨a,m,c,rfl⟩
 ·refine W0 ((show Zd .slice .eql nilS nilS=some (.bool true) from rfl)) ?_
  exact Wp.pure ⟨so,fun _ _=>rfl,n,by omega,so,At.nil⟩
 ·refine W0 (A2 (show Zd .slice .eql (.slice (some a) m c) nilS=some (.bool false) from rfl) @bsl_z5) ?_
  refine Wp.appL (E:=eNode) (l:=[]) (id:=n+3) (.inr ⟨rfl,Zf _ _ _⟩) (hv.mv (m:=n) oo m0) (by decide) (by simp; omega) ?_
  intro v' H' a1 a2
  refine W0 trivial ?_
  refine Wp.pure ⟨so,?_,n+5,by omega,so,by simpa using a1⟩
  intro i hi; simp (disch:=omega) only [a2,Zj]
theorem Wp.bld1 {z:Value} {v:Value} {β:Type} {g:Value→Option β} {Q:β→Prop} (hv:cell1 v=true) (k:Wp (g (.agg ⟨[v]⟩)) Q):Wp ((bld [z] [(0,1,v)]).bind g) Q:=by
 have:bld [z] [(0,1,v)]=some (.agg ⟨[v]⟩):=by
  simp [bld,fill,vcells1 hv,setAt]
 rw [this]; exact k
theorem k57 {n:Nat} {H:Hp} {v:Value} {l:List Nd} (hv:Li eNode n H v l) (hl:l.length≤10000000):RtN Tryz.prog 57 [.agg ⟨[v]⟩] H n (fun r H' n'=>∃ u,r=.agg ⟨[u]⟩∧New eNode n n' H' u l):=by
 apply RtN.mk
 rw [c57]; unfold S57
 refine W1 trivial ?_
 refine Wp.rtn (k92 (hv.mv oo m0) hl) ?_
 rintro u H1 n1 q1 s1 ⟨id,i1,i2,i3⟩
 refine Wp.bld1 i3.cell ?_
 refine W1 s1 ?_
 exact Wp.pure ⟨so,(mm s1),u,rfl,id,by omega,so,i3.mv m0⟩
theorem k51 {n:Nat} {H:Hp} {v:Value} {l:List Nd} (hv:Li eNode n H v l) (hl:l.length≤10000000):RtN Tryz.prog 51 [.agg ⟨[v]⟩] H n (fun r H' n'=>∃ u,r=.agg ⟨[u]⟩∧New eNode n n' H' u l):=by
 apply RtN.mk
 rw [c51]; unfold S51
 refine W1 @bsl_z5 ?_
 refine Wp.appL (E:=eNode) (l:=[]) (id:=n+2) (.inr ⟨rfl,Zf _ _ _⟩) (hv.mv (m:=n) oo m0) (by decide) (by simp; omega) ?_
 intro v' H' a1 a2
 refine Wp.bld1 a1.cell ?_
 refine W1 a2 ?_
 refine Wp.pure ⟨so,?_,v',rfl,n+5,by omega,so,?_⟩
 ·intro i hi; simp (disch:=omega) only [a2,Zj]
 ·simpa using a1.mv (H':=H'.set (n+1) (some (.row [v'] 0 true))) (by rw [Zj _ _ oo])
end Go.Proofs.YtcffcnipmgkjfaaGreat.Ax
set_option linter.unusedVariables false
set_option linter.unusedSimpArgs false
set_option maxHeartbeats 4000000
namespace Go.Proofs.YtcffcnipmgkjfaaGreat.Ax
open Go
theorem k49 (x:Ins) (left:Int) (hx:x.s.size≤9223372036854775807) (hl:0≤left∧left≤9000000000000000000) (H:Hp) (n:Nat):Rt Tryz.prog 49 [.agg ⟨x.cells⟩,.int .i64 left] H n (.int .i64 (if left - x.s.size < 0 then -1 else left - x.s.size)):=by
 apply Rt.mk
 rw [c49]; unfold S49
 have hw:IntKind.i64.wrap (left - (x.s.size:Int))=left - x.s.size:=w64 oo
 by_cases h:left - (x.s.size:Int) < 0
 ·refine W1 (A3 @Ins.cells.eq_1 hw h) ?_
  exact Wp.pure ⟨so,m0,by simp only [h,if_true]⟩
 ·refine W1 (A3 @Ins.cells.eq_1 hw h) ?_
  exact Wp.pure ⟨so,m0,by simp only [h,if_false]⟩
theorem l21 {n0:Nat} {H0:Hp} {v:Value} {l:List Ins} (hv:Li eIns n0 H0 v l) (hs:∀ x∈l,x.s.size≤9223372036854775807) (hl:l.length≤1048576) (m:Int) (hm:m≤1048576):∀ t n,n0≤n→t 0=v→t 5=.int .i64 0→t 1=.int .i64 m→0≤m →
  Wp (Zi (S21L0 (Call Tryz.prog) Zi) t H0 n) (fun o=>n≤o.n∧Same n0 H0 o.H∧((o.e=.exit 0∧∃ r:Int,0≤r∧r≤m∧o.t 1=.int .i64 r∧∀ x∈l,(x.s.size:Int)≤m)∨(o.e=.ret∧o.t 4=.int .i64 (-1)))):=by
 intro t n hn0 e0 e5 e1 hm0
 refine Zs (fun d t H n'=>∃ (j:Nat) (r:Int),j+d=l.length∧n≤n'∧Same n0 H0 H∧t 0=v∧t 5=.int .i64 j∧t 1=.int .i64 r∧0≤r∧r≤m∧∀ x∈l.take j,(x.s.size:Int)≤m) _ ?_ l.length t H0 n ⟨0,m,by omega,by omega,Same.refl _ _,e0,e5,e1,hm0,by omega,by simp⟩
 rintro d t H n' ⟨j,r,hj,hn,hsm,e0,e5,e1,hr0,hr1,hx⟩
 unfold S21L0
 have hv':=hv.keep hsm (Nat.le_refl _)
 by_cases hlt:(j:Int) < l.length
 ·have hlt':j < l.length:=by omega
  have g:=hv'.sAll oo hlt
  have hmem:=gi_mem (l:=l) oo hlt
  obtain ⟨H1,n1,a1,a2,a3⟩:=k49 (gi l (j:Int)) r (hs _ hmem) oo H (n'+11)
  by_cases h:r - ((gi l (j:Int)).s.size:Int) < 0
  ·refine W0 (A8 e0 e5 e1 hv'.len hlt g a3 h) ?_
   exact Wp.pure (Nxt.ret ⟨so,hsm.trans (a2.less (show n0≤n'+11 by omega)) (Nat.le_refl _),.inr ⟨rfl,p0⟩⟩)
  ·have hw:=wj (j:=j) (len:=l.length) hlt' oo
   refine W0 (A8 e0 e5 e1 hv'.len hlt g a3 (A2 h hw)) ?_
   refine Wp.pure (Nxt.go (d - 1) oo ⟨j+1,r - (gi l (j:Int)).s.size,by omega,by omega,hsm.trans (a2.less (show n0≤n'+11 by omega)) (Nat.le_refl _),pp e0,p0,p0,by omega,by omega,?_⟩)
   intro x hx'
   rw [take_next hlt'] at hx'
   rcases List.mem_append.1 hx' with h' | h'
   ·exact hx x h'
   ·simp only [List.mem_cons,List.not_mem_nil,or_false] at h'
    rw [h',← gi_nat hlt']; omega
 ·refine W0 (A5 e0 e5 e1 hv'.len hlt) ?_
  rw [List.take_of_length_le oo] at hx
  exact Wp.pure (Nxt.exit ⟨so,hsm,.inl ⟨rfl,r,hr0,hr1,pp e1,hx⟩⟩)
def LightI (l:List Ins) (left r:Int):Prop:=-1≤r∧r≤left∧(0≤r→(l.length:Int)≤left∧∀ x∈l,(x.s.size:Int)≤left)
theorem k21 {n:Nat} {H:Hp} {v:Value} {l:List Ins} (hv:Li eIns n H v l) (hs:∀ x∈l,x.s.size≤9223372036854775807) (hl:l.length≤9223372036854775807) (left:Int) (hleft:0≤left∧left≤1048576):∃ r,LightI l left r∧Rt Tryz.prog 21 [v,.int .i64 left] H n (.int .i64 r):=by
 unfold Rt LightI
 rw [c21]; unfold S21
 have hw:IntKind.i64.wrap (left - (l.length:Int))=left - l.length:=w64 oo
 by_cases h:left - (l.length:Int) < 0
 ·refine ⟨-1,⟨by omega,by omega,fun h=>by omega⟩,?_⟩
  simp(disch:=omega)only[↓reduceIte,Zh,↓X0,X1,Nat.reduceEqDiff,Int.reduceEq,Nat.reduceAdd,Nat.reduceSub,hv.len,hw,h]
  exact ⟨_,_,by omega,Same.refl _ _,rfl⟩
 ·simp(disch:=omega)only[↓reduceIte,Zh,↓X0,X1,Nat.reduceEqDiff,Int.reduceEq,Nat.reduceAdd,Nat.reduceSub,hv.len,hw,h]
  generalize hT:put _ _ _=T
  obtain ⟨⟨oe,ot,oH,on⟩,f1,f2,f3,f4⟩:=l21 hv hs oo (left - l.length) oo T (n+9) oo (by rw [← hT]; simp [Zk,Zt]) (by rw [← hT]; simp [Zk]) (by rw [← hT]; simp [Zk]) oo
  simp only at f2 f3 f4
  rw [f1]
  rcases f4 with ⟨rfl,r,f4,f5,f6,f7⟩ | ⟨rfl,f4⟩
  ·refine ⟨r,⟨by omega,by omega,fun _=>⟨by omega,fun x hx=>by have:=f7 x hx; omega⟩⟩,?_⟩
   simp(disch:=omega)only[↓reduceIte,Zh,↓X0,X1,Nat.reduceEqDiff,Int.reduceEq,Nat.reduceAdd,Nat.reduceSub,outOf,f6]
   exact ⟨_,_,by omega,f3,rfl⟩
  ·refine ⟨-1,⟨by omega,by omega,fun h=>by omega⟩,?_⟩
   simp(disch:=omega)only[↓reduceIte,Zh,↓X0,X1,Nat.reduceEqDiff,Int.reduceEq,Nat.reduceAdd,Nat.reduceSub,outOf,f4]
   exact ⟨_,_,by omega,f3,rfl⟩
theorem k55 (x:Ins) (H:Hp) (n:Nat):Rt Tryz.prog 55 [.agg ⟨x.cells⟩] H n (.agg ⟨x.cells⟩):=by
 apply Rt.mk
 rw [c55]; unfold S55
 refine W1 @Ins.cells.eq_1 ?_
 exact Wp.pure ⟨so,m0,rfl⟩
theorem l26 {n0 id:Nat} {H0:Hp} {v:Value} {l:List Ins} (hv:Li eIns n0 H0 v l) (hid:n0≤id) (hl:l.length≤100000000):∀ t H n,id < n→Same n0 H0 H→t 0=v→t 3=sl id 0 l.length→t 4=.int .i64 0→H id=some (.row ((List.replicate l.length (default:Ins)).flatMap eIns.cells) 4 true) →
  Wp (Zi (S26L0 (Call Tryz.prog) Zi) t H n) (fun o=>n≤o.n∧Same n0 H0 o.H∧o.e=.exit 0∧o.t 3=sl id 0 l.length∧o.H id=some (.row (l.flatMap eIns.cells) 4 true)):=by
 intro t H n hn0 hsm e0 e3 e4 hH
 refine Zs (fun d t H n'=>∃ (j:Nat),j+d=l.length∧n≤n'∧Same n0 H0 H∧t 0=v∧t 3=sl id 0 l.length∧t 4=.int .i64 j∧H id=some (.row ((l.take j++List.replicate d (default:Ins)).flatMap eIns.cells) 4 true)) _ ?_ l.length t H n ⟨0,by omega,by omega,hsm,e0,e3,e4,by simpa using hH⟩
 rintro d t H n' ⟨j,hj,hn,hsm,e0,e3,e4,hH⟩
 unfold S26L0
 have hv':=hv.keep hsm (Nat.le_refl _)
 by_cases hlt:(j:Int) < l.length
 ·have hlt':j < l.length:=by omega
  obtain ⟨d,rfl⟩:∃ d',d=d'+1:=⟨d - 1,by omega⟩
  have g:=hv'.sAll oo hlt
  have hw:=wj (j:=j) (len:=l.length) hlt' oo
  obtain ⟨H1,n1,a1,a2,a3⟩:=k55 (gi l (j:Int)) H (n'+13)
  have hix:Zn 4 (sl id 0 l.length) (.int .i64 j)=some (ptr id (j * 4)):=by simp [Zn,hlt']
  have hst:st true 4 (ptr id (j * 4)) (.agg ⟨(gi l (j:Int)).cells⟩) H1=some (H1.set id (some (.row ((l.take (j+1)++List.replicate d (default:Ins)).flatMap eIns.cells) 4 true))):=by
   rw [st_agg,if_pos (show (gi l (j:Int)).cells.length=4 from rfl)]
   have hH1:H1 id=some (.row ((l.take j++List.replicate (d+1) (default:Ins)).flatMap eIns.cells) 4 true):=by rw [a2 id oo]; exact hH
   have:=st_el (E:=eIns) hH1 (j:=j) (by simp; omega) (gi l (j:Int))
   have hset:(l.take j++List.replicate (d+1) (default:Ins)).set j (gi l (j:Int))=l.take (j+1)++List.replicate d default:=by
    rw [take_next hlt',gi_nat hlt',List.replicate_succ,List.set_append_right _ _ (by rw [List.length_take]; omega)]
    rw [List.length_take,Nat.min_eq_left oo,Nat.sub_self,List.set_cons_zero,List.append_assoc]
    rfl
   rw [hset] at this
   exact this
  refine W0 (A8 e0 e3 e4 hv'.len hlt g a3 (A3 hix hst hw)) ?_
  exact Wp.pure (Nxt.go d oo ⟨j+1,by omega,by omega,(hsm.trans (a2.less (show n0≤n'+13 by omega)) (Nat.le_refl _)).set hid _,pp e0,pp e3,p0,Zf _ _ _⟩)
 ·refine W0 (A5 e0 e3 e4 hv'.len hlt) ?_
  have hd:d=0:=by omega
  subst hd
  rw [List.take_of_length_le oo] at hH
  exact Wp.pure (Nxt.exit ⟨Nat.le_trans hn (Nat.le_add_right _ _),hsm,rfl,pp e3,by simpa using hH⟩)
theorem k26 {n:Nat} {H:Hp} {v:Value} {l:List Ins} (hv:Li eIns n H v l) (hl:l.length≤100000000):RtN Tryz.prog 26 [v] H n (fun w H' n'=>New eIns n n' H' w l):=by
 unfold RtN
 rw [c26]; unfold S26
 have hm:=mks_new eIns (default:Ins) (id:=n+3) (bytes:=40) (k:=l.length) H (by decide) oo
 have hz:eIns.cells (default:Ins)=[.int .i64 0,.int .i64 0,.int .i64 0,.string ⟨#[]⟩]:=rfl
 rw [hz] at hm
 simp(disch:=omega)only[↓reduceIte,Zh,↓X0,X1,Nat.reduceEqDiff,Int.reduceEq,Nat.reduceAdd,Nat.reduceSub,hv.len,hm]
 generalize hT:put _ _ _=T
 obtain ⟨⟨oe,ot,oH,on⟩,f1,f2,f3,f4,f5,f6⟩:=l26 (id:=n+3) hv oo hl T (H.set (n+3) (some (.row ((List.replicate l.length (default:Ins)).flatMap eIns.cells) 4 true))) (n+6) oo ((Same.refl _ _).set oo _) (by rw [← hT]; simp [Zk,Zt]) (by rw [← hT]; simp [Zk]) (by rw [← hT]; simp [Zk]) (Zf _ _ _)
 simp only at f2 f3 f4 f5 f6
 rw [f1]
 simp(disch:=omega)only[↓reduceIte,Zh,↓X0,X1,Nat.reduceEqDiff,Int.reduceEq,Nat.reduceAdd,Nat.reduceSub,f5]
 exact ⟨_,_,_,by omega,f3,rfl,n+3,by omega,by omega,.inr ⟨rfl,f6⟩⟩
theorem k63 (x y:Ins) (H:Hp) (n:Nat):Rt Tryz.prog 63 [.agg ⟨x.cells⟩,.agg ⟨y.cells⟩] H n (.bool (decide (x=y))):=by
 apply Rt.mk
 rw [c63]; unfold S63
 have hxy:(x=y)=(x.op=y.op∧x.n=y.n∧x.i=y.i∧x.s=y.s):=by
  apply propext; constructor
  ·rintro rfl; exact ⟨rfl,rfl,rfl,rfl⟩
  ·rintro ⟨a,b,c,d⟩; cases x; cases y; simp_all
 by_cases h0:x.op=y.op
 case neg =>
  refine W1 (A2 @Ins.cells.eq_1 h0) ?_
  exact Wp.pure ⟨so,m0,by rw [decide_eq_false (fun h=>h0 (by rw [h]))]⟩
 by_cases h1:x.n=y.n
 case neg =>
  refine W1 (A3 @Ins.cells.eq_1 h0 h1) ?_
  exact Wp.pure ⟨so,m0,by rw [decide_eq_false (fun h=>h1 (by rw [h]))]⟩
 by_cases h2:x.i=y.i
 case neg =>
  refine W1 (A4 @Ins.cells.eq_1 h0 h1 h2) ?_
  exact Wp.pure ⟨so,m0,by rw [decide_eq_false (fun h=>h2 (by rw [h]))]⟩
 by_cases h3:x.s=y.s
 case neg =>
  refine W1 (A5 @Ins.cells.eq_1 h0 h1 h2 h3) ?_
  exact Wp.pure ⟨so,m0,by rw [decide_eq_false (fun h=>h3 (by rw [h]))]⟩
 refine W1 (A5 @Ins.cells.eq_1 h0 h1 h2 h3) ?_
 exact Wp.pure ⟨so,m0,by rw [decide_eq_true (hxy ▸ ⟨h0,h1,h2,h3⟩)]⟩
theorem l31 {n0:Nat} {H0:Hp} {v1 v2:Value} {a b:List Ins} (h1:Li eIns n0 H0 v1 a) (h2:Li eIns n0 H0 v2 b) (hab:a.length=b.length) (hl:a.length≤1000000000):∀ t n,n0≤n→t 0=v1→t 1=v2→t 5=.int .i64 0 →
  Wp (Zi (S31L0 (Call Tryz.prog) Zi) t H0 n) (fun o=>n≤o.n∧Same n0 H0 o.H∧((o.e=.exit 0∧a=b)∨(o.e=.ret∧o.t 4=.bool false∧a≠b))):=by
 intro t n hn0 e0 e1 e5
 refine Zs (fun d t H n'=>∃ (j:Nat),j+d=a.length∧n≤n'∧Same n0 H0 H∧t 0=v1∧t 1=v2∧t 5=.int .i64 j∧a.take j=b.take j) _ ?_ a.length t H0 n ⟨0,by omega,by omega,Same.refl _ _,e0,e1,e5,by simp⟩
 rintro d t H n' ⟨j,hj,hn,hsm,e0,e1,e5,htk⟩
 unfold S31L0
 have g1:=h1.keep hsm (Nat.le_refl _)
 have g2:=h2.keep hsm (Nat.le_refl _)
 by_cases hlt:(j:Int) < a.length
 ·have ha:j < a.length:=by omega
  have hb:j < b.length:=by omega
  have q1:=g1.sAll oo hlt
  have q2:=g2.sAll (i:=(j:Int)) oo oo
  have hw:=wj (j:=j) (len:=a.length) ha oo
  obtain ⟨H1,n1,a1,a2,a3⟩:=k63 (gi a (j:Int)) (gi b (j:Int)) H (n'+14)
  have s2:=hsm.trans (a2.less (show n0≤n'+14 by omega)) (Nat.le_refl _)
  by_cases he:gi a (j:Int)=gi b (j:Int)
  ·rw [decide_eq_true he] at a3
   refine W0 (A8 e0 e1 e5 g1.len hlt q1 q2 (A2 a3 hw)) ?_
   exact Wp.pure (Nxt.go (d - 1) oo ⟨j+1,by omega,by omega,s2,pp e0,pp e1,p0,by rw [take_next ha,take_next hb,htk,← gi_nat ha,← gi_nat hb,he]⟩)
  ·rw [decide_eq_false he] at a3
   refine W0 (A8 e0 e1 e5 g1.len hlt q1 q2 (A2 a3 hw)) ?_
   exact Wp.pure (Nxt.ret ⟨so,s2,.inr ⟨rfl,p0,fun h=>he (by rw [h])⟩⟩)
 ·refine W0 (A5 e0 e1 e5 g1.len hlt) ?_
  rw [List.take_of_length_le oo,List.take_of_length_le oo] at htk
  exact Wp.pure (Nxt.exit ⟨Nat.le_trans hn (Nat.le_add_right _ _),hsm,.inl ⟨rfl,htk⟩⟩)
theorem k31 {n:Nat} {H:Hp} {v1 v2:Value} {a b:List Ins} (h1:Li eIns n H v1 a) (h2:Li eIns n H v2 b) (hl:a.length≤1000000000):Rt Tryz.prog 31 [v1,v2] H n (.bool (decide (a=b))):=by
 unfold Rt
 rw [c31]; unfold S31
 by_cases hab:(a.length:Int)=b.length
 ·simp(disch:=omega)only[↓reduceIte,Zh,↓X0,X1,Nat.reduceEqDiff,Int.reduceEq,Nat.reduceAdd,Nat.reduceSub,h1.len,h2.len,hab]
  generalize hT:put _ _ _=T
  obtain ⟨⟨oe,ot,oH,on⟩,f1,f2,f3,f4⟩:=l31 h1 h2 oo hl T (n+7) oo (by rw [← hT]; simp [Zk,Zt]) (by rw [← hT]; simp [Zk,Zt]) (by rw [← hT]; simp [Zk])
  simp only at f2 f3 f4
  rw [f1]
  rcases f4 with ⟨rfl,f4⟩ | ⟨rfl,f4,f5⟩
  ·simp(disch:=omega)only[↓reduceIte,Zh,↓X0,X1,Nat.reduceEqDiff,Int.reduceEq,Nat.reduceAdd,Nat.reduceSub,outOf,f4]
   exact ⟨_,_,by omega,f3,rfl⟩
  ·simp(disch:=omega)only[↓reduceIte,Zh,↓X0,X1,Nat.reduceEqDiff,Int.reduceEq,Nat.reduceAdd,Nat.reduceSub,outOf,f4,f5]
   exact ⟨_,_,by omega,f3,rfl⟩
 ·have hne:¬ a=b:=fun h=>hab (by rw [h])
  simp(disch:=omega)only[↓reduceIte,Zh,↓X0,X1,Nat.reduceEqDiff,Int.reduceEq,Nat.reduceAdd,Nat.reduceSub,h1.len,h2.len,hab,hne]
  exact ⟨_,_,by omega,Same.refl _ _,rfl⟩
theorem k50 (x:Df) (left:Int) (hx:x.s.size≤9223372036854775807) (hl:0≤left∧left≤9000000000000000000) (H:Hp) (n:Nat):Rt Tryz.prog 50 [.agg ⟨x.cells⟩,.int .i64 left] H n (.int .i64 (if left - x.s.size < 0 then -1 else left - x.s.size)):=by
 apply Rt.mk
 rw [c50]; unfold S50
 have hw:IntKind.i64.wrap (left - (x.s.size:Int))=left - x.s.size:=w64 oo
 by_cases h:left - (x.s.size:Int) < 0
 ·refine W1 (A3 @Df.cells.eq_1 hw h) ?_
  exact Wp.pure ⟨so,m0,by simp only [h,if_true]⟩
 ·refine W1 (A3 @Df.cells.eq_1 hw h) ?_
  exact Wp.pure ⟨so,m0,by simp only [h,if_false]⟩
theorem l22 {n0:Nat} {H0:Hp} {v:Value} {l:List Df} (hv:Li eDef n0 H0 v l) (hs:∀ x∈l,x.s.size≤9223372036854775807) (hl:l.length≤1048576) (m:Int) (hm:m≤1048576):∀ t n,n0≤n→t 0=v→t 5=.int .i64 0→t 1=.int .i64 m→0≤m →
  Wp (Zi (S22L0 (Call Tryz.prog) Zi) t H0 n) (fun o=>n≤o.n∧Same n0 H0 o.H∧((o.e=.exit 0∧∃ r:Int,0≤r∧r≤m∧o.t 1=.int .i64 r∧∀ x∈l,(x.s.size:Int)≤m)∨(o.e=.ret∧o.t 4=.int .i64 (-1)))):=by
 intro t n hn0 e0 e5 e1 hm0
 refine Zs (fun d t H n'=>∃ (j:Nat) (r:Int),j+d=l.length∧n≤n'∧Same n0 H0 H∧t 0=v∧t 5=.int .i64 j∧t 1=.int .i64 r∧0≤r∧r≤m∧∀ x∈l.take j,(x.s.size:Int)≤m) _ ?_ l.length t H0 n ⟨0,m,by omega,by omega,Same.refl _ _,e0,e5,e1,hm0,by omega,by simp⟩
 rintro d t H n' ⟨j,r,hj,hn,hsm,e0,e5,e1,hr0,hr1,hx⟩
 unfold S22L0
 have hv':=hv.keep hsm (Nat.le_refl _)
 by_cases hlt:(j:Int) < l.length
 ·have hlt':j < l.length:=by omega
  have g:=hv'.dAll oo hlt
  have hmem:=gi_mem (l:=l) oo hlt
  obtain ⟨H1,n1,a1,a2,a3⟩:=k50 (gi l (j:Int)) r (hs _ hmem) oo H (n'+11)
  by_cases h:r - ((gi l (j:Int)).s.size:Int) < 0
  ·refine W0 (A8 e0 e5 e1 hv'.len hlt g a3 h) ?_
   exact Wp.pure (Nxt.ret ⟨so,hsm.trans (a2.less (show n0≤n'+11 by omega)) (Nat.le_refl _),.inr ⟨rfl,p0⟩⟩)
  ·have hw:=wj (j:=j) (len:=l.length) hlt' oo
   refine W0 (A8 e0 e5 e1 hv'.len hlt g a3 (A2 h hw)) ?_
   refine Wp.pure (Nxt.go (d - 1) oo ⟨j+1,r - (gi l (j:Int)).s.size,by omega,by omega,hsm.trans (a2.less (show n0≤n'+11 by omega)) (Nat.le_refl _),pp e0,p0,p0,by omega,by omega,?_⟩)
   intro x hx'
   rw [take_next hlt'] at hx'
   rcases List.mem_append.1 hx' with h' | h'
   ·exact hx x h'
   ·simp only [List.mem_cons,List.not_mem_nil,or_false] at h'
    rw [h',← gi_nat hlt']; omega
 ·refine W0 (A5 e0 e5 e1 hv'.len hlt) ?_
  rw [List.take_of_length_le oo] at hx
  exact Wp.pure (Nxt.exit ⟨so,hsm,.inl ⟨rfl,r,hr0,hr1,pp e1,hx⟩⟩)
def LightD (l:List Df) (left r:Int):Prop:=-1≤r∧r≤left∧(0≤r→(l.length:Int)≤left∧∀ x∈l,(x.s.size:Int)≤left)
theorem k22 {n:Nat} {H:Hp} {v:Value} {l:List Df} (hv:Li eDef n H v l) (hs:∀ x∈l,x.s.size≤9223372036854775807) (hl:l.length≤9223372036854775807) (left:Int) (hleft:0≤left∧left≤1048576):∃ r,LightD l left r∧Rt Tryz.prog 22 [v,.int .i64 left] H n (.int .i64 r):=by
 unfold Rt LightD
 rw [c22]; unfold S22
 have hw:IntKind.i64.wrap (left - (l.length:Int))=left - l.length:=w64 oo
 by_cases h:left - (l.length:Int) < 0
 ·refine ⟨-1,⟨by omega,by omega,fun h=>by omega⟩,?_⟩
  simp(disch:=omega)only[↓reduceIte,Zh,↓X0,X1,Nat.reduceEqDiff,Int.reduceEq,Nat.reduceAdd,Nat.reduceSub,hv.len,hw,h]
  exact ⟨_,_,by omega,Same.refl _ _,rfl⟩
 ·simp(disch:=omega)only[↓reduceIte,Zh,↓X0,X1,Nat.reduceEqDiff,Int.reduceEq,Nat.reduceAdd,Nat.reduceSub,hv.len,hw,h]
  generalize hT:put _ _ _=T
  obtain ⟨⟨oe,ot,oH,on⟩,f1,f2,f3,f4⟩:=l22 hv hs oo (left - l.length) oo T (n+9) oo (by rw [← hT]; simp [Zk,Zt]) (by rw [← hT]; simp [Zk]) (by rw [← hT]; simp [Zk]) oo
  simp only at f2 f3 f4
  rw [f1]
  rcases f4 with ⟨rfl,r,f4,f5,f6,f7⟩ | ⟨rfl,f4⟩
  ·refine ⟨r,⟨by omega,by omega,fun _=>⟨by omega,fun x hx=>by have:=f7 x hx; omega⟩⟩,?_⟩
   simp(disch:=omega)only[↓reduceIte,Zh,↓X0,X1,Nat.reduceEqDiff,Int.reduceEq,Nat.reduceAdd,Nat.reduceSub,outOf,f6]
   exact ⟨_,_,by omega,f3,rfl⟩
  ·refine ⟨-1,⟨by omega,by omega,fun h=>by omega⟩,?_⟩
   simp(disch:=omega)only[↓reduceIte,Zh,↓X0,X1,Nat.reduceEqDiff,Int.reduceEq,Nat.reduceAdd,Nat.reduceSub,outOf,f4]
   exact ⟨_,_,by omega,f3,rfl⟩
theorem k56 (x:Df) (H:Hp) (n:Nat):Rt Tryz.prog 56 [.agg ⟨x.cells⟩] H n (.agg ⟨x.cells⟩):=by
 apply Rt.mk
 rw [c56]; unfold S56
 refine W1 @Df.cells.eq_1 ?_
 exact Wp.pure ⟨so,m0,rfl⟩
theorem l27 {n0 id:Nat} {H0:Hp} {v:Value} {l:List Df} (hv:Li eDef n0 H0 v l) (hid:n0≤id) (hl:l.length≤100000000):∀ t H n,id < n→Same n0 H0 H→t 0=v→t 3=sl id 0 l.length→t 4=.int .i64 0→H id=some (.row ((List.replicate l.length (default:Df)).flatMap eDef.cells) 3 true) →
  Wp (Zi (S27L0 (Call Tryz.prog) Zi) t H n) (fun o=>n≤o.n∧Same n0 H0 o.H∧o.e=.exit 0∧o.t 3=sl id 0 l.length∧o.H id=some (.row (l.flatMap eDef.cells) 3 true)):=by
 intro t H n hn0 hsm e0 e3 e4 hH
 refine Zs (fun d t H n'=>∃ (j:Nat),j+d=l.length∧n≤n'∧Same n0 H0 H∧t 0=v∧t 3=sl id 0 l.length∧t 4=.int .i64 j∧H id=some (.row ((l.take j++List.replicate d (default:Df)).flatMap eDef.cells) 3 true)) _ ?_ l.length t H n ⟨0,by omega,by omega,hsm,e0,e3,e4,by simpa using hH⟩
 rintro d t H n' ⟨j,hj,hn,hsm,e0,e3,e4,hH⟩
 unfold S27L0
 have hv':=hv.keep hsm (Nat.le_refl _)
 by_cases hlt:(j:Int) < l.length
 ·have hlt':j < l.length:=by omega
  obtain ⟨d,rfl⟩:∃ d',d=d'+1:=⟨d - 1,by omega⟩
  have g:=hv'.dAll oo hlt
  have hw:=wj (j:=j) (len:=l.length) hlt' oo
  obtain ⟨H1,n1,a1,a2,a3⟩:=k56 (gi l (j:Int)) H (n'+13)
  have hix:Zn 3 (sl id 0 l.length) (.int .i64 j)=some (ptr id (j * 3)):=by simp [Zn,hlt']
  have hst:st true 3 (ptr id (j * 3)) (.agg ⟨(gi l (j:Int)).cells⟩) H1=some (H1.set id (some (.row ((l.take (j+1)++List.replicate d (default:Df)).flatMap eDef.cells) 3 true))):=by
   rw [st_agg,if_pos (show (gi l (j:Int)).cells.length=3 from rfl)]
   have hH1:H1 id=some (.row ((l.take j++List.replicate (d+1) (default:Df)).flatMap eDef.cells) 3 true):=by rw [a2 id oo]; exact hH
   have:=st_el (E:=eDef) hH1 (j:=j) (by simp; omega) (gi l (j:Int))
   have hset:(l.take j++List.replicate (d+1) (default:Df)).set j (gi l (j:Int))=l.take (j+1)++List.replicate d default:=by
    rw [take_next hlt',gi_nat hlt',List.replicate_succ,List.set_append_right _ _ (by rw [List.length_take]; omega)]
    rw [List.length_take,Nat.min_eq_left oo,Nat.sub_self,List.set_cons_zero,List.append_assoc]
    rfl
   rw [hset] at this
   exact this
  refine W0 (A8 e0 e3 e4 hv'.len hlt g a3 (A3 hix hst hw)) ?_
  exact Wp.pure (Nxt.go d oo ⟨j+1,by omega,by omega,(hsm.trans (a2.less (show n0≤n'+13 by omega)) (Nat.le_refl _)).set hid _,pp e0,pp e3,p0,Zf _ _ _⟩)
 ·refine W0 (A5 e0 e3 e4 hv'.len hlt) ?_
  have hd:d=0:=by omega
  subst hd
  rw [List.take_of_length_le oo] at hH
  exact Wp.pure (Nxt.exit ⟨Nat.le_trans hn (Nat.le_add_right _ _),hsm,rfl,pp e3,by simpa using hH⟩)
theorem k27 {n:Nat} {H:Hp} {v:Value} {l:List Df} (hv:Li eDef n H v l) (hl:l.length≤100000000):RtN Tryz.prog 27 [v] H n (fun w H' n'=>New eDef n n' H' w l):=by
 unfold RtN
 rw [c27]; unfold S27
 have hm:=mks_new eDef (default:Df) (id:=n+3) (bytes:=32) (k:=l.length) H (by decide) oo
 have hz:eDef.cells (default:Df)=[.string ⟨#[]⟩,.int .i64 0,.int .i64 0]:=rfl
 rw [hz] at hm
 simp(disch:=omega)only[↓reduceIte,Zh,↓X0,X1,Nat.reduceEqDiff,Int.reduceEq,Nat.reduceAdd,Nat.reduceSub,hv.len,hm]
 generalize hT:put _ _ _=T
 obtain ⟨⟨oe,ot,oH,on⟩,f1,f2,f3,f4,f5,f6⟩:=l27 (id:=n+3) hv oo hl T (H.set (n+3) (some (.row ((List.replicate l.length (default:Df)).flatMap eDef.cells) 3 true))) (n+6) oo ((Same.refl _ _).set oo _) (by rw [← hT]; simp [Zk,Zt]) (by rw [← hT]; simp [Zk]) (by rw [← hT]; simp [Zk]) (Zf _ _ _)
 simp only at f2 f3 f4 f5 f6
 rw [f1]
 simp(disch:=omega)only[↓reduceIte,Zh,↓X0,X1,Nat.reduceEqDiff,Int.reduceEq,Nat.reduceAdd,Nat.reduceSub,f5]
 exact ⟨_,_,_,by omega,f3,rfl,n+3,by omega,by omega,.inr ⟨rfl,f6⟩⟩
theorem k64 (x y:Df) (H:Hp) (n:Nat):Rt Tryz.prog 64 [.agg ⟨x.cells⟩,.agg ⟨y.cells⟩] H n (.bool (decide (x=y))):=by
 apply Rt.mk
 rw [c64]; unfold S64
 have hxy:(x=y)=(x.s=y.s∧x.at_=y.at_∧x.args=y.args):=by
  apply propext; constructor
  ·rintro rfl; exact ⟨rfl,rfl,rfl⟩
  ·rintro ⟨a,b,c⟩; cases x; cases y; simp_all
 by_cases h0:x.s=y.s
 case neg =>
  refine W1 (A2 @Df.cells.eq_1 h0) ?_
  exact Wp.pure ⟨so,m0,by rw [decide_eq_false (fun h=>h0 (by rw [h]))]⟩
 by_cases h1:x.at_=y.at_
 case neg =>
  refine W1 (A3 @Df.cells.eq_1 h0 h1) ?_
  exact Wp.pure ⟨so,m0,by rw [decide_eq_false (fun h=>h1 (by rw [h]))]⟩
 by_cases h2:x.args=y.args
 case neg =>
  refine W1 (A4 @Df.cells.eq_1 h0 h1 h2) ?_
  exact Wp.pure ⟨so,m0,by rw [decide_eq_false (fun h=>h2 (by rw [h]))]⟩
 refine W1 (A4 @Df.cells.eq_1 h0 h1 h2) ?_
 exact Wp.pure ⟨so,m0,by rw [decide_eq_true (hxy ▸ ⟨h0,h1,h2⟩)]⟩
theorem l32 {n0:Nat} {H0:Hp} {v1 v2:Value} {a b:List Df} (h1:Li eDef n0 H0 v1 a) (h2:Li eDef n0 H0 v2 b) (hab:a.length=b.length) (hl:a.length≤1000000000):∀ t n,n0≤n→t 0=v1→t 1=v2→t 5=.int .i64 0 →
  Wp (Zi (S32L0 (Call Tryz.prog) Zi) t H0 n) (fun o=>n≤o.n∧Same n0 H0 o.H∧((o.e=.exit 0∧a=b)∨(o.e=.ret∧o.t 4=.bool false∧a≠b))):=by
 intro t n hn0 e0 e1 e5
 refine Zs (fun d t H n'=>∃ (j:Nat),j+d=a.length∧n≤n'∧Same n0 H0 H∧t 0=v1∧t 1=v2∧t 5=.int .i64 j∧a.take j=b.take j) _ ?_ a.length t H0 n ⟨0,by omega,by omega,Same.refl _ _,e0,e1,e5,by simp⟩
 rintro d t H n' ⟨j,hj,hn,hsm,e0,e1,e5,htk⟩
 unfold S32L0
 have g1:=h1.keep hsm (Nat.le_refl _)
 have g2:=h2.keep hsm (Nat.le_refl _)
 by_cases hlt:(j:Int) < a.length
 ·have ha:j < a.length:=by omega
  have hb:j < b.length:=by omega
  have q1:=g1.dAll oo hlt
  have q2:=g2.dAll (i:=(j:Int)) oo oo
  have hw:=wj (j:=j) (len:=a.length) ha oo
  obtain ⟨H1,n1,a1,a2,a3⟩:=k64 (gi a (j:Int)) (gi b (j:Int)) H (n'+14)
  have s2:=hsm.trans (a2.less (show n0≤n'+14 by omega)) (Nat.le_refl _)
  by_cases he:gi a (j:Int)=gi b (j:Int)
  ·rw [decide_eq_true he] at a3
   refine W0 (A8 e0 e1 e5 g1.len hlt q1 q2 (A2 a3 hw)) ?_
   exact Wp.pure (Nxt.go (d - 1) oo ⟨j+1,by omega,by omega,s2,pp e0,pp e1,p0,by rw [take_next ha,take_next hb,htk,← gi_nat ha,← gi_nat hb,he]⟩)
  ·rw [decide_eq_false he] at a3
   refine W0 (A8 e0 e1 e5 g1.len hlt q1 q2 (A2 a3 hw)) ?_
   exact Wp.pure (Nxt.ret ⟨so,s2,.inr ⟨rfl,p0,fun h=>he (by rw [h])⟩⟩)
 ·refine W0 (A5 e0 e1 e5 g1.len hlt) ?_
  rw [List.take_of_length_le oo,List.take_of_length_le oo] at htk
  exact Wp.pure (Nxt.exit ⟨Nat.le_trans hn (Nat.le_add_right _ _),hsm,.inl ⟨rfl,htk⟩⟩)
theorem k32 {n:Nat} {H:Hp} {v1 v2:Value} {a b:List Df} (h1:Li eDef n H v1 a) (h2:Li eDef n H v2 b) (hl:a.length≤1000000000):Rt Tryz.prog 32 [v1,v2] H n (.bool (decide (a=b))):=by
 unfold Rt
 rw [c32]; unfold S32
 by_cases hab:(a.length:Int)=b.length
 ·simp(disch:=omega)only[↓reduceIte,Zh,↓X0,X1,Nat.reduceEqDiff,Int.reduceEq,Nat.reduceAdd,Nat.reduceSub,h1.len,h2.len,hab]
  generalize hT:put _ _ _=T
  obtain ⟨⟨oe,ot,oH,on⟩,f1,f2,f3,f4⟩:=l32 h1 h2 oo hl T (n+7) oo (by rw [← hT]; simp [Zk,Zt]) (by rw [← hT]; simp [Zk,Zt]) (by rw [← hT]; simp [Zk])
  simp only at f2 f3 f4
  rw [f1]
  rcases f4 with ⟨rfl,f4⟩ | ⟨rfl,f4,f5⟩
  ·simp(disch:=omega)only[↓reduceIte,Zh,↓X0,X1,Nat.reduceEqDiff,Int.reduceEq,Nat.reduceAdd,Nat.reduceSub,outOf,f4]
   exact ⟨_,_,by omega,f3,rfl⟩
  ·simp(disch:=omega)only[↓reduceIte,Zh,↓X0,X1,Nat.reduceEqDiff,Int.reduceEq,Nat.reduceAdd,Nat.reduceSub,outOf,f4,f5]
   exact ⟨_,_,by omega,f3,rfl⟩
 ·have hne:¬ a=b:=fun h=>hab (by rw [h])
  simp(disch:=omega)only[↓reduceIte,Zh,↓X0,X1,Nat.reduceEqDiff,Int.reduceEq,Nat.reduceAdd,Nat.reduceSub,h1.len,h2.len,hab,hne]
  exact ⟨_,_,by omega,Same.refl _ _,rfl⟩
def LightC (l:List Nd) (li:List Ins) (ld:List Df) (left r:Int):Prop:=-1≤r∧r≤left∧(0≤r→((l.length:Int)≤left∧∀ x∈l,(x.s.size:Int)≤left)∧((li.length:Int)≤left∧∀ x∈li,(x.s.size:Int)≤left)∧((ld.length:Int)≤left∧∀ x∈ld,(x.s.size:Int)≤left))
theorem k5 {n:Nat} {H:Hp} {v vl vd:Value} {l:List Nd} {li:List Ins} {ld:List Df} (hv:Li eNode n H v l) (hs:∀ x∈l,x.s.size≤9223372036854775807) (hl:l.length≤9223372036854775807) (hvl:Li eIns n H vl li) (hsl:∀ x∈li,x.s.size≤9223372036854775807) (hll:li.length≤9223372036854775807) (hvd:Li eDef n H vd ld) (hsd:∀ x∈ld,x.s.size≤9223372036854775807) (hld:ld.length≤9223372036854775807) (left:Int) (hleft:0≤left∧left≤1048576):∃ r,LightC l li ld left r∧Rt Tryz.prog 5 [.agg ⟨[v,vl,vd]⟩,.int .i64 left] H n (.int .i64 r):=by
 have hb:∀ i,i < n→(H.set n (some (.row [v,vl,vd] 0 true))) i=H i:=m0
 obtain ⟨r1,a1,H1,n1,b1,c1,d1⟩:=k20 (H:=H.set n (some (.row [v,vl,vd] 0 true))) (n:=n+7) (hv.mv oo hb) hs hl left hleft
 have a12:=a1.2.1
 have e1:∀ i,i < n+7→H1 i=(H.set n (some (.row [v,vl,vd] 0 true))) i:=c1
 by_cases h1:r1 < 0
 ·refine ⟨-1,⟨by omega,by omega,fun h=>by omega⟩,?_⟩
  apply Rt.mk
  rw [c5]; unfold S5
  refine W1 (A2 d1 h1) ?_
  exact Wp.pure ⟨so,(mm e1),rfl⟩
 obtain ⟨r2,a2,H2,n2,b2,c2,d2⟩:=k21 (H:=H1) (n:=n1+7) (hvl.mv oo (mm e1)) hsl hll r1 oo
 have a22:=a2.2.1
 have e2:∀ i,i < n1+7→H2 i=H1 i:=c2
 by_cases h2:r2 < 0
 ·refine ⟨-1,⟨by omega,by omega,fun h=>by omega⟩,?_⟩
  apply Rt.mk
  rw [c5]; unfold S5
  refine W1 (A5 d1 h1 e1 d2 h2) ?_
  exact Wp.pure ⟨so,(mm (A2 e2 e1)),rfl⟩
 obtain ⟨r3,a3,H3,n3,b3,c3,d3⟩:=k22 (H:=H2) (n:=n2+7) (hvd.mv oo (mm (A2 e2 e1))) hsd hld r2 oo
 have a32:=a3.2.1
 have e3:∀ i,i < n2+7→H3 i=H2 i:=c3
 by_cases h3:r3 < 0
 ·refine ⟨-1,⟨by omega,by omega,fun h=>by omega⟩,?_⟩
  apply Rt.mk
  rw [c5]; unfold S5
  refine W1 (A8 d1 h1 e1 e2 d2 h2 d3 h3) ?_
  exact Wp.pure ⟨so,(mm (A3 e3 e2 e1)),rfl⟩
 obtain ⟨f1,g1⟩:=a1.2.2 oo
 obtain ⟨f2,g2⟩:=a2.2.2 oo
 obtain ⟨f3,g3⟩:=a3.2.2 oo
 refine ⟨r3,⟨by omega,by omega,fun _=>⟨⟨f1,g1⟩,⟨by omega,fun x hx=>by have:=g2 x hx; omega⟩,⟨by omega,fun x hx=>by have:=g3 x hx; omega⟩⟩⟩,?_⟩
 apply Rt.mk
 rw [c5]; unfold S5
 refine W1 (A8 d1 h1 e1 e2 d2 h2 d3 h3) ?_
 exact Wp.pure ⟨so,(mm (A3 e3 e2 e1)),rfl⟩
def New3 (lo n:Nat) (H:Hp) (u ul ud:Value) (l:List Nd) (li:List Ins) (ld:List Df):Prop:=∃ i il id,i≠il∧i≠id∧il≠id∧lo≤i∧i < n∧lo≤il∧il < n∧lo≤id∧id < n∧At eNode i H u l∧At eIns il H ul li∧At eDef id H ud ld
theorem k8 {n:Nat} {H:Hp} {v vl vd:Value} {l:List Nd} {li:List Ins} {ld:List Df} (hv:Li eNode n H v l) (hl:l.length≤100000000) (hvl:Li eIns n H vl li) (hll:li.length≤100000000) (hvd:Li eDef n H vd ld) (hld:ld.length≤100000000):RtN Tryz.prog 8 [.agg ⟨[v,vl,vd]⟩] H n (fun w H' n'=>∃ u ul ud,w=.agg ⟨[u,ul,ud]⟩∧New3 n n' H' u ul ud l li ld):=by
 apply RtN.mk
 rw [c8]; unfold S8
 refine W1 trivial ?_
 refine Wp.rtn (k25 (hv.mv oo m0) hl) ?_
 rintro _ H1 n1 q1 s1 ⟨u,rfl,i1,a1,b1,o1⟩
 refine W1 s1 ?_
 refine Wp.rtn (k26 (hvl.mv oo (mm s1)) hll) ?_
 rintro ul H2 n2 q2 s2 ⟨i2,a2,b2,o2⟩
 refine W1 (A3 s1 s2 (st_c o2.cell)) ?_
 refine Wp.rtn (k27 (hvd.mv oo (mm (A2 s1 s2))) hld) ?_
 rintro ud H3 n3 q3 s3 ⟨i3,a3,b3,o3⟩
 refine W1 (A4 s1 s2 s3 (st_c o3.cell)) ?_
 exact Wp.pure ⟨so,(mm (A3 s1 s2 s3)),u,ul,ud,rfl,i1,i2,i3,by omega,by omega,by omega,by omega,so,by omega,so,by omega,so,o1.mv (mm (A2 s3 s2)),o2.mv (mm s3),o3.mv m0⟩
theorem k12 {n:Nat} {H:Hp} {v vl vd w wl wd:Value} {l m:List Nd} {li mi:List Ins} {ld md:List Df} (hv:Li eNode n H v l) (hvl:Li eIns n H vl li) (hvd:Li eDef n H vd ld) (hw:Li eNode n H w m) (hwl:Li eIns n H wl mi) (hwd:Li eDef n H wd md) (hl:l.length+li.length+ld.length≤1000000000):Rt Tryz.prog 12 [.agg ⟨[v,vl,vd]⟩,.agg ⟨[w,wl,wd]⟩] H n (.bool (decide (l=m∧li=mi∧ld=md))):=by
 apply Rt.mk
 rw [c12]; unfold S12
 refine W1 trivial ?_
 refine Zu (k30 (hv.mv oo m0) (hw.mv oo m0) oo) ?_
 intro H1 n1 q1 s1
 by_cases h1:l=m
 case neg =>
  refine W1 h1 ?_
  exact Wp.pure ⟨so,(mm s1),by rw [decide_eq_false (fun h=>h1 h.1)]⟩
 refine W1 (A2 h1 s1) ?_
 refine Zu (k31 (hvl.mv oo (mm s1)) (hwl.mv oo (mm s1)) oo) ?_
 intro H2 n2 q2 s2
 by_cases h2:li=mi
 case neg =>
  refine W1 h2 ?_
  exact Wp.pure ⟨so,(mm (A2 s1 s2)),by rw [decide_eq_false (fun h=>h2 h.2.1)]⟩
 refine W1 (A3 h2 s1 s2) ?_
 refine Zu (k32 (hvd.mv oo (mm (A2 s1 s2))) (hwd.mv oo (mm (A2 s1 s2))) oo) ?_
 intro H3 n3 q3 s3
 by_cases h3:ld=md
 case neg =>
  refine W1 h3 ?_
  exact Wp.pure ⟨so,(mm (A3 s1 s2 s3)),by rw [decide_eq_false (fun h=>h3 h.2.2)]⟩
 refine W1 h3 ?_
 exact Wp.pure ⟨so,(mm (A3 s1 s2 s3)),by rw [decide_eq_true ⟨h1,h2,h3⟩]⟩
end Go.Proofs.YtcffcnipmgkjfaaGreat.Ax
set_option linter.unusedVariables false
set_option linter.unusedSimpArgs false
namespace Go.Proofs.YtcffcnipmgkjfaaGreat.Ax
open Go
theorem Li.mv2 {α:Type} {E:Enc α} {n m c d:Nat} {H H':Hp} {v:Value} {l:List α} (h:Li E n H v l) (hc:Off c v) (hd:Off d v) (hm:n≤m) (hs:∀ i,i < n→i≠c→i≠d→H' i=H i):Li E m H' v l:=(h.keep' fun i o a k e=>hs i (h.2 i o a k e) (hc i o a k e) (hd i o a k e)).up hm
abbrev ndPair (a b:Int):Nd:=⟨5,0,⟨#[]⟩,a,b⟩
abbrev ndNil:Nd:=⟨1,0,⟨#[]⟩,0,0⟩
def lPairs (b:Int):List Int→List Nd
 | []=>[]
 | a :: r=>ndPair a b :: lPairs (b+1) r
def lNodes (b:Int) (xs:List Int):List Nd:=ndNil :: lPairs b xs.reverse
theorem lPairs_len:∀ (b:Int) (r:List Int),(lPairs b r).length=r.length
 | b,[]=>rfl
 | b,a :: r=>by simp [lPairs,lPairs_len (b+1) r]
theorem lPairs_snoc:∀ (b:Int) (r:List Int) (a:Int),lPairs b (r++[a])=lPairs b r++[ndPair a (b+r.length)]
 | b,[],a=>by simp [lPairs]
 | b,x :: r,a=>by
  rw [List.cons_append,lPairs,lPairs_snoc (b+1) r a,lPairs,List.cons_append,List.length_cons]
  congr 4; omega
theorem lNodes_len (b:Int) (xs:List Int):(lNodes b xs).length=xs.length+1:=by simp [lNodes,lPairs_len]
theorem lRev_next {xs:List Int} {k:Nat} (h:k < xs.length):xs.reverse.take (k+1)=xs.reverse.take k++[gi xs ((xs.length:Int) - 1 - k)]:=by
 rw [take_next (by simpa using h)]
 congr 2
 rw [List.getElem_reverse,gi_at oo oo]
 congr 1; omega
theorem l140 {c o id0 n0:Nat} {H0:Hp} {cs:List Value} {e:Nat} {v0:Value} {l:List Nd} {w:Value} {xs:List Int} (hw:Li eInt n0 H0 w xs) (hoc:Off c w) (hod:Off id0 w) (hcn:c < n0) (hl:l.length+xs.length≤1000000):∀ t H n v id,n0≤n→(∀ i,i < n0→i≠c→i≠id0→H i=H0 i)→n0≤id→PC c o id n H (cs.set o v) e v (l++[ndNil])→t 0=ptr c o→t 1=w→t 5=.int .i64 l.length→t 6=.int .i64 ((xs.length:Int) - 1) →
  Wp (Zi (S140L0 (Call Tryz.prog) Zi) t H n) (fun out=>n≤out.n∧(∀ i,i < n0→i≠c→i≠id0→out.H i=H0 i)∧out.e=.exit 0∧out.t 5=.int .i64 ((l.length:Int)+xs.length)∧∃ v' id',n0≤id'∧PC c o id' out.n out.H (cs.set o v') e v' (l++lNodes l.length xs)):=by
 intro t H n v id hn0 s0 hid hpc e0 e1 e5 e6
 refine Zs (fun d T H' n'=>∃ (k:Nat) (v:Value) (id:Nat),k+d=xs.length∧n≤n'∧(∀ i,i < n0→i≠c→i≠id0→H' i=H0 i)∧n0≤id∧PC c o id n' H' (cs.set o v) e v (l++(ndNil :: lPairs l.length (xs.reverse.take k)))∧T 0=ptr c o∧T 1=w∧T 5=.int .i64 ((l.length:Int)+k)∧T 6=.int .i64 ((xs.length:Int) - 1 - k)) _ ?_ xs.length t H n ⟨0,v,id,by omega,by omega,s0,hid,by simpa [lPairs] using hpc,e0,e1,by simpa using e5,by simpa using e6⟩
 rintro d T H' n' ⟨k,v,id,hk,hn,s1,hid,hpc,e0,e1,e5,e6⟩
 unfold S140L0
 by_cases hlt:k < xs.length
 ·have g:=(hw.mv2 hoc hod (Nat.le_refl _) s1).iAll (i:=(xs.length:Int) - 1 - k) oo oo
  have w1:IntKind.i64.wrap ((xs.length:Int) - 1 - k - 1)=(xs.length:Int) - 1 - ((k+1:Nat):Int):=by rw [w64 oo]; omega
  have hlen:(l++(ndNil :: lPairs l.length (xs.reverse.take k))).length=l.length+(k+1):=by
   rw [List.length_append,List.length_cons,lPairs_len,List.length_take,List.length_reverse]; omega
  refine W0 (A6 e0 e1 e5 e6 g ((show (0:Int)≤(xs.length:Int) - 1 - k by omega))) ?_
  refine Zp (k125 (hpc.mv oo rfl rfl) (by rw [hlen]; omega) _ _) ?_
  rintro _ H1 n1 q1 s2 ⟨rfl,v',id',i1,i2⟩
  simp only [hlen]
  refine W0 (A2 e6 w1) ?_
  refine Wp.pure (Nxt.go (d - 1) oo ⟨k+1,v',id',by omega,by omega,(mm (A2 s2 s1)),by omega,?_,pp e0,pp e1,p0,p0⟩)
  have:=i2.mv (Nat.le_add_right n1 3) rfl rfl
  rw [List.set_set] at this
  rw [lRev_next hlt,lPairs_snoc,List.length_take,List.length_reverse,Nat.min_eq_left oo,← List.cons_append,← List.append_assoc]
  exact this
 ·have hkl:k=xs.length:=by omega
  subst hkl
  refine W0 (A2 e6 ((show ¬ (0:Int)≤(xs.length:Int) - 1 - xs.length by omega))) ?_
  rw [List.take_of_length_le (by simp)] at hpc
  exact Wp.pure (Nxt.exit ⟨so,s1,rfl,pp e5,v,id,hid,hpc.mv so rfl rfl⟩)
theorem k140 {c o id n:Nat} {H:Hp} {cs:List Value} {e:Nat} {v:Value} {l:List Nd} (h:PC c o id n H cs e v l) {w:Value} {xs:List Int} (hw:Li eInt n H w xs) (hoc:Off c w) (hod:Off id w) (hl:l.length+xs.length≤1000000) :
  RtA Tryz.prog 140 [ptr c o,w] c id H n (fun r H' n'=>r=.int .i64 ((l.length:Int)+xs.length)∧∃ v' id',n≤id'∧PC c o id' n' H' (cs.set o v') e v' (l++lNodes l.length xs)):=by
 apply RtA.of
 rw [c140]; unfold S140
 refine W1 trivial ?_
 refine Zp (k101 (h.mv oo rfl rfl) oo ndNil) ?_
 rintro _ H1 n1 q1 s1 ⟨rfl,v1,id1,i1,i2⟩
 have hws:IntKind.i64.wrap ((xs.length:Int) - 1)=(xs.length:Int) - 1:=w64 oo
 refine W0 (A2 hw.len hws) ?_
 refine Wp.bind (l140 (c:=c) (o:=o) (id0:=id) (n0:=n) (H0:=H) (cs:=cs) (e:=e) (v0:=v) (l:=l) hw hoc hod h.cn hl _ _ _ v1 id1 oo (mm s1) oo (i2.mv oo rfl rfl) pa pa p0 p0) ?_
 rintro ⟨oe,ot,oH,on⟩ ⟨f1,f2,rfl,f4,v',id',f5,f6⟩
 simp only at f1 f2 f4 f5 f6
 refine W0 f4 ?_
 exact Wp.pure ⟨so,f2,f4,v',id',f5,f6.mv so rfl rfl⟩
theorem l137 {c o id0 n0:Nat} {H0:Hp} {cs:List Value} {e:Nat} {v0:Value} {l:List Nd} {w:Value} {xs:List Int} (hw:Li eInt n0 H0 w xs) (hoc:Off c w) (hod:Off id0 w) (hcn:c < n0) (hl:l.length+xs.length≤1000000):∀ t H n v id,n0≤n→(∀ i,i < n0→i≠c→i≠id0→H i=H0 i)→n0≤id→PC c o id n H (cs.set o v) e v (l++[ndNil])→t 0=ptr c o→t 1=w→t 5=.int .i64 l.length→t 6=.int .i64 ((xs.length:Int) - 1) →
  Wp (Zi (S137L0 (Call Tryz.prog) Zi) t H n) (fun out=>n≤out.n∧(∀ i,i < n0→i≠c→i≠id0→out.H i=H0 i)∧out.e=.exit 0∧out.t 5=.int .i64 ((l.length:Int)+xs.length)∧∃ v' id',n0≤id'∧PC c o id' out.n out.H (cs.set o v') e v' (l++lNodes l.length xs)):=by
 intro t H n v id hn0 s0 hid hpc e0 e1 e5 e6
 refine Zs (fun d T H' n'=>∃ (k:Nat) (v:Value) (id:Nat),k+d=xs.length∧n≤n'∧(∀ i,i < n0→i≠c→i≠id0→H' i=H0 i)∧n0≤id∧PC c o id n' H' (cs.set o v) e v (l++(ndNil :: lPairs l.length (xs.reverse.take k)))∧T 0=ptr c o∧T 1=w∧T 5=.int .i64 ((l.length:Int)+k)∧T 6=.int .i64 ((xs.length:Int) - 1 - k)) _ ?_ xs.length t H n ⟨0,v,id,by omega,by omega,s0,hid,by simpa [lPairs] using hpc,e0,e1,by simpa using e5,by simpa using e6⟩
 rintro d T H' n' ⟨k,v,id,hk,hn,s1,hid,hpc,e0,e1,e5,e6⟩
 unfold S137L0
 by_cases hlt:k < xs.length
 ·have g:=(hw.mv2 hoc hod (Nat.le_refl _) s1).iAll (i:=(xs.length:Int) - 1 - k) oo oo
  have w1:IntKind.i64.wrap ((xs.length:Int) - 1 - k - 1)=(xs.length:Int) - 1 - ((k+1:Nat):Int):=by rw [w64 oo]; omega
  have hlen:(l++(ndNil :: lPairs l.length (xs.reverse.take k))).length=l.length+(k+1):=by
   rw [List.length_append,List.length_cons,lPairs_len,List.length_take,List.length_reverse]; omega
  refine W1 (A6 e0 e1 e5 e6 g ((show (0:Int)≤(xs.length:Int) - 1 - k by omega))) ?_
  refine Zp (k88 (hpc.mv oo rfl rfl) (by rw [hlen]; omega) (ndPair _ _)) ?_
  rintro _ H1 n1 q1 s2 ⟨rfl,v',id',i1,i2⟩
  simp only [hlen]
  refine W0 (A2 e6 w1) ?_
  refine Wp.pure (Nxt.go (d - 1) oo ⟨k+1,v',id',by omega,by omega,(mm (A2 s2 s1)),by omega,?_,pp e0,pp e1,p0,p0⟩)
  have:=i2.mv (Nat.le_add_right n1 3) rfl rfl
  rw [List.set_set] at this
  rw [lRev_next hlt,lPairs_snoc,List.length_take,List.length_reverse,Nat.min_eq_left oo,← List.cons_append,← List.append_assoc]
  exact this
 ·have hkl:k=xs.length:=by omega
  subst hkl
  refine W0 (A2 e6 ((show ¬ (0:Int)≤(xs.length:Int) - 1 - xs.length by omega))) ?_
  rw [List.take_of_length_le (by simp)] at hpc
  exact Wp.pure (Nxt.exit ⟨so,s1,rfl,pp e5,v,id,hid,hpc.mv so rfl rfl⟩)
theorem k137 {c o id n:Nat} {H:Hp} {cs:List Value} {e:Nat} {v:Value} {l:List Nd} (h:PC c o id n H cs e v l) {w:Value} {xs:List Int} (hw:Li eInt n H w xs) (hoc:Off c w) (hod:Off id w) (hl:l.length+xs.length≤1000000) :
  RtA Tryz.prog 137 [ptr c o,w] c id H n (fun r H' n'=>r=.int .i64 ((l.length:Int)+xs.length)∧∃ v' id',n≤id'∧PC c o id' n' H' (cs.set o v') e v' (l++lNodes l.length xs)):=by
 apply RtA.of
 rw [c137]; unfold S137
 refine W1 trivial ?_
 refine Zp (k88 (h.mv oo rfl rfl) oo ndNil) ?_
 rintro _ H1 n1 q1 s1 ⟨rfl,v1,id1,i1,i2⟩
 have hws:IntKind.i64.wrap ((xs.length:Int) - 1)=(xs.length:Int) - 1:=w64 oo
 refine W0 (A2 hw.len hws) ?_
 refine Wp.bind (l137 (c:=c) (o:=o) (id0:=id) (n0:=n) (H0:=H) (cs:=cs) (e:=e) (v0:=v) (l:=l) hw hoc hod h.cn hl _ _ _ v1 id1 oo (mm s1) oo (i2.mv oo rfl rfl) pa pa p0 p0) ?_
 rintro ⟨oe,ot,oH,on⟩ ⟨f1,f2,rfl,f4,v',id',f5,f6⟩
 simp only at f1 f2 f4 f5 f6
 refine W0 f4 ?_
 exact Wp.pure ⟨so,f2,f4,v',id',f5,f6.mv so rfl rfl⟩
theorem calleeP_fn (k:Nat) (cap args:List Value):calleeP (.func (.func k) #[] ⟨cap⟩) args=some (k,args++cap):=rfl
theorem lPairs_ok:∀ (r:List Int) (b:Int) (i:Nat),(∀ a∈r,0≤a∧a < i)→0≤b→b+1=i→NodesOk (lPairs b r) i
 | [],_,_,_,_,_=>trivial
 | a :: r,b,i,ha,hb,hi=>by
  refine ⟨?_,lPairs_ok r (b+1) (i+1) (fun x hx=>by have:=ha x (List.mem_cons_of_mem _ hx); omega) oo oo⟩
  have:=ha a List.mem_cons_self
  show NodeOk ⟨5,0,⟨#[]⟩,a,b⟩ i
  unfold NodeOk
  exact .inr (.inr (.inr (.inr (.inl ⟨rfl,rfl,rfl,⟨this.1,so⟩,⟨hb,so⟩⟩))))
end Go.Proofs.YtcffcnipmgkjfaaGreat.Ax
set_option linter.unusedVariables false
set_option linter.unusedSimpArgs false
set_option maxHeartbeats 4000000
namespace Go.Proofs.YtcffcnipmgkjfaaGreat.Ax
open Go
theorem fi_some {α:Type} {p:α→Bool} {l:List α} {k:Nat} (hk:k < l.length) (h:p l[k]=true) (hn:∀ q (hq:q < l.length),q < k→p l[q]=false):l.findIdx? p=some k :=
 List.findIdx?_eq_some_iff_getElem.2 ⟨hk,h,fun q hq=>by simp [hn q oo hq]⟩
theorem fi_none {α:Type} {p:α→Bool} {l:List α} (hn:∀ q (hq:q < l.length),p l[q]=false):l.findIdx? p=none:=by
 refine List.findIdx?_eq_none_iff.2 fun x hx=>?_
 obtain ⟨q,hq,rfl⟩:=List.mem_iff_getElem.1 hx
 exact hn q hq
def fiInt:Option Nat→Int
 | some k=>(k:Int)
 | none => -1
def defOf (ld:List Df) (s:ByteArray):Int:=fiInt (ld.findIdx? (fun d=>decide (d.s=s)))
theorem defOf_rng (ld:List Df) (s:ByteArray) : -1≤defOf ld s∧defOf ld s < (ld.length:Int):=by
 unfold defOf
 cases h:ld.findIdx? (fun d=>decide (d.s=s)) with
 | none=>simp only [fiInt]; omega
 | some k=>have:=(List.findIdx?_eq_some_iff_getElem.1 h).1; simp only [fiInt]; omega
theorem k115 {c n:Nat} {H:Hp} (d:Df) (s:ByteArray) (hc:H c=some (.row [.string s] 0 true)) (hcn:c < n):Rt Tryz.prog 115 [.agg ⟨d.cells⟩,ptr c 0] H n (.bool (decide (d.s=s))):=by
 apply Rt.mk
 rw [c115]; unfold S115
 refine W1 (A2 @Df.cells.eq_1 hc) ?_
 exact Wp.pure ⟨so,m0,rfl⟩
theorem k114 {n:Nat} {H:Hp} {v:Value} {l:List Df} (hv:Li eDef n H v l) (hl:l.length≤1048576) (k:Nat) (cap:List Value) (p:Df→Bool) (hp:∀ x∈l,∀ H' n',n≤n'→(∀ i,i < n→H' i=H i)→Rt Tryz.prog k (.agg ⟨x.cells⟩ :: cap) H' n' (.bool (p x))):Rt Tryz.prog 114 [v,.func (.func k) #[] ⟨cap⟩] H n (.int .i64 (fiInt (l.findIdx? p))):=by
 apply Rt.mk
 rw [c114]; unfold S114
 refine W0 hv.len ?_
 refine Wp.bind (Zs (fun d t H' n'=>∃ j:Nat,j+d=l.length∧n≤n'∧(∀ i,i < n→H' i=H i)∧t 0=v∧t 1=.func (.func k) #[] ⟨cap⟩∧t 7=.int .i64 l.length∧t 8=.int .i64 j∧∀ q (hq:q < l.length),q < j→p l[q]=false) (fun o=>n≤o.n∧(∀ i,i < n→o.H i=H i)∧((o.e=.exit 0∧l.findIdx? p=none)∨(o.e=.ret∧∃ j:Nat,o.t 4=.int .i64 j∧l.findIdx? p=some j))) ?_ l.length _ H _ ⟨0,by omega,by omega,fun _ _=>rfl,pa,pa,p0,p0,by omega⟩) ?_
 ·rintro d t H' n' ⟨j,hj,hn,s0,e0,e1,e7,e8,hno⟩
  unfold S114L0
  by_cases hlt:j < l.length
  ·have hlti:(j:Int) < l.length:=by omega
   have hw:=wj (j:=j) (len:=l.length) hlt oo
   have g:=(hv.mv (Nat.le_refl _) s0).dAll (i:=(j:Int)) oo hlti
   rw [gi_nat hlt] at g
   refine W0 (A7 e0 e1 e7 e8 hlti g @calleeP_fn) ?_
   refine Zu (hp l[j] (List.getElem_mem hlt) H' (n'+9) oo s0) ?_
   intro H1 n1 q1 s1
   by_cases hpj:p l[j]=true
   ·refine W0 hpj ?_
    exact Wp.pure (Nxt.ret ⟨so,(mm (A2 s1 s0)),.inr ⟨rfl,j,pp e8,fi_some hlt hpj hno⟩⟩)
   ·have hpj':p l[j]=false:=by simpa using hpj
    refine W0 (A3 hpj' e8 hw) ?_
    refine Wp.pure (Nxt.go (d - 1) oo ⟨j+1,by omega,by omega,(mm (A2 s1 s0)),pp e0,pp e1,pp e7,p0,fun q hq hqj=>?_⟩)
    by_cases hqe:q=j
    ·subst hqe; exact hpj'
    ·exact hno q hq oo
  ·have hlti:¬ (j:Int) < l.length:=by omega
   refine W0 (A3 e7 e8 hlti) ?_
   exact Wp.pure (Nxt.exit ⟨so,s0,.inl ⟨rfl,fi_none fun q hq=>hno q hq oo⟩⟩)
 ·rintro ⟨oe,ot,oH,on⟩ ⟨f1,f2,f3⟩
  simp only at f1 f2 f3
  rcases f3 with ⟨rfl,f4⟩ | ⟨rfl,j,f4,f5⟩
  ·simp(disch:=omega)only[↓reduceIte,Zh,↓X0,X1,Nat.reduceEqDiff,Int.reduceEq,Nat.reduceAdd,Nat.reduceSub]
   exact Wp.pure ⟨so,f2,by simp only [f4,fiInt]⟩
  ·simp(disch:=omega)only[↓reduceIte,Zh,↓X0,X1,Nat.reduceEqDiff,Int.reduceEq,Nat.reduceAdd,Nat.reduceSub,f4]
   exact Wp.pure ⟨so,f2,by simp only [f5,fiInt]⟩
theorem k76 {n:Nat} {H:Hp} {v vl vd:Value} {ld:List Df} (hvd:Li eDef n H vd ld) (hl:ld.length≤1048576) (s:ByteArray):Rt Tryz.prog 76 [.agg ⟨[v,vl,vd]⟩,.string s] H n (.int .i64 (defOf ld s)):=by
 apply Rt.mk
 rw [c76]; unfold S76
 refine W1 @ptrV.eq_1 ?_
 refine Zu (k114 (hvd.mv oo m0) hl _ _ (fun d=>decide (d.s=s)) ?_) ?_
 ·intro x hx H' n' hn' hs'
  exact k115 x s (by simp (disch:=omega) only [hs',Zf]) oo
 intro H1 n1 q1 s1
 refine W0 trivial ?_
 exact Wp.pure ⟨so,(mm s1),rfl⟩
theorem k80 {n:Nat} {H:Hp} {v vl vd:Value} {ld:List Df} (hvd:Li eDef n H vd ld) (hl:ld.length≤1048576) (s:ByteArray):Rt Tryz.prog 80 [.agg ⟨[v,vl,vd]⟩,.string s] H n (.int .i64 (defOf ld s)):=by
 apply Rt.mk
 rw [c80]; unfold S80 defOf
 refine W1 trivial ?_
 generalize hp:(fun d:Df=>decide (d.s=s))=p
 have hpp:∀ d,p d=decide (d.s=s):=fun d=>by rw [← hp]
 refine Wp.bind (Zs (fun d t H' n'=>∃ j:Nat,j+d=ld.length∧n+1≤n'∧H'=H.set n (some (.row [v,vl,vd] 0 true))∧t 1=.string s∧t 2=ptr n 0∧t 5=.int .i64 j∧∀ q (hq:q < ld.length),q < j→p ld[q]=false) (fun o=>n+1≤o.n∧o.H=H.set n (some (.row [v,vl,vd] 0 true))∧((o.e=.exit 0∧ld.findIdx? p=none)∨(o.e=.ret∧∃ j:Nat,o.t 4=.int .i64 j∧ld.findIdx? p=some j))) ?_ ld.length _ _ _ ⟨0,by omega,by omega,rfl,pa,p0,p0,by omega⟩) ?_
 ·rintro d t H' n' ⟨j,hj,hn,rfl,e1,e2,e5,hno⟩
  unfold S80L0
  have hlen:=(hvd.mv (H':=H.set n (some (.row [v,vl,vd] 0 true))) (Nat.le_refl _) m0).len
  by_cases hlt:j < ld.length
  ·have hlti:(j:Int) < ld.length:=by omega
   have hw:=wj (j:=j) (len:=ld.length) hlt oo
   have g:=(hvd.mv (H':=H.set n (some (.row [v,vl,vd] 0 true))) (Nat.le_refl _) m0).dAll (i:=(j:Int)) oo hlti
   rw [gi_nat hlt] at g
   by_cases hpj:ld[j].s=s
   ·refine W1 (A7 e1 e2 e5 hlen hlti g hpj) ?_
    exact Wp.pure (Nxt.ret ⟨so,rfl,.inr ⟨rfl,j,pp e5,fi_some hlt (by rw [hpp]; simpa using hpj) hno⟩⟩)
   ·refine W1 (A8 e1 e2 e5 hlen hlti g hpj hw) ?_
    refine Wp.pure (Nxt.go (d - 1) oo ⟨j+1,by omega,by omega,rfl,pp e1,pp e2,p0,fun q hq hqj=>?_⟩)
    by_cases hqe:q=j
    ·subst hqe; rw [hpp]; simpa using hpj
    ·exact hno q hq oo
  ·have hlti:¬ (j:Int) < ld.length:=by omega
   refine W1 (A4 e2 e5 hlen hlti) ?_
   exact Wp.pure (Nxt.exit ⟨so,rfl,.inl ⟨rfl,fi_none fun q hq=>hno q hq oo⟩⟩)
 ·rintro ⟨oe,ot,oH,on⟩ ⟨f1,rfl,f3⟩
  simp only at f1 f3
  rcases f3 with ⟨rfl,f4⟩ | ⟨rfl,j,f4,f5⟩
  ·refine W0 trivial ?_
   exact Wp.pure ⟨so,m0,by simp only [f4,fiInt]⟩
  ·refine W0 f4 ?_
   exact Wp.pure ⟨so,m0,by simp only [f5,fiInt]; exact f4⟩
end Go.Proofs.YtcffcnipmgkjfaaGreat.Ax
set_option linter.unusedVariables false
set_option linter.unusedSimpArgs false
set_option maxHeartbeats 4000000
namespace Go.Proofs.YtcffcnipmgkjfaaGreat.Ax
open Go
instance:Inhabited Bool:=⟨false⟩
def rMark (out:List Bool) (x:Nd):List Bool:=if x.k=5 then (out.set x.a.toNat true).set x.b.toNat true else if x.k=6∨x.k=7 then out.set x.a.toNat true else out
def rStep (l:List Nd) (out:List Bool) (i:Nat):List Bool:=if gi out (i:Int)=true then rMark out (gi l (i:Int)) else out
def rDown (l:List Nd):Nat→List Bool→List Bool
 | 0,out=>out
 | i+1,out=>rDown l i (rStep l out i)
def rRoots (m:Nat) (roots:List Int):List Bool:=roots.foldl (fun o r=>o.set r.toNat true) (List.replicate m false)
def reachM (l:List Nd) (roots:List Int):List Bool:=rDown l l.length (rRoots l.length roots)
theorem rMark_len (out:List Bool) (x:Nd):(rMark out x).length=out.length:=by
 unfold rMark
 split
 ·simp
 ·split <;> simp
theorem rStep_len (l:List Nd) (out:List Bool) (i:Nat):(rStep l out i).length=out.length:=by unfold rStep; split <;> simp [rMark_len]
theorem rDown_len (l:List Nd):∀ (i:Nat) (out:List Bool),(rDown l i out).length=out.length
 | 0,out=>rfl
 | i+1,out=>by rw [rDown,rDown_len l i,rStep_len]
theorem rRoots_aux (roots:List Int):∀ o:List Bool,(roots.foldl (fun o r=>o.set r.toNat true) o).length=o.length:=by
 induction roots with
 | nil=>intro o; rfl
 | cons r rs ih=>intro o; rw [List.foldl_cons,ih]; simp
theorem rRoots_len (m:Nat) (roots:List Int):(rRoots m roots).length=m:=by unfold rRoots; rw [rRoots_aux]; simp
theorem reachM_len (l:List Nd) (roots:List Int):(reachM l roots).length=l.length:=by unfold reachM; rw [rDown_len,rRoots_len]
theorem rRoots_take {m:Nat} {roots:List Int} {j:Nat} (h:j < roots.length):rRoots m (roots.take (j+1))=(rRoots m (roots.take j)).set roots[j].toNat true:=by
 unfold rRoots; rw [take_next h,List.foldl_append]; rfl
theorem flat_o {l:List Bool} {i:Int} (h0:0≤i) (h1:i < l.length):(l.flatMap eBool.cells)[i.toNat]?=some (.bool (gi l i)):=by
 have:=flat_cell eBool (l:=l) (j:=i.toNat) (f:=0) oo (by decide)
 rw [Nat.mul_one,Nat.add_zero] at this
 rw [this,gi_at h0 h1]; rfl
theorem idx1 {id m:Nat} {k:IntKind} {i:Int} (h0:0≤i) (h:i < m):Zn 1 (sl id 0 m) (.int k i)=some (ptr id i.toNat):=by
 have:=idx_sli (sz:=1) (id:=id) (k:=k) h0 h
 rw [Nat.mul_one] at this; exact this
theorem st_o {id:Nat} {H:Hp} {l:List Bool} (h:H id=some (.row (l.flatMap eBool.cells) 1 true)) {i:Int} (h0:0≤i) (h1:i < l.length) (b:Bool):st false 1 (ptr id i.toNat) (.bool b) H=some (H.set id (some (.row ((l.set i.toNat b).flatMap eBool.cells) 1 true))) :=
 st_el1 (E:=eBool) h (j:=i.toNat) oo rfl rfl rfl
theorem st_ii {id:Nat} {H:Hp} {l:List Int} (h:H id=some (.row (l.flatMap eInt.cells) 1 true)) {i:Int} (h0:0≤i) (h1:i < l.length) (b:Int):st false 1 (ptr id i.toNat) (.int .i64 b) H=some (H.set id (some (.row ((l.set i.toNat b).flatMap eInt.cells) 1 true))) :=
 st_el1 (E:=eInt) h (j:=i.toNat) oo rfl rfl rfl
theorem l0143 {n0 id:Nat} {H0:Hp} {w:Value} {m:Nat} {roots:List Int} (hw:Li eInt n0 H0 w roots) (hid:n0≤id) (hr:∀ r∈roots,0≤r∧r < (m:Int)) (hl:roots.length≤1048576):∀ t H n,id < n→(∀ i,i < n0→H i=H0 i)→t 5=sl id 0 m→t 14=w→t 15=.int .i64 roots.length→t 16=.int .i64 0→H id=some (.row ((List.replicate m false).flatMap eBool.cells) 1 true) →
  Wp (Zi (S143L0 (Call Tryz.prog) Zi) t H n) (fun o=>n≤o.n∧(∀ i,i < n0→o.H i=H0 i)∧o.e=.exit 0∧o.t 2=t 2∧o.t 5=sl id 0 m∧o.H id=some (.row ((rRoots m roots).flatMap eBool.cells) 1 true)):=by
 intro t H n hidn s0 e5 e14 e15 e16 hH
 refine Zs (fun d T H' n'=>∃ j:Nat,j+d=roots.length∧n≤n'∧(∀ i,i < n0→H' i=H0 i)∧T 2=t 2∧T 5=sl id 0 m∧T 14=w∧T 15=.int .i64 roots.length∧T 16=.int .i64 j∧H' id=some (.row ((rRoots m (roots.take j)).flatMap eBool.cells) 1 true)) _ ?_ roots.length t H n ⟨0,by omega,by omega,s0,rfl,e5,e14,e15,e16,by simpa [rRoots] using hH⟩
 rintro d T H' n' ⟨j,hj,hn,s1,e2,e5,e14,e15,e16,hH⟩
 unfold S143L0
 by_cases hlt:j < roots.length
 ·have hlti:(j:Int) < roots.length:=by omega
  have hws:=wj (j:=j) (len:=roots.length) hlt oo
  have g:=(hw.mv (Nat.le_refl _) s1).iAll (i:=(j:Int)) oo hlti
  rw [gi_nat hlt] at g
  have hrj:=hr _ (List.getElem_mem hlt)
  have hix:=idx1 (id:=id) (k:=.i64) hrj.1 hrj.2
  have hst:=st_o hH hrj.1 (by rw [rRoots_len]; exact hrj.2) true
  rw [← rRoots_take hlt] at hst
  refine W0 (A8 e5 e14 e15 e16 hlti g hix (A2 hst hws)) ?_
  exact Wp.pure (Nxt.go (d - 1) oo ⟨j+1,by omega,by omega,(mm s1),pp e2,pp e5,pp e14,pp e15,p0,Zf _ _ _⟩)
 ·have hlti:¬ (j:Int) < roots.length:=by omega
  refine W0 (A3 e15 e16 hlti) ?_
  rw [List.take_of_length_le oo] at hH
  exact Wp.pure (Nxt.exit ⟨so,s1,rfl,pp e2,pp e5,hH⟩)
theorem l1143 {n0 b id:Nat} {H0:Hp} {v:Value} {l:List Nd} (hv:Li eNode n0 H0 v l) (hp:PoolOk l) (hid:n0≤id) (hb0:b < n0) (hb:H0 b=some (.row [v] 0 true)) (out0:List Bool) (ho:out0.length=l.length):∀ t H n,id < n→(∀ i,i < n0→H i=H0 i)→t 2=ptr b 0→t 5=sl id 0 l.length→t 8=.int .i64 ((l.length:Int) - 1)→H id=some (.row (out0.flatMap eBool.cells) 1 true) →
  Wp (Zi (S143L1 (Call Tryz.prog) Zi) t H n) (fun o=>n≤o.n∧(∀ i,i < n0→o.H i=H0 i)∧o.e=.exit 2∧o.t 5=sl id 0 l.length∧o.H id=some (.row ((rDown l l.length out0).flatMap eBool.cells) 1 true)):=by
 intro t H n hidn s0 e2 e5 e8 hH
 have hl:=hp.2
 refine Zs (fun d T H' n'=>∃ cur:List Bool,d≤l.length∧n≤n'∧(∀ i,i < n0→H' i=H0 i)∧T 2=ptr b 0∧T 5=sl id 0 l.length∧T 8=.int .i64 ((d:Int) - 1)∧cur.length=l.length∧rDown l d cur=rDown l l.length out0∧H' id=some (.row (cur.flatMap eBool.cells) 1 true)) _ ?_ l.length t H n ⟨out0,by omega,by omega,s0,e2,e5,e8,ho,rfl,hH⟩
 rintro d T H' n' ⟨cur,hd,hn,s1,e2,e5,e8,hcl,hcd,hH⟩
 unfold S143L1
 by_cases hlt:0 < d
 ·obtain ⟨d,rfl⟩:∃ d',d=d'+1:=⟨d - 1,by omega⟩
  have hd1:(((d+1:Nat):Int) - 1)=(d:Int):=by omega
  have hge:(0:Int)≤(d:Int):=by omega
  have hw:IntKind.i64.wrap ((d:Int) - 1)=(d:Int) - 1:=w64 oo
  rw [hd1] at e8
  have hb':H' b=some (.row [v] 0 true):=by rw [s1 b hb0]; exact hb
  have hix:=idx1 (id:=id) (k:=.i64) (m:=l.length) hge oo
  have hfo:=flat_o (l:=cur) hge oo
  have hok:=hp.at (v:=(d:Int)) oo oo
  have g:=(hv.mv (Nat.le_refl _) s1).nAll (i:=(d:Int)) oo oo
  rw [rDown,rStep] at hcd
  generalize hx:gi l (d:Int)=x at *
  by_cases ht:gi cur (d:Int)=true
  ·rw [if_pos ht] at hcd
   have h5:x.k=5→(0≤x.a∧x.a < (cur.length:Int))∧(0≤x.b∧x.b < (cur.length:Int)):=fun h=>by have:=hok.pair h; omega
   have h6:x.k=6∨x.k=7→0≤x.a∧x.a < (cur.length:Int):=fun h=>by have:=hok.one h; omega
   obtain ⟨xk,xn,xs,xa,xb⟩:=x
   simp only [Nd.cells] at g h5 h6
   have hH2:(H'.set (n'+12) (some (.row [.int .i64 xk,.int .i64 xn,.string xs,.int .i64 xa,.int .i64 xb] 0 true))) id=some (.row (cur.flatMap eBool.cells) 1 true):=by rw [Zj _ _ oo]; exact hH
   by_cases c5:xk=5
   ·have ho5:=h5 c5
    have ia:=idx1 (id:=id) (k:=.i64) (m:=l.length) ho5.1.1 oo
    have ib:=idx1 (id:=id) (k:=.i64) (m:=l.length) ho5.2.1 oo
    have ta:=st_o hH2 ho5.1.1 ho5.1.2 true
    have tb:=st_o (Zf (H'.set (n'+12) (some (.row [.int .i64 xk,.int .i64 xn,.string xs,.int .i64 xa,.int .i64 xb] 0 true))) id (some (.row ((cur.set xa.toNat true).flatMap eBool.cells) 1 true))) ho5.2.1 (by rw [List.length_set]; exact ho5.2.2) true
    rw [Hp_set_set] at tb
    subst c5
    refine W1 (A8 e2 e5 e8 hge hix hH hfo (A8 ht hb' g ia ta ib tb hw)) ?_
    refine Wp.pure (Nxt.go d oo ⟨rMark cur ⟨5,xn,xs,xa,xb⟩,by omega,by omega,(mm s1),pp e2,pp e5,p0,by rw [rMark_len]; exact hcl,hcd,?_⟩)
    exact Zf _ _ _
   ·by_cases c6:xk=6∨xk=7
    ·have ho6:=h6 c6
     have ia:=idx1 (id:=id) (k:=.i64) (m:=l.length) ho6.1 oo
     have ta:=st_o hH2 ho6.1 ho6.2 true
     have hm:rMark cur ⟨xk,xn,xs,xa,xb⟩=cur.set xa.toNat true:=by unfold rMark; rw [if_neg c5,if_pos c6]
     rw [hm] at hcd
     rcases c6 with c6 | c6
     ·subst c6
      refine W1 (A8 e2 e5 e8 hge hix hH hfo (A6 ht hb' g ia ta hw)) ?_
      exact Wp.pure (Nxt.go d oo ⟨cur.set xa.toNat true,by omega,by omega,(mm s1),pp e2,pp e5,p0,by rw [List.length_set]; exact hcl,hcd,Zf _ _ _⟩)
     ·subst c6
      refine W1 (A8 e2 e5 e8 hge hix hH hfo (A6 ht hb' g ia ta hw)) ?_
      exact Wp.pure (Nxt.go d oo ⟨cur.set xa.toNat true,by omega,by omega,(mm s1),pp e2,pp e5,p0,by rw [List.length_set]; exact hcl,hcd,Zf _ _ _⟩)
    ·have c6':¬ xk=6:=fun h=>c6 (.inl h)
     have c7':¬ xk=7:=fun h=>c6 (.inr h)
     have hm:rMark cur ⟨xk,xn,xs,xa,xb⟩=cur:=by unfold rMark; rw [if_neg c5,if_neg c6]
     rw [hm] at hcd
     refine W1 (A8 e2 e5 e8 hge hix hH hfo (A7 ht hb' g c5 c6' c7' hw)) ?_
     exact Wp.pure (Nxt.go d oo ⟨cur,by omega,by omega,(mm s1),pp e2,pp e5,p0,hcl,hcd,hH2⟩)
  ·have ht':gi cur (d:Int)=false:=by simpa using ht
   rw [if_neg ht] at hcd
   refine W1 (A8 e2 e5 e8 hge hix hH hfo (A2 ht' hw)) ?_
   exact Wp.pure (Nxt.go d oo ⟨cur,by omega,by omega,(mm s1),pp e2,pp e5,p0,hcl,hcd,hH⟩)
 ·have hd0:d=0:=by omega
  subst hd0
  refine W0 (A2 e8 ((show ¬ (0:Int)≤((0:Nat):Int) - 1 by omega))) ?_
  rw [← hcd]
  exact Wp.pure (Nxt.exit ⟨so,s1,rfl,pp e5,hH⟩)
theorem k143 {n:Nat} {H:Hp} {v w:Value} {l:List Nd} {roots:List Int} (hv:Li eNode n H v l) (hp:PoolOk l) (hw:Li eInt n H w roots) (hr:∀ r∈roots,0≤r∧r < (l.length:Int)) (hl:roots.length≤1048576):RtN Tryz.prog 143 [.agg ⟨[v]⟩,w] H n (fun r H' n'=>∃ id,n≤id∧id < n'∧r=sl id 0 l.length∧H' id=some (.row ((reachM l roots).flatMap eBool.cells) 1 true)):=by
 apply RtN.mk
 rw [c143]; unfold S143
 have hl2:=hp.2
 have hm:∀ H:Hp,mks (n+5) 1 1 [.bool false] (.int .i64 l.length) (.int .i64 l.length) H=some (sl (n+5) 0 l.length,H.set (n+5) (some (.row ((List.replicate l.length false).flatMap eBool.cells) 1 true))):=fun H=>mks_new eBool false H (by decide) oo
 refine W1 (A3 hv.len hw.len hm) ?_
 refine Wp.bind (l0143 (n0:=n+1) (id:=n+5) (H0:=H.set n (some (.row [v] 0 true))) (hw.mv oo m0) oo hr hl _ _ _ oo m0 p0 pa p0 p0 (Zf _ _ _)) ?_
 rintro ⟨oe,ot,oH,on⟩ ⟨f1,f2,rfl,f3,f4,f5⟩
 simp only at f1 f2 f3 f4 f5
 simp only [Zk,Nat.reduceEqDiff,if_false,if_true] at f3
 have hbx:oH n=some (.row [v] 0 true):=by simp (disch:=omega) only [f2,Zf]
 have hlv:=(hv.mv (H':=oH) (Nat.le_refl _) (mm f2)).len
 have hws:IntKind.i64.wrap ((l.length:Int) - 1)=(l.length:Int) - 1:=w64 oo
 refine W1 (A4 f3 hbx hlv hws) ?_
 refine Wp.bind (l1143 (n0:=n+1) (id:=n+5) (b:=n) (H0:=H.set n (some (.row [v] 0 true))) (hv.mv oo m0) hp oo oo (Zf _ _ _) (rRoots l.length roots) (rRoots_len _ _) _ _ _ oo f2 (pp f3) (pp f4) p0 f5) ?_
 rintro ⟨oe,ot,oH,on⟩ ⟨g1,g2,rfl,g3,g4⟩
 simp only at g1 g2 g3 g4
 refine W0 g3 ?_
 exact Wp.pure ⟨so,(mm g2),n+5,by omega,so,g3,g4⟩
theorem l0118 {n0 id:Nat} {H0:Hp} {w:Value} {m:Nat} {roots:List Int} (hw:Li eInt n0 H0 w roots) (hid:n0≤id) (hr:∀ r∈roots,0≤r∧r < (m:Int)) (hl:roots.length≤1048576):∀ t H n,id < n→(∀ i,i < n0→H i=H0 i)→t 5=sl id 0 m→t 1=w→t 6=.int .i64 0→H id=some (.row ((List.replicate m false).flatMap eBool.cells) 1 true) →
  Wp (Zi (S118L0 (Call Tryz.prog) Zi) t H n) (fun o=>n≤o.n∧(∀ i,i < n0→o.H i=H0 i)∧o.e=.exit 0∧o.t 2=t 2∧o.t 5=sl id 0 m∧o.H id=some (.row ((rRoots m roots).flatMap eBool.cells) 1 true)):=by
 intro t H n hidn s0 e5 e1 e6 hH
 refine Zs (fun d T H' n'=>∃ j:Nat,j+d=roots.length∧n≤n'∧(∀ i,i < n0→H' i=H0 i)∧T 2=t 2∧T 5=sl id 0 m∧T 1=w∧T 6=.int .i64 j∧H' id=some (.row ((rRoots m (roots.take j)).flatMap eBool.cells) 1 true)) _ ?_ roots.length t H n ⟨0,by omega,by omega,s0,rfl,e5,e1,e6,by simpa [rRoots] using hH⟩
 rintro d T H' n' ⟨j,hj,hn,s1,e2,e5,e1,e6,hH⟩
 unfold S118L0
 have hlw:=(hw.mv (H':=H') (Nat.le_refl _) s1).len
 by_cases hlt:j < roots.length
 ·have hlti:(j:Int) < roots.length:=by omega
  have hws:=wj (j:=j) (len:=roots.length) hlt oo
  have g:=(hw.mv (Nat.le_refl _) s1).iAll (i:=(j:Int)) oo hlti
  rw [gi_nat hlt] at g
  have hrj:=hr _ (List.getElem_mem hlt)
  have hix:=idx1 (id:=id) (k:=.i64) hrj.1 hrj.2
  have hst:=st_o hH hrj.1 (by rw [rRoots_len]; exact hrj.2) true
  rw [← rRoots_take hlt] at hst
  refine W0 (A8 e5 e1 e6 hlw hlti g hix (A2 hst hws)) ?_
  exact Wp.pure (Nxt.go (d - 1) oo ⟨j+1,by omega,by omega,(mm s1),pp e2,pp e5,pp e1,p0,Zf _ _ _⟩)
 ·have hlti:¬ (j:Int) < roots.length:=by omega
  refine W0 (A4 e1 e6 hlw hlti) ?_
  rw [List.take_of_length_le oo] at hH
  exact Wp.pure (Nxt.exit ⟨so,s1,rfl,pp e2,pp e5,hH⟩)
theorem l1118 {n0 b id:Nat} {H0:Hp} {v:Value} {l:List Nd} (hv:Li eNode n0 H0 v l) (hp:PoolOk l) (hid:n0≤id) (hb0:b < n0) (hb:H0 b=some (.row [v] 0 true)) (out0:List Bool) (ho:out0.length=l.length):∀ t H n,id < n→(∀ i,i < n0→H i=H0 i)→t 2=ptr b 0→t 5=sl id 0 l.length→t 7=.int .i64 ((l.length:Int) - 1)→H id=some (.row (out0.flatMap eBool.cells) 1 true) →
  Wp (Zi (S118L1 (Call Tryz.prog) Zi) t H n) (fun o=>n≤o.n∧(∀ i,i < n0→o.H i=H0 i)∧o.e=.exit 2∧o.t 5=sl id 0 l.length∧o.H id=some (.row ((rDown l l.length out0).flatMap eBool.cells) 1 true)):=by
 intro t H n hidn s0 e2 e5 e8 hH
 have hl:=hp.2
 refine Zs (fun d T H' n'=>∃ cur:List Bool,d≤l.length∧n≤n'∧(∀ i,i < n0→H' i=H0 i)∧T 2=ptr b 0∧T 5=sl id 0 l.length∧T 7=.int .i64 ((d:Int) - 1)∧cur.length=l.length∧rDown l d cur=rDown l l.length out0∧H' id=some (.row (cur.flatMap eBool.cells) 1 true)) _ ?_ l.length t H n ⟨out0,by omega,by omega,s0,e2,e5,e8,ho,rfl,hH⟩
 rintro d T H' n' ⟨cur,hd,hn,s1,e2,e5,e8,hcl,hcd,hH⟩
 unfold S118L1
 by_cases hlt:0 < d
 ·obtain ⟨d,rfl⟩:∃ d',d=d'+1:=⟨d - 1,by omega⟩
  have hd1:(((d+1:Nat):Int) - 1)=(d:Int):=by omega
  have hge:(0:Int)≤(d:Int):=by omega
  have hw:IntKind.i64.wrap ((d:Int) - 1)=(d:Int) - 1:=w64 oo
  rw [hd1] at e8
  have hb':H' b=some (.row [v] 0 true):=by rw [s1 b hb0]; exact hb
  have hix:=idx1 (id:=id) (k:=.i64) (m:=l.length) hge oo
  have hfo:=flat_o (l:=cur) hge oo
  have hok:=hp.at (v:=(d:Int)) oo oo
  have g:=(hv.mv (Nat.le_refl _) s1).nAll (i:=(d:Int)) oo oo
  rw [rDown,rStep] at hcd
  generalize hx:gi l (d:Int)=x at *
  by_cases ht:gi cur (d:Int)=true
  ·rw [if_pos ht] at hcd
   have h5:x.k=5→(0≤x.a∧x.a < (cur.length:Int))∧(0≤x.b∧x.b < (cur.length:Int)):=fun h=>by have:=hok.pair h; omega
   have h6:x.k=6∨x.k=7→0≤x.a∧x.a < (cur.length:Int):=fun h=>by have:=hok.one h; omega
   obtain ⟨xk,xn,xs,xa,xb⟩:=x
   simp only [Nd.cells] at g h5 h6
   have hH2:(H'.set (n'+7) (some (.row [.int .i64 xk,.int .i64 xn,.string xs,.int .i64 xa,.int .i64 xb] 0 true))) id=some (.row (cur.flatMap eBool.cells) 1 true):=by rw [Zj _ _ oo]; exact hH
   by_cases c5:xk=5
   ·have ho5:=h5 c5
    have ia:=idx1 (id:=id) (k:=.i64) (m:=l.length) ho5.1.1 oo
    have ib:=idx1 (id:=id) (k:=.i64) (m:=l.length) ho5.2.1 oo
    have ta:=st_o hH2 ho5.1.1 ho5.1.2 true
    have tb:=st_o (Zf (H'.set (n'+7) (some (.row [.int .i64 xk,.int .i64 xn,.string xs,.int .i64 xa,.int .i64 xb] 0 true))) id (some (.row ((cur.set xa.toNat true).flatMap eBool.cells) 1 true))) ho5.2.1 (by rw [List.length_set]; exact ho5.2.2) true
    rw [Hp_set_set] at tb
    subst c5
    refine W1 (A8 e2 e5 e8 hge hix hH hfo (A8 ht hb' g ia ta ib tb hw)) ?_
    refine Wp.pure (Nxt.go d oo ⟨rMark cur ⟨5,xn,xs,xa,xb⟩,by omega,by omega,(mm s1),pp e2,pp e5,p0,by rw [rMark_len]; exact hcl,hcd,?_⟩)
    exact Zf _ _ _
   ·by_cases c6:xk=6∨xk=7
    ·have ho6:=h6 c6
     have ia:=idx1 (id:=id) (k:=.i64) (m:=l.length) ho6.1 oo
     have ta:=st_o hH2 ho6.1 ho6.2 true
     have hm:rMark cur ⟨xk,xn,xs,xa,xb⟩=cur.set xa.toNat true:=by unfold rMark; rw [if_neg c5,if_pos c6]
     rw [hm] at hcd
     rcases c6 with c6 | c6
     ·subst c6
      refine W1 (A8 e2 e5 e8 hge hix hH hfo (A6 ht hb' g ia ta hw)) ?_
      exact Wp.pure (Nxt.go d oo ⟨cur.set xa.toNat true,by omega,by omega,(mm s1),pp e2,pp e5,p0,by rw [List.length_set]; exact hcl,hcd,Zf _ _ _⟩)
     ·subst c6
      refine W1 (A8 e2 e5 e8 hge hix hH hfo (A6 ht hb' g ia ta hw)) ?_
      exact Wp.pure (Nxt.go d oo ⟨cur.set xa.toNat true,by omega,by omega,(mm s1),pp e2,pp e5,p0,by rw [List.length_set]; exact hcl,hcd,Zf _ _ _⟩)
    ·have c6':¬ xk=6:=fun h=>c6 (.inl h)
     have c7':¬ xk=7:=fun h=>c6 (.inr h)
     have hm:rMark cur ⟨xk,xn,xs,xa,xb⟩=cur:=by unfold rMark; rw [if_neg c5,if_neg c6]
     rw [hm] at hcd
     refine W1 (A8 e2 e5 e8 hge hix hH hfo (A7 ht hb' g c5 c6' c7' hw)) ?_
     exact Wp.pure (Nxt.go d oo ⟨cur,by omega,by omega,(mm s1),pp e2,pp e5,p0,hcl,hcd,hH2⟩)
  ·have ht':gi cur (d:Int)=false:=by simpa using ht
   rw [if_neg ht] at hcd
   refine W1 (A8 e2 e5 e8 hge hix hH hfo (A5 ht' hb' g hw @Nd.cells.eq_1)) ?_
   exact Wp.pure (Nxt.go d oo ⟨cur,by omega,by omega,(mm s1),pp e2,pp e5,p0,hcl,hcd,by rw [Zj _ _ oo]; exact hH⟩)
 ·have hd0:d=0:=by omega
  subst hd0
  refine W0 (A2 e8 ((show ¬ (0:Int)≤((0:Nat):Int) - 1 by omega))) ?_
  rw [← hcd]
  exact Wp.pure (Nxt.exit ⟨so,s1,rfl,pp e5,hH⟩)
theorem k118 {n:Nat} {H:Hp} {v w:Value} {l:List Nd} {roots:List Int} (hv:Li eNode n H v l) (hp:PoolOk l) (hw:Li eInt n H w roots) (hr:∀ r∈roots,0≤r∧r < (l.length:Int)) (hl:roots.length≤1048576):RtN Tryz.prog 118 [.agg ⟨[v]⟩,w] H n (fun r H' n'=>∃ id,n≤id∧id < n'∧r=sl id 0 l.length∧H' id=some (.row ((reachM l roots).flatMap eBool.cells) 1 true)):=by
 apply RtN.mk
 rw [c118]; unfold S118
 have hl2:=hp.2
 have hm:∀ H:Hp,mks (n+5) 1 1 [.bool false] (.int .i64 l.length) (.int .i64 l.length) H=some (sl (n+5) 0 l.length,H.set (n+5) (some (.row ((List.replicate l.length false).flatMap eBool.cells) 1 true))):=fun H=>mks_new eBool false H (by decide) oo
 refine W1 (A3 hv.len hw.len hm) ?_
 refine Wp.bind (l0118 (n0:=n+1) (id:=n+5) (H0:=H.set n (some (.row [v] 0 true))) (hw.mv oo m0) oo hr hl _ _ _ oo m0 p0 pa p0 (Zf _ _ _)) ?_
 rintro ⟨oe,ot,oH,on⟩ ⟨f1,f2,rfl,f3,f4,f5⟩
 simp only at f1 f2 f3 f4 f5
 simp only [Zk,Nat.reduceEqDiff,if_false,if_true] at f3
 have hbx:oH n=some (.row [v] 0 true):=by simp (disch:=omega) only [f2,Zf]
 have hlv:=(hv.mv (H':=oH) (Nat.le_refl _) (mm f2)).len
 have hws:IntKind.i64.wrap ((l.length:Int) - 1)=(l.length:Int) - 1:=w64 oo
 refine W1 (A4 f3 hbx hlv hws) ?_
 refine Wp.bind (l1118 (n0:=n+1) (id:=n+5) (b:=n) (H0:=H.set n (some (.row [v] 0 true))) (hv.mv oo m0) hp oo oo (Zf _ _ _) (rRoots l.length roots) (rRoots_len _ _) _ _ _ oo f2 (pp f3) (pp f4) p0 f5) ?_
 rintro ⟨oe,ot,oH,on⟩ ⟨g1,g2,rfl,g3,g4⟩
 simp only at g1 g2 g3 g4
 refine W0 g3 ?_
 exact Wp.pure ⟨so,(mm g2),n+5,by omega,so,g3,g4⟩
end Go.Proofs.YtcffcnipmgkjfaaGreat.Ax
