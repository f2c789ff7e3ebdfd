/- What the law needs: laws of the abstract machine, and contracts of functions. -/
import Derived.Test.YtbgkimkbngocjaaM9
set_option linter.unusedVariables false
set_option linter.unusedSimpArgs false
set_option maxHeartbeats 4000000
namespace Go.Proofs.Ytbgkimkbngocjaa.Ax
open Go
theorem fi_some {α : Type} {p : α → Bool} {l : List α} {k : Nat} (hk : k < l.length) (h : p l[k] = true) (hn : ∀ q (hq : q < l.length),q < k → p l[q] = false) : l.findIdx? p = some k :=
 List.findIdx?_eq_some_iff_getElem.2 ⟨hk,h,fun q hq => by simp [hn q (by omega) hq]⟩
theorem fi_none {α : Type} {p : α → Bool} {l : List α} (hn : ∀ q (hq : q < l.length),p l[q] = false) : l.findIdx? p = none:=by
 refine List.findIdx?_eq_none_iff.2 fun x hx => ?_
 obtain ⟨q,hq,rfl⟩:=List.mem_iff_getElem.1 hx
 exact hn q hq
def fiInt : Option Nat → Int
 | some k => (k : Int)
 | none => -1
def defOf (ld : List Df) (s : ByteArray) : Int:=fiInt (ld.findIdx? (fun d => decide (d.s = s)))
theorem k53 {c n : Nat} {H : Hp} (d : Df) (s : ByteArray) (hc : H c = some (.row [.string s] 0 true)) (hcn : c < n) : Rt Try.prog 53 [.agg ⟨d.cells⟩,ptr c 0] H n (.bool (decide (d.s = s))):=by
 apply Rt.mk
 rw [c53]; unfold S53
 (repeat(first|((with_reducible first|apply Wp.gs|apply Wp.cs|apply Wp.cselX|apply Wp.askT|apply Wp.iteKT|apply Wp.ikb|apply Wp.askb|apply Wp.step);case h=>((try simp(disch:=omega)only[↓reduceIte,ask_true,↓X0,X1,Nat.reduceEqDiff,Int.reduceEq,Nat.reduceAdd,Nat.reduceSub,X2,Hp_ne,Nat.reduceLeDiff,Df.cells,hc]);with_reducible first|done|exact rfl|exact bT|exact bF))|apply Wp.andS|apply Wp.orS|with_reducible apply Wp.gu|simp only[↓X3]|simp(disch:=decide)only[asks_nil,asks_in,asks_out,askB_nil,askB_in,askB_out]|with_reducible apply Wp.assoc))
 exact Wp.pure ⟨by simp only; omega,(by intros;first|with_reducible rfl|simp(disch:=omega)only[Hp_ne,Hp_same]),rfl⟩
theorem k52 {n : Nat} {H : Hp} {v : Value} {l : List Df} (hv : Li eDef n H v l) (hl : l.length ≤ 1048576) (k : Nat) (cap : List Value) (p : Df → Bool) (hp : ∀ x ∈ l,∀ H' n',n ≤ n' → (∀ i,i < n → H' i = H i) → Rt Try.prog k (.agg ⟨x.cells⟩ :: cap) H' n' (.bool (p x))) : Rt Try.prog 52 [v,.func (.func k) #[] ⟨cap⟩] H n (.int .i64 (fiInt (l.findIdx? p))):=by
 apply Rt.mk
 rw [c52]; unfold S52
 (repeat(first|((with_reducible first|apply Wp.gs|apply Wp.cs|apply Wp.cselX|apply Wp.askT|apply Wp.iteKT|apply Wp.ikb|apply Wp.askb|apply Wp.step);case h=>((try simp(disch:=omega)only[↓reduceIte,ask_true,↓X0,X1,Nat.reduceEqDiff,Int.reduceEq,Nat.reduceAdd,Nat.reduceSub,hv.len]);with_reducible first|done|exact rfl|exact bT|exact bF))|apply Wp.andS|apply Wp.orS|with_reducible apply Wp.gu|simp only[↓X3]|simp(disch:=decide)only[asks_nil,asks_in,asks_out,askB_nil,askB_in,askB_out]|with_reducible apply Wp.assoc))
 refine Wp.bind (Loop_rule (fun d t H' n' => ∃ j : Nat,j + d = l.length ∧ n ≤ n' ∧ (∀ i,i < n → H' i = H i) ∧ t 0 = v ∧ t 1 = .func (.func k) #[] ⟨cap⟩ ∧ t 7 = .int .i64 l.length ∧ t 8 = .int .i64 j ∧ ∀ q (hq : q < l.length),q < j → p l[q] = false) (fun o => n ≤ o.n ∧ (∀ i,i < n → o.H i = H i) ∧ ((o.e = .exit 0 ∧ l.findIdx? p = none) ∨ (o.e = .ret ∧ ∃ j : Nat,o.t 4 = .int .i64 j ∧ l.findIdx? p = some j))) ?_ l.length _ H _ ⟨0,by omega,by omega,fun _ _ => rfl,by simp [put_at,argsT_at],by simp [put_at,argsT_at],by simp [put_at],by simp [put_at],by omega⟩) ?_
 ·rintro d t H' n' ⟨j,hj,hn,s0,e0,e1,e7,e8,hno⟩
  unfold S52L0
  by_cases hlt : j < l.length
  ·have hlti : (j : Int) < l.length:=by omega
   have hw:=wj (j:=j) (len:=l.length) hlt (by omega)
   have g:=(hv.mv (Nat.le_refl _) s0).dAll (i:=(j : Int)) (by omega) hlti
   rw [gi_nat hlt] at g
   ((repeat(first|((with_reducible first|apply Wp.gs|apply Wp.cs|apply Wp.cselX|apply Wp.askT|apply Wp.iteKT|apply Wp.ikb|apply Wp.askb|apply Wp.step);case h=>((try simp(disch:=omega)only[↓reduceIte,ask_true,↓X0,X1,Nat.reduceEqDiff,Int.reduceEq,Nat.reduceAdd,Nat.reduceSub,e0,e1,e7,e8,hlti,g,calleeP_fn]);with_reducible first|done|exact rfl|exact bT|exact bF))|apply Wp.andS|apply Wp.orS|with_reducible apply Wp.gu|simp only[↓X3]|simp(disch:=decide)only[asks_nil,asks_in,asks_out,askB_nil,askB_in,askB_out]|with_reducible apply Wp.assoc));try(with_reducible apply Wp.cargs;case h=>((try simp(disch:=omega)only[↓reduceIte,ask_true,↓X0,X1,Nat.reduceEqDiff,Int.reduceEq,Nat.reduceAdd,Nat.reduceSub,e0,e1,e7,e8,hlti,g,calleeP_fn]);with_reducible exact rfl)))
   refine Wp.rt (hp l[j] (List.getElem_mem hlt) H' (n' + 9) (by omega) s0) ?_
   intro H1 n1 q1 s1
   by_cases hpj : p l[j] = true
   ·(repeat(first|((with_reducible first|apply Wp.gs|apply Wp.cs|apply Wp.cselX|apply Wp.askT|apply Wp.iteKT|apply Wp.ikb|apply Wp.askb|apply Wp.step);case h=>((try simp(disch:=omega)only[↓reduceIte,ask_true,↓X0,X1,Nat.reduceEqDiff,Int.reduceEq,Nat.reduceAdd,Nat.reduceSub,hpj]);with_reducible first|done|exact rfl|exact bT|exact bF))|apply Wp.andS|apply Wp.orS|with_reducible apply Wp.gu|simp only[↓X3]|simp(disch:=decide)only[asks_nil,asks_in,asks_out,askB_nil,askB_in,askB_out]|with_reducible apply Wp.assoc))
    exact Wp.pure (Nxt.ret ⟨by simp only; omega,(by intros;first|with_reducible rfl|simp(disch:=omega)only[Hp_ne,Hp_same,s1,s0]),.inr ⟨rfl,j,by simp [put_at,e8],fi_some hlt hpj hno⟩⟩)
   ·have hpj' : p l[j] = false:=by simpa using hpj
    (repeat(first|((with_reducible first|apply Wp.gs|apply Wp.cs|apply Wp.cselX|apply Wp.askT|apply Wp.iteKT|apply Wp.ikb|apply Wp.askb|apply Wp.step);case h=>((try simp(disch:=omega)only[↓reduceIte,ask_true,↓X0,X1,Nat.reduceEqDiff,Int.reduceEq,Nat.reduceAdd,Nat.reduceSub,hpj',e8,hw]);with_reducible first|done|exact rfl|exact bT|exact bF))|apply Wp.andS|apply Wp.orS|with_reducible apply Wp.gu|simp only[↓X3]|simp(disch:=decide)only[asks_nil,asks_in,asks_out,askB_nil,askB_in,askB_out]|with_reducible apply Wp.assoc))
    refine Wp.pure (Nxt.go (d - 1) (by omega) ⟨j + 1,by omega,by omega,(by intros;first|with_reducible rfl|simp(disch:=omega)only[Hp_ne,Hp_same,s1,s0]),by simp [put_at,e0],by simp [put_at,e1],by simp [put_at,e7],by simp [put_at],fun q hq hqj => ?_⟩)
    by_cases hqe : q = j
    ·subst hqe; exact hpj'
    ·exact hno q hq (by omega)
  ·have hlti : ¬ (j : Int) < l.length:=by omega
   (repeat(first|((with_reducible first|apply Wp.gs|apply Wp.cs|apply Wp.cselX|apply Wp.askT|apply Wp.iteKT|apply Wp.ikb|apply Wp.askb|apply Wp.step);case h=>((try simp(disch:=omega)only[↓reduceIte,ask_true,↓X0,X1,Nat.reduceEqDiff,Int.reduceEq,Nat.reduceAdd,Nat.reduceSub,e7,e8,hlti]);with_reducible first|done|exact rfl|exact bT|exact bF))|apply Wp.andS|apply Wp.orS|with_reducible apply Wp.gu|simp only[↓X3]|simp(disch:=decide)only[asks_nil,asks_in,asks_out,askB_nil,askB_in,askB_out]|with_reducible apply Wp.assoc))
   exact Wp.pure (Nxt.exit ⟨by simp only; omega,s0,.inl ⟨rfl,fi_none fun q hq => hno q hq (by omega)⟩⟩)
 ·rintro ⟨oe,ot,oH,on⟩ ⟨f1,f2,f3⟩
  simp only at f1 f2 f3
  rcases f3 with ⟨rfl,f4⟩ | ⟨rfl,j,f4,f5⟩
  ·simp(disch:=omega)only[↓reduceIte,ask_true,↓X0,X1,Nat.reduceEqDiff,Int.reduceEq,Nat.reduceAdd,Nat.reduceSub]
   exact Wp.pure ⟨by simp only; omega,f2,by simp only [f4,fiInt]⟩
  ·simp(disch:=omega)only[↓reduceIte,ask_true,↓X0,X1,Nat.reduceEqDiff,Int.reduceEq,Nat.reduceAdd,Nat.reduceSub,f4]
   exact Wp.pure ⟨by simp only; omega,f2,by simp only [f5,fiInt]⟩
theorem k11 {n : Nat} {H : Hp} {v vl vd : Value} {ld : List Df} (hvd : Li eDef n H vd ld) (hl : ld.length ≤ 1048576) (s : ByteArray) : Rt Try.prog 11 [.agg ⟨[v,vl,vd]⟩,.string s] H n (.int .i64 (defOf ld s)):=by
 apply Rt.mk
 rw [c11]; unfold S11
 ((repeat(first|((with_reducible first|apply Wp.gs|apply Wp.cs|apply Wp.cselX|apply Wp.askT|apply Wp.iteKT|apply Wp.ikb|apply Wp.askb|apply Wp.step);case h=>((try simp(disch:=omega)only[↓reduceIte,ask_true,↓X0,X1,Nat.reduceEqDiff,Int.reduceEq,Nat.reduceAdd,Nat.reduceSub,X2,Hp_ne,Nat.reduceLeDiff,ptrV]);with_reducible first|done|exact rfl|exact bT|exact bF))|apply Wp.andS|apply Wp.orS|with_reducible apply Wp.gu|simp only[↓X3]|simp(disch:=decide)only[asks_nil,asks_in,asks_out,askB_nil,askB_in,askB_out]|with_reducible apply Wp.assoc));try(with_reducible apply Wp.cargs;case h=>((try simp(disch:=omega)only[↓reduceIte,ask_true,↓X0,X1,Nat.reduceEqDiff,Int.reduceEq,Nat.reduceAdd,Nat.reduceSub,X2,Hp_ne,Nat.reduceLeDiff,ptrV]);with_reducible exact rfl)))
 refine Wp.rt (k52 (hvd.mv (by omega) (by intros;first|with_reducible rfl|simp(disch:=omega)only[Hp_ne,Hp_same])) hl _ _ (fun d => decide (d.s = s)) ?_) ?_
 ·intro x hx H' n' hn' hs'
  exact k53 x s (by simp (disch:=omega) only [hs',Hp_same]) (by omega)
 intro H1 n1 q1 s1
 (repeat(first|((with_reducible first|apply Wp.gs|apply Wp.cs|apply Wp.cselX|apply Wp.askT|apply Wp.iteKT|apply Wp.ikb|apply Wp.askb|apply Wp.step);case h=>((try simp(disch:=omega)only[↓reduceIte,ask_true,↓X0,X1,Nat.reduceEqDiff,Int.reduceEq,Nat.reduceAdd,Nat.reduceSub]);with_reducible first|done|exact rfl|exact bT|exact bF))|apply Wp.andS|apply Wp.orS|with_reducible apply Wp.gu|simp only[↓X3]|simp(disch:=decide)only[asks_nil,asks_in,asks_out,askB_nil,askB_in,askB_out]|with_reducible apply Wp.assoc))
 exact Wp.pure ⟨by simp only; omega,(by intros;first|with_reducible rfl|simp(disch:=omega)only[Hp_ne,Hp_same,s1]),rfl⟩
theorem k15 {n : Nat} {H : Hp} {v vl vd : Value} {ld : List Df} (hvd : Li eDef n H vd ld) (hl : ld.length ≤ 1048576) (s : ByteArray) : Rt Try.prog 15 [.agg ⟨[v,vl,vd]⟩,.string s] H n (.int .i64 (defOf ld s)):=by
 apply Rt.mk
 rw [c15]; unfold S15 defOf
 ((repeat(first|((with_reducible first|apply Wp.gs|apply Wp.cs|apply Wp.cselX|apply Wp.askT|apply Wp.iteKT|apply Wp.ikb|apply Wp.askb|apply Wp.step);case h=>((try simp(disch:=omega)only[↓reduceIte,ask_true,↓X0,X1,Nat.reduceEqDiff,Int.reduceEq,Nat.reduceAdd,Nat.reduceSub,X2,Hp_ne,Nat.reduceLeDiff]);with_reducible first|done|exact rfl|exact bT|exact bF))|apply Wp.andS|apply Wp.orS|with_reducible apply Wp.gu|simp only[↓X3]|simp(disch:=decide)only[asks_nil,asks_in,asks_out,askB_nil,askB_in,askB_out]|with_reducible apply Wp.assoc));try(with_reducible apply Wp.cargs;case h=>((try simp(disch:=omega)only[↓reduceIte,ask_true,↓X0,X1,Nat.reduceEqDiff,Int.reduceEq,Nat.reduceAdd,Nat.reduceSub,X2,Hp_ne,Nat.reduceLeDiff]);with_reducible exact rfl)))
 generalize hp : (fun d : Df => decide (d.s = s)) = p
 have hpp : ∀ d,p d = decide (d.s = s):=fun d => by rw [← hp]
 refine Wp.bind (Loop_rule (fun d t H' n' => ∃ j : Nat,j + d = ld.length ∧ n + 1 ≤ n' ∧ H' = H.set n (some (.row [v,vl,vd] 0 true)) ∧ t 1 = .string s ∧ t 2 = ptr n 0 ∧ t 5 = .int .i64 j ∧ ∀ q (hq : q < ld.length),q < j → p ld[q] = false) (fun o => n + 1 ≤ o.n ∧ o.H = H.set n (some (.row [v,vl,vd] 0 true)) ∧ ((o.e = .exit 0 ∧ ld.findIdx? p = none) ∨ (o.e = .ret ∧ ∃ j : Nat,o.t 4 = .int .i64 j ∧ ld.findIdx? p = some j))) ?_ ld.length _ _ _ ⟨0,by omega,by omega,rfl,by simp [put_at,argsT_at],by simp [put_at],by simp [put_at],by omega⟩) ?_
 ·rintro d t H' n' ⟨j,hj,hn,rfl,e1,e2,e5,hno⟩
  unfold S15L0
  have hlen:=(hvd.mv (H':=H.set n (some (.row [v,vl,vd] 0 true))) (Nat.le_refl _) (by intros;first|with_reducible rfl|simp(disch:=omega)only[Hp_ne,Hp_same])).len
  by_cases hlt : j < ld.length
  ·have hlti : (j : Int) < ld.length:=by omega
   have hw:=wj (j:=j) (len:=ld.length) hlt (by omega)
   have g:=(hvd.mv (H':=H.set n (some (.row [v,vl,vd] 0 true))) (Nat.le_refl _) (by intros;first|with_reducible rfl|simp(disch:=omega)only[Hp_ne,Hp_same])).dAll (i:=(j : Int)) (by omega) hlti
   rw [gi_nat hlt] at g
   by_cases hpj : ld[j].s = s
   ·(repeat(first|((with_reducible first|apply Wp.gs|apply Wp.cs|apply Wp.cselX|apply Wp.askT|apply Wp.iteKT|apply Wp.ikb|apply Wp.askb|apply Wp.step);case h=>((try simp(disch:=omega)only[↓reduceIte,ask_true,↓X0,X1,Nat.reduceEqDiff,Int.reduceEq,Nat.reduceAdd,Nat.reduceSub,X2,Hp_ne,Nat.reduceLeDiff,e1,e2,e5,hlen,hlti,g,hpj]);with_reducible first|done|exact rfl|exact bT|exact bF))|apply Wp.andS|apply Wp.orS|with_reducible apply Wp.gu|simp only[↓X3]|simp(disch:=decide)only[asks_nil,asks_in,asks_out,askB_nil,askB_in,askB_out]|with_reducible apply Wp.assoc))
    exact Wp.pure (Nxt.ret ⟨by simp only; omega,rfl,.inr ⟨rfl,j,by simp [put_at,e5],fi_some hlt (by rw [hpp]; simpa using hpj) hno⟩⟩)
   ·(repeat(first|((with_reducible first|apply Wp.gs|apply Wp.cs|apply Wp.cselX|apply Wp.askT|apply Wp.iteKT|apply Wp.ikb|apply Wp.askb|apply Wp.step);case h=>((try simp(disch:=omega)only[↓reduceIte,ask_true,↓X0,X1,Nat.reduceEqDiff,Int.reduceEq,Nat.reduceAdd,Nat.reduceSub,X2,Hp_ne,Nat.reduceLeDiff,e1,e2,e5,hlen,hlti,g,hpj,hw]);with_reducible first|done|exact rfl|exact bT|exact bF))|apply Wp.andS|apply Wp.orS|with_reducible apply Wp.gu|simp only[↓X3]|simp(disch:=decide)only[asks_nil,asks_in,asks_out,askB_nil,askB_in,askB_out]|with_reducible apply Wp.assoc))
    refine Wp.pure (Nxt.go (d - 1) (by omega) ⟨j + 1,by omega,by omega,rfl,by simp [put_at,e1],by simp [put_at,e2],by simp [put_at],fun q hq hqj => ?_⟩)
    by_cases hqe : q = j
    ·subst hqe; rw [hpp]; simpa using hpj
    ·exact hno q hq (by omega)
  ·have hlti : ¬ (j : Int) < ld.length:=by omega
   (repeat(first|((with_reducible first|apply Wp.gs|apply Wp.cs|apply Wp.cselX|apply Wp.askT|apply Wp.iteKT|apply Wp.ikb|apply Wp.askb|apply Wp.step);case h=>((try simp(disch:=omega)only[↓reduceIte,ask_true,↓X0,X1,Nat.reduceEqDiff,Int.reduceEq,Nat.reduceAdd,Nat.reduceSub,X2,Hp_ne,Nat.reduceLeDiff,e2,e5,hlen,hlti]);with_reducible first|done|exact rfl|exact bT|exact bF))|apply Wp.andS|apply Wp.orS|with_reducible apply Wp.gu|simp only[↓X3]|simp(disch:=decide)only[asks_nil,asks_in,asks_out,askB_nil,askB_in,askB_out]|with_reducible apply Wp.assoc))
   exact Wp.pure (Nxt.exit ⟨by simp only; omega,rfl,.inl ⟨rfl,fi_none fun q hq => hno q hq (by omega)⟩⟩)
 ·rintro ⟨oe,ot,oH,on⟩ ⟨f1,rfl,f3⟩
  simp only at f1 f3
  rcases f3 with ⟨rfl,f4⟩ | ⟨rfl,j,f4,f5⟩
  ·(repeat(first|((with_reducible first|apply Wp.gs|apply Wp.cs|apply Wp.cselX|apply Wp.askT|apply Wp.iteKT|apply Wp.ikb|apply Wp.askb|apply Wp.step);case h=>((try simp(disch:=omega)only[↓reduceIte,ask_true,↓X0,X1,Nat.reduceEqDiff,Int.reduceEq,Nat.reduceAdd,Nat.reduceSub]);with_reducible first|done|exact rfl|exact bT|exact bF))|apply Wp.andS|apply Wp.orS|with_reducible apply Wp.gu|simp only[↓X3]|simp(disch:=decide)only[asks_nil,asks_in,asks_out,askB_nil,askB_in,askB_out]|with_reducible apply Wp.assoc))
   exact Wp.pure ⟨by simp only; omega,(by intros;first|with_reducible rfl|simp(disch:=omega)only[Hp_ne,Hp_same]),by simp only [f4,fiInt]⟩
  ·(repeat(first|((with_reducible first|apply Wp.gs|apply Wp.cs|apply Wp.cselX|apply Wp.askT|apply Wp.iteKT|apply Wp.ikb|apply Wp.askb|apply Wp.step);case h=>((try simp(disch:=omega)only[↓reduceIte,ask_true,↓X0,X1,Nat.reduceEqDiff,Int.reduceEq,Nat.reduceAdd,Nat.reduceSub,f4]);with_reducible first|done|exact rfl|exact bT|exact bF))|apply Wp.andS|apply Wp.orS|with_reducible apply Wp.gu|simp only[↓X3]|simp(disch:=decide)only[asks_nil,asks_in,asks_out,askB_nil,askB_in,askB_out]|with_reducible apply Wp.assoc))
   exact Wp.pure ⟨by simp only; omega,(by intros;first|with_reducible rfl|simp(disch:=omega)only[Hp_ne,Hp_same]),by simp only [f5,fiInt]; exact f4⟩
end Go.Proofs.Ytbgkimkbngocjaa.Ax
