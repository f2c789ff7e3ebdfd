/- What the law needs: laws of the abstract machine, and contracts of functions. -/
import Derived.Test.YtbgkimkbngocjaaM11
import Derived.Test.YtbgkimkbngocjaaM3
import Derived.Test.YtbgkimkbngocjaaM9
set_option linter.unusedVariables false
set_option linter.unusedSimpArgs false
set_option maxHeartbeats 4000000
namespace Go.Proofs.Ytbgkimkbngocjaa.Ax
open Go
def DfOk (m : Int) (ld : List Df) (j : Nat) : Prop:=nameOk (gi ld (j : Int)).s = true ∧ defOf ld (gi ld (j : Int)).s = j ∧ (0 ≤ (gi ld (j : Int)).at_ ∧ (gi ld (j : Int)).at_ ≤ m - 1) ∧ (0 ≤ (gi ld (j : Int)).args ∧ (gi ld (j : Int)).args ≤ 4)
instance (m : Int) (ld : List Df) (j : Nat) : Decidable (DfOk m ld j):=by unfold DfOk; infer_instance
def InsAll (k : Int) (li : List Ins) : Prop:=∀ j : Nat,j < li.length → InsOk (gi li (j : Int)) k li.length j
def DfAll (m : Int) (ld : List Df) : Prop:=∀ j : Nat,j < ld.length → DfOk m ld j
instance (k : Int) (li : List Ins) : Decidable (InsAll k li):=by unfold InsAll; infer_instance
instance (m : Int) (ld : List Df) : Decidable (DfAll m ld):=by unfold DfAll; infer_instance
def CodeOk (l : List Nd) (li : List Ins) (ld : List Df) : Prop:=PoolOk l ∧ li.length ≤ 400 ∧ ld.length ≤ 20 ∧ InsAll l.length li ∧ DfAll li.length ld
instance (l : List Nd) (li : List Ins) (ld : List Df) : Decidable (CodeOk l li ld):=by unfold CodeOk; infer_instance
section
variable {n0 b : Nat} {H0 : Hp} {v vl vd : Value} {l : List Nd} {li : List Ins} {ld : List Df}
theorem l012 (hb : H0 b = some (.row [v,vl,vd] 0 true)) (hbn : b < n0) (hv : Li eNode n0 H0 v l) (hl : l.length ≤ 1048576) (hvl : Li eIns n0 H0 vl li) (hli : li.length ≤ 400) (hsz : ∀ x ∈ li,x.s.size ≤ 1048576) : ∀ t H n,n0 ≤ n → (∀ i,i < n0 → H i = H0 i) → t 1 = ptr b 0 → t 24 = .int .i64 li.length → t 25 = .int .i64 0 →
  Wp (Loop (S12L0 (Call Try.prog) Loop) t H n) (fun o => n ≤ o.n ∧ (∀ i,i < n0 → o.H i = H0 i) ∧ ((o.e = .exit 0 ∧ o.t 1 = ptr b 0 ∧ InsAll l.length li) ∨ (o.e = .ret ∧ o.t 2 = .bool false ∧ ¬ InsAll l.length li))):=by
 intro t H n hn0 s0 e1 e24 e25
 refine Loop_rule (fun d T H' n' => ∃ j : Nat,j + d = li.length ∧ n ≤ n' ∧ (∀ i,i < n0 → H' i = H0 i) ∧ T 1 = ptr b 0 ∧ T 24 = .int .i64 li.length ∧ T 25 = .int .i64 j ∧ ∀ q : Nat,q < j → InsOk (gi li (q : Int)) l.length li.length q) _ ?_ li.length t H n ⟨0,by omega,by omega,s0,e1,e24,e25,fun q hq => by omega⟩
 rintro d T H' n' ⟨j,hj,hn,s1,e1,e24,e25,hall⟩
 unfold S12L0
 by_cases hlt : j < li.length
 ·have hlti : (j : Int) < li.length:=by omega
  have hw:=wj (j:=j) (len:=li.length) hlt (by omega)
  have hb' : H' b = some (.row [v,vl,vd] 0 true):=by rw [s1 b hbn]; exact hb
  ((repeat(first|((with_reducible first|apply Wp.gs|apply Wp.cs|apply Wp.cselX|apply Wp.askT|apply Wp.iteKT|apply Wp.ikb|apply Wp.askb|apply Wp.step);case h=>((try simp(disch:=omega)only[↓reduceIte,ask_true,↓X0,X1,Nat.reduceEqDiff,Int.reduceEq,Nat.reduceAdd,Nat.reduceSub,X2,Hp_ne,Nat.reduceLeDiff,e1,e24,e25,hlti,hb']);with_reducible first|done|exact rfl|exact bT|exact bF))|apply Wp.andS|apply Wp.orS|with_reducible apply Wp.gu|simp only[↓X3]|simp(disch:=decide)only[asks_nil,asks_in,asks_out,askB_nil,askB_in,askB_out]|with_reducible apply Wp.assoc));try(with_reducible apply Wp.cargs;case h=>((try simp(disch:=omega)only[↓reduceIte,ask_true,↓X0,X1,Nat.reduceEqDiff,Int.reduceEq,Nat.reduceAdd,Nat.reduceSub,X2,Hp_ne,Nat.reduceLeDiff,e1,e24,e25,hlti,hb']);with_reducible exact rfl)))
  refine Wp.rt (k54 (hv.mv (by omega) (by intros;first|with_reducible rfl|simp(disch:=omega)only[Hp_ne,Hp_same,s1])) hl (hvl.mv (by omega) (by intros;first|with_reducible rfl|simp(disch:=omega)only[Hp_ne,Hp_same,s1])) hli hsz hlt) ?_
  intro H1 n1 q1 s2
  by_cases hok : InsOk (gi li (j : Int)) l.length li.length j
  ·(repeat(first|((with_reducible first|apply Wp.gs|apply Wp.cs|apply Wp.cselX|apply Wp.askT|apply Wp.iteKT|apply Wp.ikb|apply Wp.askb|apply Wp.step);case h=>((try simp(disch:=omega)only[↓reduceIte,ask_true,↓X0,X1,Nat.reduceEqDiff,Int.reduceEq,Nat.reduceAdd,Nat.reduceSub,X2,Hp_ne,Nat.reduceLeDiff,e25,hok,hw]);with_reducible first|done|exact rfl|exact bT|exact bF))|apply Wp.andS|apply Wp.orS|with_reducible apply Wp.gu|simp only[↓X3]|simp(disch:=decide)only[asks_nil,asks_in,asks_out,askB_nil,askB_in,askB_out]|with_reducible apply Wp.assoc))
   refine Wp.pure (Nxt.go (d - 1) (by omega) ⟨j + 1,by omega,by omega,(by intros;first|with_reducible rfl|simp(disch:=omega)only[Hp_ne,Hp_same,s2,s1]),by simp [put_at,e1],by simp [put_at,e24],by simp [put_at],fun q hq => ?_⟩)
   by_cases hqj : q = j
   ·subst hqj; exact hok
   ·exact hall q (by omega)
  ·(repeat(first|((with_reducible first|apply Wp.gs|apply Wp.cs|apply Wp.cselX|apply Wp.askT|apply Wp.iteKT|apply Wp.ikb|apply Wp.askb|apply Wp.step);case h=>((try simp(disch:=omega)only[↓reduceIte,ask_true,↓X0,X1,Nat.reduceEqDiff,Int.reduceEq,Nat.reduceAdd,Nat.reduceSub,X2,Hp_ne,Nat.reduceLeDiff,e25,hok,hw]);with_reducible first|done|exact rfl|exact bT|exact bF))|apply Wp.andS|apply Wp.orS|with_reducible apply Wp.gu|simp only[↓X3]|simp(disch:=decide)only[asks_nil,asks_in,asks_out,askB_nil,askB_in,askB_out]|with_reducible apply Wp.assoc))
   exact Wp.pure (Nxt.ret ⟨by simp only; omega,(by intros;first|with_reducible rfl|simp(disch:=omega)only[Hp_ne,Hp_same,s2,s1]),.inr ⟨rfl,by simp [put_at],fun h => hok (h j hlt)⟩⟩)
 ·have hlti : ¬ (j : Int) < li.length:=by omega
  (repeat(first|((with_reducible first|apply Wp.gs|apply Wp.cs|apply Wp.cselX|apply Wp.askT|apply Wp.iteKT|apply Wp.ikb|apply Wp.askb|apply Wp.step);case h=>((try simp(disch:=omega)only[↓reduceIte,ask_true,↓X0,X1,Nat.reduceEqDiff,Int.reduceEq,Nat.reduceAdd,Nat.reduceSub,e24,e25,hlti]);with_reducible first|done|exact rfl|exact bT|exact bF))|apply Wp.andS|apply Wp.orS|with_reducible apply Wp.gu|simp only[↓X3]|simp(disch:=decide)only[asks_nil,asks_in,asks_out,askB_nil,askB_in,askB_out]|with_reducible apply Wp.assoc))
  exact Wp.pure (Nxt.exit ⟨by simp only; omega,s1,.inl ⟨rfl,by simp [put_at,e1],fun q hq => hall q (by omega)⟩⟩)
theorem l014 (hb : H0 b = some (.row [v,vl,vd] 0 true)) (hbn : b < n0) (hv : Li eNode n0 H0 v l) (hl : l.length ≤ 1048576) (hvl : Li eIns n0 H0 vl li) (hli : li.length ≤ 400) (hsz : ∀ x ∈ li,x.s.size ≤ 1048576) : ∀ t H n,n0 ≤ n → (∀ i,i < n0 → H i = H0 i) → t 1 = ptr b 0 → t 3 = .int .i64 0 →
  Wp (Loop (S14L0 (Call Try.prog) Loop) t H n) (fun o => n ≤ o.n ∧ (∀ i,i < n0 → o.H i = H0 i) ∧ ((o.e = .exit 0 ∧ o.t 1 = ptr b 0 ∧ InsAll l.length li) ∨ (o.e = .ret ∧ o.t 2 = .bool false ∧ ¬ InsAll l.length li))):=by
 intro t H n hn0 s0 e1 e3
 refine Loop_rule (fun d T H' n' => ∃ j : Nat,j + d = li.length ∧ n ≤ n' ∧ (∀ i,i < n0 → H' i = H0 i) ∧ T 1 = ptr b 0 ∧ T 3 = .int .i64 j ∧ ∀ q : Nat,q < j → InsOk (gi li (q : Int)) l.length li.length q) _ ?_ li.length t H n ⟨0,by omega,by omega,s0,e1,e3,fun q hq => by omega⟩
 rintro d T H' n' ⟨j,hj,hn,s1,e1,e3,hall⟩
 unfold S14L0
 have hb' : H' b = some (.row [v,vl,vd] 0 true):=by rw [s1 b hbn]; exact hb
 have hlen:=hvl.len
 by_cases hlt : j < li.length
 ·have hlti : (j : Int) < li.length:=by omega
  have hw:=wj (j:=j) (len:=li.length) hlt (by omega)
  ((repeat(first|((with_reducible first|apply Wp.gs|apply Wp.cs|apply Wp.cselX|apply Wp.askT|apply Wp.iteKT|apply Wp.ikb|apply Wp.askb|apply Wp.step);case h=>((try simp(disch:=omega)only[↓reduceIte,ask_true,↓X0,X1,Nat.reduceEqDiff,Int.reduceEq,Nat.reduceAdd,Nat.reduceSub,X2,Hp_ne,Nat.reduceLeDiff,e1,e3,hlti,hb',hlen]);with_reducible first|done|exact rfl|exact bT|exact bF))|apply Wp.andS|apply Wp.orS|with_reducible apply Wp.gu|simp only[↓X3]|simp(disch:=decide)only[asks_nil,asks_in,asks_out,askB_nil,askB_in,askB_out]|with_reducible apply Wp.assoc));try(with_reducible apply Wp.cargs;case h=>((try simp(disch:=omega)only[↓reduceIte,ask_true,↓X0,X1,Nat.reduceEqDiff,Int.reduceEq,Nat.reduceAdd,Nat.reduceSub,X2,Hp_ne,Nat.reduceLeDiff,e1,e3,hlti,hb',hlen]);with_reducible exact rfl)))
  refine Wp.rt (k59 (hv.mv (by omega) (by intros;first|with_reducible rfl|simp(disch:=omega)only[Hp_ne,Hp_same,s1])) hl (hvl.mv (by omega) (by intros;first|with_reducible rfl|simp(disch:=omega)only[Hp_ne,Hp_same,s1])) hli hsz hlt) ?_
  intro H1 n1 q1 s2
  by_cases hok : InsOk (gi li (j : Int)) l.length li.length j
  ·(repeat(first|((with_reducible first|apply Wp.gs|apply Wp.cs|apply Wp.cselX|apply Wp.askT|apply Wp.iteKT|apply Wp.ikb|apply Wp.askb|apply Wp.step);case h=>((try simp(disch:=omega)only[↓reduceIte,ask_true,↓X0,X1,Nat.reduceEqDiff,Int.reduceEq,Nat.reduceAdd,Nat.reduceSub,X2,Hp_ne,Nat.reduceLeDiff,e3,hok,hw]);with_reducible first|done|exact rfl|exact bT|exact bF))|apply Wp.andS|apply Wp.orS|with_reducible apply Wp.gu|simp only[↓X3]|simp(disch:=decide)only[asks_nil,asks_in,asks_out,askB_nil,askB_in,askB_out]|with_reducible apply Wp.assoc))
   refine Wp.pure (Nxt.go (d - 1) (by omega) ⟨j + 1,by omega,by omega,(by intros;first|with_reducible rfl|simp(disch:=omega)only[Hp_ne,Hp_same,s2,s1]),by simp [put_at,e1],by simp [put_at],fun q hq => ?_⟩)
   by_cases hqj : q = j
   ·subst hqj; exact hok
   ·exact hall q (by omega)
  ·(repeat(first|((with_reducible first|apply Wp.gs|apply Wp.cs|apply Wp.cselX|apply Wp.askT|apply Wp.iteKT|apply Wp.ikb|apply Wp.askb|apply Wp.step);case h=>((try simp(disch:=omega)only[↓reduceIte,ask_true,↓X0,X1,Nat.reduceEqDiff,Int.reduceEq,Nat.reduceAdd,Nat.reduceSub,X2,Hp_ne,Nat.reduceLeDiff,e3,hok,hw]);with_reducible first|done|exact rfl|exact bT|exact bF))|apply Wp.andS|apply Wp.orS|with_reducible apply Wp.gu|simp only[↓X3]|simp(disch:=decide)only[asks_nil,asks_in,asks_out,askB_nil,askB_in,askB_out]|with_reducible apply Wp.assoc))
   exact Wp.pure (Nxt.ret ⟨by simp only; omega,(by intros;first|with_reducible rfl|simp(disch:=omega)only[Hp_ne,Hp_same,s2,s1]),.inr ⟨rfl,by simp [put_at],fun h => hok (h j hlt)⟩⟩)
 ·have hlti : ¬ (j : Int) < li.length:=by omega
  (repeat(first|((with_reducible first|apply Wp.gs|apply Wp.cs|apply Wp.cselX|apply Wp.askT|apply Wp.iteKT|apply Wp.ikb|apply Wp.askb|apply Wp.step);case h=>((try simp(disch:=omega)only[↓reduceIte,ask_true,↓X0,X1,Nat.reduceEqDiff,Int.reduceEq,Nat.reduceAdd,Nat.reduceSub,X2,Hp_ne,Nat.reduceLeDiff,e1,e3,hlti,hb',hlen]);with_reducible first|done|exact rfl|exact bT|exact bF))|apply Wp.andS|apply Wp.orS|with_reducible apply Wp.gu|simp only[↓X3]|simp(disch:=decide)only[asks_nil,asks_in,asks_out,askB_nil,askB_in,askB_out]|with_reducible apply Wp.assoc))
  exact Wp.pure (Nxt.exit ⟨by simp only; omega,s1,.inl ⟨rfl,by simp [put_at,e1],fun q hq => hall q (by omega)⟩⟩)
theorem l112 (hb : H0 b = some (.row [v,vl,vd] 0 true)) (hbn : b < n0) (hvl : Li eIns n0 H0 vl li) (hli : li.length ≤ 400) (hvd : Li eDef n0 H0 vd ld) (hld : ld.length ≤ 20) (hsz : ∀ x ∈ ld,x.s.size ≤ 1048576) : ∀ t H n,n0 ≤ n → (∀ i,i < n0 → H i = H0 i) → t 1 = ptr b 0 → t 34 = vd → t 35 = .int .i64 ld.length → t 36 = .int .i64 0 →
  Wp (Loop (S12L1 (Call Try.prog) Loop) t H n) (fun o => n ≤ o.n ∧ (∀ i,i < n0 → o.H i = H0 i) ∧ ((o.e = .exit 2 ∧ DfAll li.length ld) ∨ (o.e = .ret ∧ o.t 2 = .bool false ∧ ¬ DfAll li.length ld))):=by
 intro t H n hn0 s0 e1 e34 e35 e36
 refine Loop_rule (fun d T H' n' => ∃ j : Nat,j + d = ld.length ∧ n ≤ n' ∧ (∀ i,i < n0 → H' i = H0 i) ∧ T 1 = ptr b 0 ∧ T 34 = vd ∧ T 35 = .int .i64 ld.length ∧ T 36 = .int .i64 j ∧ ∀ q : Nat,q < j → DfOk li.length ld q) _ ?_ ld.length t H n ⟨0,by omega,by omega,s0,e1,e34,e35,e36,fun q hq => by omega⟩
 rintro d T H' n' ⟨j,hj,hn,s1,e1,e34,e35,e36,hall⟩
 unfold S12L1
 have hb' : H' b = some (.row [v,vl,vd] 0 true):=by rw [s1 b hbn]; exact hb
 by_cases hlt : j < ld.length
 ·have hlti : (j : Int) < ld.length:=by omega
  have hw:=wj (j:=j) (len:=ld.length) hlt (by omega)
  have hw2 : IntKind.i64.wrap ((li.length : Int) - 1) = (li.length : Int) - 1:=w64 (by omega)
  have g:=(hvd.mv (Nat.le_refl _) s1).dAll (i:=(j : Int)) (by omega) hlti
  have hx:=hsz _ (gi_mem (l:=ld) (i:=(j : Int)) (by omega) hlti)
  have hiff : DfOk li.length ld j ↔ (nameOk (gi ld (j : Int)).s = true ∧ defOf ld (gi ld (j : Int)).s = j ∧ (0 ≤ (gi ld (j : Int)).at_ ∧ (gi ld (j : Int)).at_ ≤ (li.length : Int) - 1) ∧ (0 ≤ (gi ld (j : Int)).args ∧ (gi ld (j : Int)).args ≤ 4)):=Iff.rfl
  generalize gi ld (j : Int) = x at g hx hiff
  obtain ⟨xs,xa,xr⟩:=x
  simp only [Df.cells] at g hx hiff
  ((repeat(first|((with_reducible first|apply Wp.gs|apply Wp.cs|apply Wp.cselX|apply Wp.askT|apply Wp.iteKT|apply Wp.ikb|apply Wp.askb|apply Wp.step);case h=>((try simp(disch:=omega)only[↓reduceIte,ask_true,↓X0,X1,Nat.reduceEqDiff,Int.reduceEq,Nat.reduceAdd,Nat.reduceSub,X2,Hp_ne,Nat.reduceLeDiff,e1,e34,e35,e36,hlti,hb',g]);with_reducible first|done|exact rfl|exact bT|exact bF))|apply Wp.andS|apply Wp.orS|with_reducible apply Wp.gu|simp only[↓X3]|simp(disch:=decide)only[asks_nil,asks_in,asks_out,askB_nil,askB_in,askB_out]|with_reducible apply Wp.assoc));try(with_reducible apply Wp.cargs;case h=>((try simp(disch:=omega)only[↓reduceIte,ask_true,↓X0,X1,Nat.reduceEqDiff,Int.reduceEq,Nat.reduceAdd,Nat.reduceSub,X2,Hp_ne,Nat.reduceLeDiff,e1,e34,e35,e36,hlti,hb',g]);with_reducible exact rfl)))
  refine Wp.rt (rNameOk xs hx _ _) ?_
  intro H1 n1 q1 s2
  have hret : ∀ (T' : Tm) (H2 : Hp) (n2 : Nat),n ≤ n2 → (∀ i,i < n0 → H2 i = H0 i) → T' 2 = .bool false → ¬ DfOk li.length ld j → Wp (some (⟨.ret,T',H2,n2⟩ : Out)) (Nxt (fun d T H' n' => ∃ j : Nat,j + d = ld.length ∧ n ≤ n' ∧ (∀ i,i < n0 → H' i = H0 i) ∧ T 1 = ptr b 0 ∧ T 34 = vd ∧ T 35 = .int .i64 ld.length ∧ T 36 = .int .i64 j ∧ ∀ q : Nat,q < j → DfOk li.length ld q) d (fun o => n ≤ o.n ∧ (∀ i,i < n0 → o.H i = H0 i) ∧ ((o.e = .exit 2 ∧ DfAll li.length ld) ∨ (o.e = .ret ∧ o.t 2 = .bool false ∧ ¬ DfAll li.length ld)))) :=
   fun T' H2 n2 a1 a2 a3 a4 => Wp.pure (Nxt.ret ⟨a1,a2,.inr ⟨rfl,a3,fun h => a4 (h j hlt)⟩⟩)
  by_cases c1 : nameOk xs = true
  case neg =>
   have c1' : nameOk xs = false:=by simpa using c1
   ((repeat(first|((with_reducible first|apply Wp.gs|apply Wp.cs|apply Wp.cselX|apply Wp.askT|apply Wp.iteKT|apply Wp.ikb|apply Wp.askb|apply Wp.step);case h=>((try simp(disch:=omega)only[↓reduceIte,ask_true,↓X0,X1,Nat.reduceEqDiff,Int.reduceEq,Nat.reduceAdd,Nat.reduceSub,X2,Hp_ne,Nat.reduceLeDiff,c1',s2]);with_reducible first|done|exact rfl|exact bT|exact bF))|apply Wp.andS|apply Wp.orS|with_reducible apply Wp.gu|simp only[↓X3]|simp(disch:=decide)only[asks_nil,asks_in,asks_out,askB_nil,askB_in,askB_out]|with_reducible apply Wp.assoc));try(with_reducible apply Wp.cargs;case h=>((try simp(disch:=omega)only[↓reduceIte,ask_true,↓X0,X1,Nat.reduceEqDiff,Int.reduceEq,Nat.reduceAdd,Nat.reduceSub,X2,Hp_ne,Nat.reduceLeDiff,c1',s2]);with_reducible exact rfl)))
   exact hret _ _ _ (by omega) ((by intros;first|with_reducible rfl|simp(disch:=omega)only[Hp_ne,Hp_same,s2,s1])) (by simp [put_at]) (fun h => c1 (hiff.1 h).1)
  ((repeat(first|((with_reducible first|apply Wp.gs|apply Wp.cs|apply Wp.cselX|apply Wp.askT|apply Wp.iteKT|apply Wp.ikb|apply Wp.askb|apply Wp.step);case h=>((try simp(disch:=omega)only[↓reduceIte,ask_true,↓X0,X1,Nat.reduceEqDiff,Int.reduceEq,Nat.reduceAdd,Nat.reduceSub,X2,Hp_ne,Nat.reduceLeDiff,c1,s2,e1,e36,hb',s1]);with_reducible first|done|exact rfl|exact bT|exact bF))|apply Wp.andS|apply Wp.orS|with_reducible apply Wp.gu|simp only[↓X3]|simp(disch:=decide)only[asks_nil,asks_in,asks_out,askB_nil,askB_in,askB_out]|with_reducible apply Wp.assoc));try(with_reducible apply Wp.cargs;case h=>((try simp(disch:=omega)only[↓reduceIte,ask_true,↓X0,X1,Nat.reduceEqDiff,Int.reduceEq,Nat.reduceAdd,Nat.reduceSub,X2,Hp_ne,Nat.reduceLeDiff,c1,s2,e1,e36,hb',s1]);with_reducible exact rfl)))
  refine Wp.rt (k11 ((hvd.mv (by omega) (by intros;first|with_reducible rfl|simp(disch:=omega)only[Hp_ne,Hp_same,s2,s1]))) (by omega) xs) ?_
  intro H3 n3 q3 s3
  by_cases c2 : defOf ld xs = (j : Int)
  case neg =>
   ((repeat(first|((with_reducible first|apply Wp.gs|apply Wp.cs|apply Wp.cselX|apply Wp.askT|apply Wp.iteKT|apply Wp.ikb|apply Wp.askb|apply Wp.step);case h=>((try simp(disch:=omega)only[↓reduceIte,ask_true,↓X0,X1,Nat.reduceEqDiff,Int.reduceEq,Nat.reduceAdd,Nat.reduceSub,X2,Hp_ne,Nat.reduceLeDiff,c2,s2,s3,e1,e36]);with_reducible first|done|exact rfl|exact bT|exact bF))|apply Wp.andS|apply Wp.orS|with_reducible apply Wp.gu|simp only[↓X3]|simp(disch:=decide)only[asks_nil,asks_in,asks_out,askB_nil,askB_in,askB_out]|with_reducible apply Wp.assoc));try(with_reducible apply Wp.cargs;case h=>((try simp(disch:=omega)only[↓reduceIte,ask_true,↓X0,X1,Nat.reduceEqDiff,Int.reduceEq,Nat.reduceAdd,Nat.reduceSub,X2,Hp_ne,Nat.reduceLeDiff,c2,s2,s3,e1,e36]);with_reducible exact rfl)))
   exact hret _ _ _ (by omega) ((by intros;first|with_reducible rfl|simp(disch:=omega)only[Hp_ne,Hp_same,s3,s2,s1])) (by simp [put_at]) (fun h => c2 (hiff.1 h).2.1)
  by_cases c3 : 0 ≤ xa ∧ xa ≤ (li.length : Int) - 1
  case neg =>
   ((repeat(first|((with_reducible first|apply Wp.gs|apply Wp.cs|apply Wp.cselX|apply Wp.askT|apply Wp.iteKT|apply Wp.ikb|apply Wp.askb|apply Wp.step);case h=>((try simp(disch:=omega)only[↓reduceIte,ask_true,↓X0,X1,Nat.reduceEqDiff,Int.reduceEq,Nat.reduceAdd,Nat.reduceSub,X2,Hp_ne,Nat.reduceLeDiff,c2,s2,s3,e1,e36,hb',hvl.len,hw2,k56,c3]);with_reducible first|done|exact rfl|exact bT|exact bF))|apply Wp.andS|apply Wp.orS|with_reducible apply Wp.gu|simp only[↓X3]|simp(disch:=decide)only[asks_nil,asks_in,asks_out,askB_nil,askB_in,askB_out]|with_reducible apply Wp.assoc));try(with_reducible apply Wp.cargs;case h=>((try simp(disch:=omega)only[↓reduceIte,ask_true,↓X0,X1,Nat.reduceEqDiff,Int.reduceEq,Nat.reduceAdd,Nat.reduceSub,X2,Hp_ne,Nat.reduceLeDiff,c2,s2,s3,e1,e36,hb',hvl.len,hw2,k56,c3]);with_reducible exact rfl)))
   exact hret _ _ _ (by omega) ((by intros;first|with_reducible rfl|simp(disch:=omega)only[Hp_ne,Hp_same,s3,s2,s1])) (by simp [put_at]) (fun h => c3 (hiff.1 h).2.2.1)
  by_cases c4 : 0 ≤ xr ∧ xr ≤ 4
  case neg =>
   ((repeat(first|((with_reducible first|apply Wp.gs|apply Wp.cs|apply Wp.cselX|apply Wp.askT|apply Wp.iteKT|apply Wp.ikb|apply Wp.askb|apply Wp.step);case h=>((try simp(disch:=omega)only[↓reduceIte,ask_true,↓X0,X1,Nat.reduceEqDiff,Int.reduceEq,Nat.reduceAdd,Nat.reduceSub,X2,Hp_ne,Nat.reduceLeDiff,c2,s2,s3,e1,e36,hb',hvl.len,hw2,k56,c3,c4,and_self]);with_reducible first|done|exact rfl|exact bT|exact bF))|apply Wp.andS|apply Wp.orS|with_reducible apply Wp.gu|simp only[↓X3]|simp(disch:=decide)only[asks_nil,asks_in,asks_out,askB_nil,askB_in,askB_out]|with_reducible apply Wp.assoc));try(with_reducible apply Wp.cargs;case h=>((try simp(disch:=omega)only[↓reduceIte,ask_true,↓X0,X1,Nat.reduceEqDiff,Int.reduceEq,Nat.reduceAdd,Nat.reduceSub,X2,Hp_ne,Nat.reduceLeDiff,c2,s2,s3,e1,e36,hb',hvl.len,hw2,k56,c3,c4,and_self]);with_reducible exact rfl)))
   exact hret _ _ _ (by omega) ((by intros;first|with_reducible rfl|simp(disch:=omega)only[Hp_ne,Hp_same,s3,s2,s1])) (by simp [put_at]) (fun h => c4 (hiff.1 h).2.2.2)
  (repeat(first|((with_reducible first|apply Wp.gs|apply Wp.cs|apply Wp.cselX|apply Wp.askT|apply Wp.iteKT|apply Wp.ikb|apply Wp.askb|apply Wp.step);case h=>((try simp(disch:=omega)only[↓reduceIte,ask_true,↓X0,X1,Nat.reduceEqDiff,Int.reduceEq,Nat.reduceAdd,Nat.reduceSub,X2,Hp_ne,Nat.reduceLeDiff,c2,s2,s3,e1,e36,hb',hvl.len,hw2,k56,c3,c4,and_self,hw]);with_reducible first|done|exact rfl|exact bT|exact bF))|apply Wp.andS|apply Wp.orS|with_reducible apply Wp.gu|simp only[↓X3]|simp(disch:=decide)only[asks_nil,asks_in,asks_out,askB_nil,askB_in,askB_out]|with_reducible apply Wp.assoc))
  refine Wp.pure (Nxt.go (d - 1) (by omega) ⟨j + 1,by omega,by omega,(by intros;first|with_reducible rfl|simp(disch:=omega)only[Hp_ne,Hp_same,s3,s2,s1]),by simp [put_at,e1],by simp [put_at,e34],by simp [put_at,e35],by simp [put_at],fun q hq => ?_⟩)
  by_cases hqj : q = j
  ·subst hqj; exact hiff.2 ⟨c1,c2,c3,c4⟩
  ·exact hall q (by omega)
 ·have hlti : ¬ (j : Int) < ld.length:=by omega
  (repeat(first|((with_reducible first|apply Wp.gs|apply Wp.cs|apply Wp.cselX|apply Wp.askT|apply Wp.iteKT|apply Wp.ikb|apply Wp.askb|apply Wp.step);case h=>((try simp(disch:=omega)only[↓reduceIte,ask_true,↓X0,X1,Nat.reduceEqDiff,Int.reduceEq,Nat.reduceAdd,Nat.reduceSub,X2,Hp_ne,Nat.reduceLeDiff,e35,e36,hlti]);with_reducible first|done|exact rfl|exact bT|exact bF))|apply Wp.andS|apply Wp.orS|with_reducible apply Wp.gu|simp only[↓X3]|simp(disch:=decide)only[asks_nil,asks_in,asks_out,askB_nil,askB_in,askB_out]|with_reducible apply Wp.assoc))
  exact Wp.pure (Nxt.exit ⟨by simp only; omega,s1,.inl ⟨rfl,fun q hq => hall q (by omega)⟩⟩)
theorem l114 (hb : H0 b = some (.row [v,vl,vd] 0 true)) (hbn : b < n0) (hvl : Li eIns n0 H0 vl li) (hli : li.length ≤ 400) (hvd : Li eDef n0 H0 vd ld) (hld : ld.length ≤ 20) (hsz : ∀ x ∈ ld,x.s.size ≤ 1048576) : ∀ t H n,n0 ≤ n → (∀ i,i < n0 → H i = H0 i) → t 1 = ptr b 0 → t 4 = .int .i64 0 →
  Wp (Loop (S14L1 (Call Try.prog) Loop) t H n) (fun o => n ≤ o.n ∧ (∀ i,i < n0 → o.H i = H0 i) ∧ ((o.e = .exit 2 ∧ DfAll li.length ld) ∨ (o.e = .ret ∧ o.t 2 = .bool false ∧ ¬ DfAll li.length ld))):=by
 intro t H n hn0 s0 e1 e4
 refine Loop_rule (fun d T H' n' => ∃ j : Nat,j + d = ld.length ∧ n ≤ n' ∧ (∀ i,i < n0 → H' i = H0 i) ∧ T 1 = ptr b 0 ∧ T 4 = .int .i64 j ∧ ∀ q : Nat,q < j → DfOk li.length ld q) _ ?_ ld.length t H n ⟨0,by omega,by omega,s0,e1,e4,fun q hq => by omega⟩
 rintro d T H' n' ⟨j,hj,hn,s1,e1,e4,hall⟩
 unfold S14L1
 have hb' : H' b = some (.row [v,vl,vd] 0 true):=by rw [s1 b hbn]; exact hb
 have hlen:=(hvd.mv (Nat.le_refl _) s1).len
 by_cases hlt : j < ld.length
 ·have hlti : (j : Int) < ld.length:=by omega
  have hw:=wj (j:=j) (len:=ld.length) hlt (by omega)
  have hw2 : IntKind.i64.wrap ((li.length : Int) - 1) = (li.length : Int) - 1:=w64 (by omega)
  have g:=(hvd.mv (Nat.le_refl _) s1).dAll (i:=(j : Int)) (by omega) hlti
  have hx:=hsz _ (gi_mem (l:=ld) (i:=(j : Int)) (by omega) hlti)
  have hiff : DfOk li.length ld j ↔ (nameOk (gi ld (j : Int)).s = true ∧ defOf ld (gi ld (j : Int)).s = j ∧ (0 ≤ (gi ld (j : Int)).at_ ∧ (gi ld (j : Int)).at_ ≤ (li.length : Int) - 1) ∧ (0 ≤ (gi ld (j : Int)).args ∧ (gi ld (j : Int)).args ≤ 4)):=Iff.rfl
  generalize gi ld (j : Int) = x at g hx hiff
  obtain ⟨xs,xa,xr⟩:=x
  simp only [Df.cells] at g hx hiff
  ((repeat(first|((with_reducible first|apply Wp.gs|apply Wp.cs|apply Wp.cselX|apply Wp.askT|apply Wp.iteKT|apply Wp.ikb|apply Wp.askb|apply Wp.step);case h=>((try simp(disch:=omega)only[↓reduceIte,ask_true,↓X0,X1,Nat.reduceEqDiff,Int.reduceEq,Nat.reduceAdd,Nat.reduceSub,X2,Hp_ne,Nat.reduceLeDiff,hlen,e1,e4,hlti,hb',g]);with_reducible first|done|exact rfl|exact bT|exact bF))|apply Wp.andS|apply Wp.orS|with_reducible apply Wp.gu|simp only[↓X3]|simp(disch:=decide)only[asks_nil,asks_in,asks_out,askB_nil,askB_in,askB_out]|with_reducible apply Wp.assoc));try(with_reducible apply Wp.cargs;case h=>((try simp(disch:=omega)only[↓reduceIte,ask_true,↓X0,X1,Nat.reduceEqDiff,Int.reduceEq,Nat.reduceAdd,Nat.reduceSub,X2,Hp_ne,Nat.reduceLeDiff,hlen,e1,e4,hlti,hb',g]);with_reducible exact rfl)))
  refine Wp.rt (sNameOk xs hx _ _) ?_
  intro H1 n1 q1 s2
  have hret : ∀ (T' : Tm) (H2 : Hp) (n2 : Nat),n ≤ n2 → (∀ i,i < n0 → H2 i = H0 i) → T' 2 = .bool false → ¬ DfOk li.length ld j → Wp (some (⟨.ret,T',H2,n2⟩ : Out)) (Nxt (fun d T H' n' => ∃ j : Nat,j + d = ld.length ∧ n ≤ n' ∧ (∀ i,i < n0 → H' i = H0 i) ∧ T 1 = ptr b 0 ∧ T 4 = .int .i64 j ∧ ∀ q : Nat,q < j → DfOk li.length ld q) d (fun o => n ≤ o.n ∧ (∀ i,i < n0 → o.H i = H0 i) ∧ ((o.e = .exit 2 ∧ DfAll li.length ld) ∨ (o.e = .ret ∧ o.t 2 = .bool false ∧ ¬ DfAll li.length ld)))) :=
   fun T' H2 n2 a1 a2 a3 a4 => Wp.pure (Nxt.ret ⟨a1,a2,.inr ⟨rfl,a3,fun h => a4 (h j hlt)⟩⟩)
  by_cases c1 : nameOk xs = true
  case neg =>
   have c1' : nameOk xs = false:=by simpa using c1
   ((repeat(first|((with_reducible first|apply Wp.gs|apply Wp.cs|apply Wp.cselX|apply Wp.askT|apply Wp.iteKT|apply Wp.ikb|apply Wp.askb|apply Wp.step);case h=>((try simp(disch:=omega)only[↓reduceIte,ask_true,↓X0,X1,Nat.reduceEqDiff,Int.reduceEq,Nat.reduceAdd,Nat.reduceSub,X2,Hp_ne,Nat.reduceLeDiff,c1',s2]);with_reducible first|done|exact rfl|exact bT|exact bF))|apply Wp.andS|apply Wp.orS|with_reducible apply Wp.gu|simp only[↓X3]|simp(disch:=decide)only[asks_nil,asks_in,asks_out,askB_nil,askB_in,askB_out]|with_reducible apply Wp.assoc));try(with_reducible apply Wp.cargs;case h=>((try simp(disch:=omega)only[↓reduceIte,ask_true,↓X0,X1,Nat.reduceEqDiff,Int.reduceEq,Nat.reduceAdd,Nat.reduceSub,X2,Hp_ne,Nat.reduceLeDiff,c1',s2]);with_reducible exact rfl)))
   exact hret _ _ _ (by omega) ((by intros;first|with_reducible rfl|simp(disch:=omega)only[Hp_ne,Hp_same,s2,s1])) (by simp [put_at]) (fun h => c1 (hiff.1 h).1)
  ((repeat(first|((with_reducible first|apply Wp.gs|apply Wp.cs|apply Wp.cselX|apply Wp.askT|apply Wp.iteKT|apply Wp.ikb|apply Wp.askb|apply Wp.step);case h=>((try simp(disch:=omega)only[↓reduceIte,ask_true,↓X0,X1,Nat.reduceEqDiff,Int.reduceEq,Nat.reduceAdd,Nat.reduceSub,X2,Hp_ne,Nat.reduceLeDiff,c1,s2,e1,e4,hb',s1]);with_reducible first|done|exact rfl|exact bT|exact bF))|apply Wp.andS|apply Wp.orS|with_reducible apply Wp.gu|simp only[↓X3]|simp(disch:=decide)only[asks_nil,asks_in,asks_out,askB_nil,askB_in,askB_out]|with_reducible apply Wp.assoc));try(with_reducible apply Wp.cargs;case h=>((try simp(disch:=omega)only[↓reduceIte,ask_true,↓X0,X1,Nat.reduceEqDiff,Int.reduceEq,Nat.reduceAdd,Nat.reduceSub,X2,Hp_ne,Nat.reduceLeDiff,c1,s2,e1,e4,hb',s1]);with_reducible exact rfl)))
  refine Wp.rt (k15 ((hvd.mv (by omega) (by intros;first|with_reducible rfl|simp(disch:=omega)only[Hp_ne,Hp_same,s2,s1]))) (by omega) xs) ?_
  intro H3 n3 q3 s3
  by_cases c2 : defOf ld xs = (j : Int)
  case neg =>
   ((repeat(first|((with_reducible first|apply Wp.gs|apply Wp.cs|apply Wp.cselX|apply Wp.askT|apply Wp.iteKT|apply Wp.ikb|apply Wp.askb|apply Wp.step);case h=>((try simp(disch:=omega)only[↓reduceIte,ask_true,↓X0,X1,Nat.reduceEqDiff,Int.reduceEq,Nat.reduceAdd,Nat.reduceSub,X2,Hp_ne,Nat.reduceLeDiff,c2,s2,s3,e1,e4]);with_reducible first|done|exact rfl|exact bT|exact bF))|apply Wp.andS|apply Wp.orS|with_reducible apply Wp.gu|simp only[↓X3]|simp(disch:=decide)only[asks_nil,asks_in,asks_out,askB_nil,askB_in,askB_out]|with_reducible apply Wp.assoc));try(with_reducible apply Wp.cargs;case h=>((try simp(disch:=omega)only[↓reduceIte,ask_true,↓X0,X1,Nat.reduceEqDiff,Int.reduceEq,Nat.reduceAdd,Nat.reduceSub,X2,Hp_ne,Nat.reduceLeDiff,c2,s2,s3,e1,e4]);with_reducible exact rfl)))
   exact hret _ _ _ (by omega) ((by intros;first|with_reducible rfl|simp(disch:=omega)only[Hp_ne,Hp_same,s3,s2,s1])) (by simp [put_at]) (fun h => c2 (hiff.1 h).2.1)
  by_cases c3 : 0 ≤ xa ∧ xa ≤ (li.length : Int) - 1
  case neg =>
   ((repeat(first|((with_reducible first|apply Wp.gs|apply Wp.cs|apply Wp.cselX|apply Wp.askT|apply Wp.iteKT|apply Wp.ikb|apply Wp.askb|apply Wp.step);case h=>((try simp(disch:=omega)only[↓reduceIte,ask_true,↓X0,X1,Nat.reduceEqDiff,Int.reduceEq,Nat.reduceAdd,Nat.reduceSub,X2,Hp_ne,Nat.reduceLeDiff,c2,s2,s3,e1,e4,hb',hvl.len,hw2,k61,c3]);with_reducible first|done|exact rfl|exact bT|exact bF))|apply Wp.andS|apply Wp.orS|with_reducible apply Wp.gu|simp only[↓X3]|simp(disch:=decide)only[asks_nil,asks_in,asks_out,askB_nil,askB_in,askB_out]|with_reducible apply Wp.assoc));try(with_reducible apply Wp.cargs;case h=>((try simp(disch:=omega)only[↓reduceIte,ask_true,↓X0,X1,Nat.reduceEqDiff,Int.reduceEq,Nat.reduceAdd,Nat.reduceSub,X2,Hp_ne,Nat.reduceLeDiff,c2,s2,s3,e1,e4,hb',hvl.len,hw2,k61,c3]);with_reducible exact rfl)))
   exact hret _ _ _ (by omega) ((by intros;first|with_reducible rfl|simp(disch:=omega)only[Hp_ne,Hp_same,s3,s2,s1])) (by simp [put_at]) (fun h => c3 (hiff.1 h).2.2.1)
  by_cases c4 : 0 ≤ xr ∧ xr ≤ 4
  case neg =>
   ((repeat(first|((with_reducible first|apply Wp.gs|apply Wp.cs|apply Wp.cselX|apply Wp.askT|apply Wp.iteKT|apply Wp.ikb|apply Wp.askb|apply Wp.step);case h=>((try simp(disch:=omega)only[↓reduceIte,ask_true,↓X0,X1,Nat.reduceEqDiff,Int.reduceEq,Nat.reduceAdd,Nat.reduceSub,X2,Hp_ne,Nat.reduceLeDiff,c2,s2,s3,e1,e4,hb',hvl.len,hw2,k61,c3,c4,and_self]);with_reducible first|done|exact rfl|exact bT|exact bF))|apply Wp.andS|apply Wp.orS|with_reducible apply Wp.gu|simp only[↓X3]|simp(disch:=decide)only[asks_nil,asks_in,asks_out,askB_nil,askB_in,askB_out]|with_reducible apply Wp.assoc));try(with_reducible apply Wp.cargs;case h=>((try simp(disch:=omega)only[↓reduceIte,ask_true,↓X0,X1,Nat.reduceEqDiff,Int.reduceEq,Nat.reduceAdd,Nat.reduceSub,X2,Hp_ne,Nat.reduceLeDiff,c2,s2,s3,e1,e4,hb',hvl.len,hw2,k61,c3,c4,and_self]);with_reducible exact rfl)))
   exact hret _ _ _ (by omega) ((by intros;first|with_reducible rfl|simp(disch:=omega)only[Hp_ne,Hp_same,s3,s2,s1])) (by simp [put_at]) (fun h => c4 (hiff.1 h).2.2.2)
  (repeat(first|((with_reducible first|apply Wp.gs|apply Wp.cs|apply Wp.cselX|apply Wp.askT|apply Wp.iteKT|apply Wp.ikb|apply Wp.askb|apply Wp.step);case h=>((try simp(disch:=omega)only[↓reduceIte,ask_true,↓X0,X1,Nat.reduceEqDiff,Int.reduceEq,Nat.reduceAdd,Nat.reduceSub,X2,Hp_ne,Nat.reduceLeDiff,c2,s2,s3,e1,e4,hb',hvl.len,hw2,k61,c3,c4,and_self,hw]);with_reducible first|done|exact rfl|exact bT|exact bF))|apply Wp.andS|apply Wp.orS|with_reducible apply Wp.gu|simp only[↓X3]|simp(disch:=decide)only[asks_nil,asks_in,asks_out,askB_nil,askB_in,askB_out]|with_reducible apply Wp.assoc))
  refine Wp.pure (Nxt.go (d - 1) (by omega) ⟨j + 1,by omega,by omega,(by intros;first|with_reducible rfl|simp(disch:=omega)only[Hp_ne,Hp_same,s3,s2,s1]),by simp [put_at,e1],by simp [put_at],fun q hq => ?_⟩)
  by_cases hqj : q = j
  ·subst hqj; exact hiff.2 ⟨c1,c2,c3,c4⟩
  ·exact hall q (by omega)
 ·have hlti : ¬ (j : Int) < ld.length:=by omega
  (repeat(first|((with_reducible first|apply Wp.gs|apply Wp.cs|apply Wp.cselX|apply Wp.askT|apply Wp.iteKT|apply Wp.ikb|apply Wp.askb|apply Wp.step);case h=>((try simp(disch:=omega)only[↓reduceIte,ask_true,↓X0,X1,Nat.reduceEqDiff,Int.reduceEq,Nat.reduceAdd,Nat.reduceSub,X2,Hp_ne,Nat.reduceLeDiff,hlen,e1,e4,hlti,hb']);with_reducible first|done|exact rfl|exact bT|exact bF))|apply Wp.andS|apply Wp.orS|with_reducible apply Wp.gu|simp only[↓X3]|simp(disch:=decide)only[asks_nil,asks_in,asks_out,askB_nil,askB_in,askB_out]|with_reducible apply Wp.assoc))
  exact Wp.pure (Nxt.exit ⟨by simp only; omega,s1,.inl ⟨rfl,fun q hq => hall q (by omega)⟩⟩)
end
theorem k12 {n : Nat} {H : Hp} {v vl vd : Value} {l : List Nd} {li : List Ins} {ld : List Df} (hv : Li eNode n H v l) (hvl : Li eIns n H vl li) (hvd : Li eDef n H vd ld) (hs : ∀ x ∈ l,x.s.size ≤ 1048576) (hsl : ∀ x ∈ li,x.s.size ≤ 1048576) (hsd : ∀ x ∈ ld,x.s.size ≤ 1048576) (hl : l.length ≤ 1048576) (hll : li.length ≤ 1048576) (hld : ld.length ≤ 1048576) : Rt Try.prog 12 [.agg ⟨[v,vl,vd]⟩] H n (.bool (decide (CodeOk l li ld))):=by
 apply Rt.mk
 rw [c12]; unfold S12
 have fin : ∀ (b : Bool) (H' : Hp) (n' : Nat),n ≤ n' → (∀ i,i < n → H' i = H i) → b = decide (CodeOk l li ld) → Wp (some (Value.bool b,H',n')) (fun q => n ≤ q.2.2 ∧ (∀ i,i < n → q.2.1 i = H i) ∧ q.1 = .bool (decide (CodeOk l li ld))):=by
  intro b H' n' h1 h2 h3
  exact Wp.pure ⟨h1,h2,by rw [h3]⟩
 ((repeat(first|((with_reducible first|apply Wp.gs|apply Wp.cs|apply Wp.cselX|apply Wp.askT|apply Wp.iteKT|apply Wp.ikb|apply Wp.askb|apply Wp.step);case h=>((try simp(disch:=omega)only[↓reduceIte,ask_true,↓X0,X1,Nat.reduceEqDiff,Int.reduceEq,Nat.reduceAdd,Nat.reduceSub,X2,Hp_ne,Nat.reduceLeDiff]);with_reducible first|done|exact rfl|exact bT|exact bF))|apply Wp.andS|apply Wp.orS|with_reducible apply Wp.gu|simp only[↓X3]|simp(disch:=decide)only[asks_nil,asks_in,asks_out,askB_nil,askB_in,askB_out]|with_reducible apply Wp.assoc));try(with_reducible apply Wp.cargs;case h=>((try simp(disch:=omega)only[↓reduceIte,ask_true,↓X0,X1,Nat.reduceEqDiff,Int.reduceEq,Nat.reduceAdd,Nat.reduceSub,X2,Hp_ne,Nat.reduceLeDiff]);with_reducible exact rfl)))
 refine Wp.rt (k42 (hv.mv (by omega) (by intros;first|with_reducible rfl|simp(disch:=omega)only[Hp_ne,Hp_same])) hs hl) ?_
 intro H1 n1 q1 s1
 by_cases hp : PoolOk l
 case neg =>
  (repeat(first|((with_reducible first|apply Wp.gs|apply Wp.cs|apply Wp.cselX|apply Wp.askT|apply Wp.iteKT|apply Wp.ikb|apply Wp.askb|apply Wp.step);case h=>((try simp(disch:=omega)only[↓reduceIte,ask_true,↓X0,X1,Nat.reduceEqDiff,Int.reduceEq,Nat.reduceAdd,Nat.reduceSub,X2,Hp_ne,Nat.reduceLeDiff,s1,hp]);with_reducible first|done|exact rfl|exact bT|exact bF))|apply Wp.andS|apply Wp.orS|with_reducible apply Wp.gu|simp only[↓X3]|simp(disch:=decide)only[asks_nil,asks_in,asks_out,askB_nil,askB_in,askB_out]|with_reducible apply Wp.assoc))
  exact fin _ _ _ (by omega) ((by intros;first|with_reducible rfl|simp(disch:=omega)only[Hp_ne,Hp_same,s1])) (decide_eq_false (fun h => hp h.1)).symm
 by_cases c1 : (400 : Int) < li.length
 case pos =>
  (repeat(first|((with_reducible first|apply Wp.gs|apply Wp.cs|apply Wp.cselX|apply Wp.askT|apply Wp.iteKT|apply Wp.ikb|apply Wp.askb|apply Wp.step);case h=>((try simp(disch:=omega)only[↓reduceIte,ask_true,↓X0,X1,Nat.reduceEqDiff,Int.reduceEq,Nat.reduceAdd,Nat.reduceSub,X2,Hp_ne,Nat.reduceLeDiff,s1,hp,hvl.len,c1]);with_reducible first|done|exact rfl|exact bT|exact bF))|apply Wp.andS|apply Wp.orS|with_reducible apply Wp.gu|simp only[↓X3]|simp(disch:=decide)only[asks_nil,asks_in,asks_out,askB_nil,askB_in,askB_out]|with_reducible apply Wp.assoc))
  exact fin _ _ _ (by omega) ((by intros;first|with_reducible rfl|simp(disch:=omega)only[Hp_ne,Hp_same,s1])) (decide_eq_false (fun h => absurd h.2.1 (by omega))).symm
 by_cases c2 : (20 : Int) < ld.length
 case pos =>
  (repeat(first|((with_reducible first|apply Wp.gs|apply Wp.cs|apply Wp.cselX|apply Wp.askT|apply Wp.iteKT|apply Wp.ikb|apply Wp.askb|apply Wp.step);case h=>((try simp(disch:=omega)only[↓reduceIte,ask_true,↓X0,X1,Nat.reduceEqDiff,Int.reduceEq,Nat.reduceAdd,Nat.reduceSub,X2,Hp_ne,Nat.reduceLeDiff,s1,hp,hvl.len,c1,hvd.len,c2]);with_reducible first|done|exact rfl|exact bT|exact bF))|apply Wp.andS|apply Wp.orS|with_reducible apply Wp.gu|simp only[↓X3]|simp(disch:=decide)only[asks_nil,asks_in,asks_out,askB_nil,askB_in,askB_out]|with_reducible apply Wp.assoc))
  exact fin _ _ _ (by omega) ((by intros;first|with_reducible rfl|simp(disch:=omega)only[Hp_ne,Hp_same,s1])) (decide_eq_false (fun h => absurd h.2.2.1 (by omega))).symm
 have hb1 : H1 n = some (.row [v,vl,vd] 0 true):=by simp (disch:=omega) only [s1,Hp_same]
 (repeat(first|((with_reducible first|apply Wp.gs|apply Wp.cs|apply Wp.cselX|apply Wp.askT|apply Wp.iteKT|apply Wp.ikb|apply Wp.askb|apply Wp.step);case h=>((try simp(disch:=omega)only[↓reduceIte,ask_true,↓X0,X1,Nat.reduceEqDiff,Int.reduceEq,Nat.reduceAdd,Nat.reduceSub,X2,Hp_ne,Nat.reduceLeDiff,s1,hp,hvl.len,c1,hvd.len,c2]);with_reducible first|done|exact rfl|exact bT|exact bF))|apply Wp.andS|apply Wp.orS|with_reducible apply Wp.gu|simp only[↓X3]|simp(disch:=decide)only[asks_nil,asks_in,asks_out,askB_nil,askB_in,askB_out]|with_reducible apply Wp.assoc))
 refine Wp.bind (l012 (n0:=n + 1) (H0:=H1) hb1 (by omega) (hv.mv (by omega) (by intros;first|with_reducible rfl|simp(disch:=omega)only[Hp_ne,Hp_same,s1])) hl (hvl.mv (by omega) (by intros;first|with_reducible rfl|simp(disch:=omega)only[Hp_ne,Hp_same,s1])) (by omega) hsl _ _ _ (by omega) (fun _ _ => rfl) (by simp [put_at]) (by simp [put_at]) (by simp [put_at])) ?_
 rintro ⟨oe,ot,oH,on⟩ ⟨f1,f2,f3⟩
 simp only at f1 f2 f3
 rcases f3 with ⟨rfl,f4,f5⟩ | ⟨rfl,f4,f5⟩
 case inr =>
  simp(disch:=omega)only[↓reduceIte,ask_true,↓X0,X1,Nat.reduceEqDiff,Int.reduceEq,Nat.reduceAdd,Nat.reduceSub,f4]
  exact fin _ _ _ (by omega) ((by intros;first|with_reducible rfl|simp(disch:=omega)only[Hp_ne,Hp_same,f2,s1])) (decide_eq_false (fun h => f5 h.2.2.2.1)).symm
 have hb2 : oH n = some (.row [v,vl,vd] 0 true):=by rw [f2 n (by omega)]; exact hb1
 have hvd2 : Li eDef (n + 1) H1 vd ld:=hvd.mv (by omega) (by intros;first|with_reducible rfl|simp(disch:=omega)only[Hp_ne,Hp_same,s1])
 (repeat(first|((with_reducible first|apply Wp.gs|apply Wp.cs|apply Wp.cselX|apply Wp.askT|apply Wp.iteKT|apply Wp.ikb|apply Wp.askb|apply Wp.step);case h=>((try simp(disch:=omega)only[↓reduceIte,ask_true,↓X0,X1,Nat.reduceEqDiff,Int.reduceEq,Nat.reduceAdd,Nat.reduceSub,X2,Hp_ne,Nat.reduceLeDiff,f4,hb2,hvd.len]);with_reducible first|done|exact rfl|exact bT|exact bF))|apply Wp.andS|apply Wp.orS|with_reducible apply Wp.gu|simp only[↓X3]|simp(disch:=decide)only[asks_nil,asks_in,asks_out,askB_nil,askB_in,askB_out]|with_reducible apply Wp.assoc))
 refine Wp.bind (l112 (n0:=n + 1) (H0:=H1) hb1 (by omega) (hvl.mv (by omega) (by intros;first|with_reducible rfl|simp(disch:=omega)only[Hp_ne,Hp_same,s1])) (by omega) hvd2 (by omega) hsd _ _ _ (by omega) ((by intros;first|with_reducible rfl|simp(disch:=omega)only[Hp_ne,Hp_same,f2])) (by simp [put_at,f4]) (by simp [put_at]) (by simp [put_at]) (by simp [put_at])) ?_
 rintro ⟨pe,pt,pH,pn⟩ ⟨g1,g2,g3⟩
 simp only at g1 g2 g3
 rcases g3 with ⟨rfl,g5⟩ | ⟨rfl,g4,g5⟩
 ·(repeat(first|((with_reducible first|apply Wp.gs|apply Wp.cs|apply Wp.cselX|apply Wp.askT|apply Wp.iteKT|apply Wp.ikb|apply Wp.askb|apply Wp.step);case h=>((try simp(disch:=omega)only[↓reduceIte,ask_true,↓X0,X1,Nat.reduceEqDiff,Int.reduceEq,Nat.reduceAdd,Nat.reduceSub]);with_reducible first|done|exact rfl|exact bT|exact bF))|apply Wp.andS|apply Wp.orS|with_reducible apply Wp.gu|simp only[↓X3]|simp(disch:=decide)only[asks_nil,asks_in,asks_out,askB_nil,askB_in,askB_out]|with_reducible apply Wp.assoc))
  exact fin _ _ _ (by omega) ((by intros;first|with_reducible rfl|simp(disch:=omega)only[Hp_ne,Hp_same,g2,s1])) (decide_eq_true ⟨hp,by omega,by omega,f5,g5⟩).symm
 ·simp(disch:=omega)only[↓reduceIte,ask_true,↓X0,X1,Nat.reduceEqDiff,Int.reduceEq,Nat.reduceAdd,Nat.reduceSub,g4]
  exact fin _ _ _ (by omega) ((by intros;first|with_reducible rfl|simp(disch:=omega)only[Hp_ne,Hp_same,g2,s1])) (decide_eq_false (fun h => g5 h.2.2.2.2)).symm
theorem k14 {n : Nat} {H : Hp} {v vl vd : Value} {l : List Nd} {li : List Ins} {ld : List Df} (hv : Li eNode n H v l) (hvl : Li eIns n H vl li) (hvd : Li eDef n H vd ld) (hs : ∀ x ∈ l,x.s.size ≤ 1048576) (hsl : ∀ x ∈ li,x.s.size ≤ 1048576) (hsd : ∀ x ∈ ld,x.s.size ≤ 1048576) (hl : l.length ≤ 1048576) (hll : li.length ≤ 1048576) (hld : ld.length ≤ 1048576) : Rt Try.prog 14 [.agg ⟨[v,vl,vd]⟩] H n (.bool (decide (CodeOk l li ld))):=by
 apply Rt.mk
 rw [c14]; unfold S14
 have fin : ∀ (b : Bool) (H' : Hp) (n' : Nat),n ≤ n' → (∀ i,i < n → H' i = H i) → b = decide (CodeOk l li ld) → Wp (some (Value.bool b,H',n')) (fun q => n ≤ q.2.2 ∧ (∀ i,i < n → q.2.1 i = H i) ∧ q.1 = .bool (decide (CodeOk l li ld))):=by
  intro b H' n' h1 h2 h3
  exact Wp.pure ⟨h1,h2,by rw [h3]⟩
 ((repeat(first|((with_reducible first|apply Wp.gs|apply Wp.cs|apply Wp.cselX|apply Wp.askT|apply Wp.iteKT|apply Wp.ikb|apply Wp.askb|apply Wp.step);case h=>((try simp(disch:=omega)only[↓reduceIte,ask_true,↓X0,X1,Nat.reduceEqDiff,Int.reduceEq,Nat.reduceAdd,Nat.reduceSub,X2,Hp_ne,Nat.reduceLeDiff]);with_reducible first|done|exact rfl|exact bT|exact bF))|apply Wp.andS|apply Wp.orS|with_reducible apply Wp.gu|simp only[↓X3]|simp(disch:=decide)only[asks_nil,asks_in,asks_out,askB_nil,askB_in,askB_out]|with_reducible apply Wp.assoc));try(with_reducible apply Wp.cargs;case h=>((try simp(disch:=omega)only[↓reduceIte,ask_true,↓X0,X1,Nat.reduceEqDiff,Int.reduceEq,Nat.reduceAdd,Nat.reduceSub,X2,Hp_ne,Nat.reduceLeDiff]);with_reducible exact rfl)))
 refine Wp.rt (k48 (hv.mv (by omega) (by intros;first|with_reducible rfl|simp(disch:=omega)only[Hp_ne,Hp_same])) hs hl) ?_
 intro H1 n1 q1 s1
 by_cases hp : PoolOk l
 case neg =>
  (repeat(first|((with_reducible first|apply Wp.gs|apply Wp.cs|apply Wp.cselX|apply Wp.askT|apply Wp.iteKT|apply Wp.ikb|apply Wp.askb|apply Wp.step);case h=>((try simp(disch:=omega)only[↓reduceIte,ask_true,↓X0,X1,Nat.reduceEqDiff,Int.reduceEq,Nat.reduceAdd,Nat.reduceSub,X2,Hp_ne,Nat.reduceLeDiff,s1,hp]);with_reducible first|done|exact rfl|exact bT|exact bF))|apply Wp.andS|apply Wp.orS|with_reducible apply Wp.gu|simp only[↓X3]|simp(disch:=decide)only[asks_nil,asks_in,asks_out,askB_nil,askB_in,askB_out]|with_reducible apply Wp.assoc))
  exact fin _ _ _ (by omega) ((by intros;first|with_reducible rfl|simp(disch:=omega)only[Hp_ne,Hp_same,s1])) (decide_eq_false (fun h => hp h.1)).symm
 by_cases c1 : (400 : Int) < li.length
 case pos =>
  (repeat(first|((with_reducible first|apply Wp.gs|apply Wp.cs|apply Wp.cselX|apply Wp.askT|apply Wp.iteKT|apply Wp.ikb|apply Wp.askb|apply Wp.step);case h=>((try simp(disch:=omega)only[↓reduceIte,ask_true,↓X0,X1,Nat.reduceEqDiff,Int.reduceEq,Nat.reduceAdd,Nat.reduceSub,X2,Hp_ne,Nat.reduceLeDiff,s1,hp,hvl.len,c1]);with_reducible first|done|exact rfl|exact bT|exact bF))|apply Wp.andS|apply Wp.orS|with_reducible apply Wp.gu|simp only[↓X3]|simp(disch:=decide)only[asks_nil,asks_in,asks_out,askB_nil,askB_in,askB_out]|with_reducible apply Wp.assoc))
  exact fin _ _ _ (by omega) ((by intros;first|with_reducible rfl|simp(disch:=omega)only[Hp_ne,Hp_same,s1])) (decide_eq_false (fun h => absurd h.2.1 (by omega))).symm
 by_cases c2 : (20 : Int) < ld.length
 case pos =>
  (repeat(first|((with_reducible first|apply Wp.gs|apply Wp.cs|apply Wp.cselX|apply Wp.askT|apply Wp.iteKT|apply Wp.ikb|apply Wp.askb|apply Wp.step);case h=>((try simp(disch:=omega)only[↓reduceIte,ask_true,↓X0,X1,Nat.reduceEqDiff,Int.reduceEq,Nat.reduceAdd,Nat.reduceSub,X2,Hp_ne,Nat.reduceLeDiff,s1,hp,hvl.len,c1,hvd.len,c2]);with_reducible first|done|exact rfl|exact bT|exact bF))|apply Wp.andS|apply Wp.orS|with_reducible apply Wp.gu|simp only[↓X3]|simp(disch:=decide)only[asks_nil,asks_in,asks_out,askB_nil,askB_in,askB_out]|with_reducible apply Wp.assoc))
  exact fin _ _ _ (by omega) ((by intros;first|with_reducible rfl|simp(disch:=omega)only[Hp_ne,Hp_same,s1])) (decide_eq_false (fun h => absurd h.2.2.1 (by omega))).symm
 have hb1 : H1 n = some (.row [v,vl,vd] 0 true):=by simp (disch:=omega) only [s1,Hp_same]
 (repeat(first|((with_reducible first|apply Wp.gs|apply Wp.cs|apply Wp.cselX|apply Wp.askT|apply Wp.iteKT|apply Wp.ikb|apply Wp.askb|apply Wp.step);case h=>((try simp(disch:=omega)only[↓reduceIte,ask_true,↓X0,X1,Nat.reduceEqDiff,Int.reduceEq,Nat.reduceAdd,Nat.reduceSub,X2,Hp_ne,Nat.reduceLeDiff,s1,hp,hvl.len,c1,hvd.len,c2]);with_reducible first|done|exact rfl|exact bT|exact bF))|apply Wp.andS|apply Wp.orS|with_reducible apply Wp.gu|simp only[↓X3]|simp(disch:=decide)only[asks_nil,asks_in,asks_out,askB_nil,askB_in,askB_out]|with_reducible apply Wp.assoc))
 refine Wp.bind (l014 (n0:=n + 1) (H0:=H1) hb1 (by omega) (hv.mv (by omega) (by intros;first|with_reducible rfl|simp(disch:=omega)only[Hp_ne,Hp_same,s1])) hl (hvl.mv (by omega) (by intros;first|with_reducible rfl|simp(disch:=omega)only[Hp_ne,Hp_same,s1])) (by omega) hsl _ _ _ (by omega) (fun _ _ => rfl) (by simp [put_at]) (by simp [put_at])) ?_
 rintro ⟨oe,ot,oH,on⟩ ⟨f1,f2,f3⟩
 simp only at f1 f2 f3
 rcases f3 with ⟨rfl,f4,f5⟩ | ⟨rfl,f4,f5⟩
 case inr =>
  simp(disch:=omega)only[↓reduceIte,ask_true,↓X0,X1,Nat.reduceEqDiff,Int.reduceEq,Nat.reduceAdd,Nat.reduceSub,f4]
  exact fin _ _ _ (by omega) ((by intros;first|with_reducible rfl|simp(disch:=omega)only[Hp_ne,Hp_same,f2,s1])) (decide_eq_false (fun h => f5 h.2.2.2.1)).symm
 have hb2 : oH n = some (.row [v,vl,vd] 0 true):=by rw [f2 n (by omega)]; exact hb1
 have hvd2 : Li eDef (n + 1) H1 vd ld:=hvd.mv (by omega) (by intros;first|with_reducible rfl|simp(disch:=omega)only[Hp_ne,Hp_same,s1])
 (repeat(first|((with_reducible first|apply Wp.gs|apply Wp.cs|apply Wp.cselX|apply Wp.askT|apply Wp.iteKT|apply Wp.ikb|apply Wp.askb|apply Wp.step);case h=>((try simp(disch:=omega)only[↓reduceIte,ask_true,↓X0,X1,Nat.reduceEqDiff,Int.reduceEq,Nat.reduceAdd,Nat.reduceSub,X2,Hp_ne,Nat.reduceLeDiff,f4,hb2,hvd.len]);with_reducible first|done|exact rfl|exact bT|exact bF))|apply Wp.andS|apply Wp.orS|with_reducible apply Wp.gu|simp only[↓X3]|simp(disch:=decide)only[asks_nil,asks_in,asks_out,askB_nil,askB_in,askB_out]|with_reducible apply Wp.assoc))
 refine Wp.bind (l114 (n0:=n + 1) (H0:=H1) hb1 (by omega) (hvl.mv (by omega) (by intros;first|with_reducible rfl|simp(disch:=omega)only[Hp_ne,Hp_same,s1])) (by omega) hvd2 (by omega) hsd _ _ _ (by omega) ((by intros;first|with_reducible rfl|simp(disch:=omega)only[Hp_ne,Hp_same,f2])) (by simp [put_at,f4]) (by simp [put_at])) ?_
 rintro ⟨pe,pt,pH,pn⟩ ⟨g1,g2,g3⟩
 simp only at g1 g2 g3
 rcases g3 with ⟨rfl,g5⟩ | ⟨rfl,g4,g5⟩
 ·(repeat(first|((with_reducible first|apply Wp.gs|apply Wp.cs|apply Wp.cselX|apply Wp.askT|apply Wp.iteKT|apply Wp.ikb|apply Wp.askb|apply Wp.step);case h=>((try simp(disch:=omega)only[↓reduceIte,ask_true,↓X0,X1,Nat.reduceEqDiff,Int.reduceEq,Nat.reduceAdd,Nat.reduceSub]);with_reducible first|done|exact rfl|exact bT|exact bF))|apply Wp.andS|apply Wp.orS|with_reducible apply Wp.gu|simp only[↓X3]|simp(disch:=decide)only[asks_nil,asks_in,asks_out,askB_nil,askB_in,askB_out]|with_reducible apply Wp.assoc))
  exact fin _ _ _ (by omega) ((by intros;first|with_reducible rfl|simp(disch:=omega)only[Hp_ne,Hp_same,g2,s1])) (decide_eq_true ⟨hp,by omega,by omega,f5,g5⟩).symm
 ·simp(disch:=omega)only[↓reduceIte,ask_true,↓X0,X1,Nat.reduceEqDiff,Int.reduceEq,Nat.reduceAdd,Nat.reduceSub,g4]
  exact fin _ _ _ (by omega) ((by intros;first|with_reducible rfl|simp(disch:=omega)only[Hp_ne,Hp_same,g2,s1])) (decide_eq_false (fun h => g5 h.2.2.2.2)).symm
end Go.Proofs.Ytbgkimkbngocjaa.Ax
set_option linter.unusedVariables false
set_option linter.unusedSimpArgs false
set_option maxHeartbeats 4000000
namespace Go.Proofs.Ytbgkimkbngocjaa.Ax
open Go
def Small (s : CS) : Prop:=(∀ x ∈ s.L,x.s.size ≤ 1048576) ∧ ∀ d ∈ s.D,d.s.size ≤ 1048576
def Keeps (f : CS → CS) : Prop:=∀ s,Small s → Small (f s)
theorem Keeps.id : Keeps (fun s => s):=fun s h => h
theorem Keeps.comp {f g : CS → CS} (hf : Keeps f) (hg : Keeps g) : Keeps (fun s => g (f s)):=fun s h => hg _ (hf _ h)
theorem Keeps.ite {c : Prop} [Decidable c] {f g : CS → CS} (hf : c → Keeps f) (hg : ¬ c → Keeps g) : Keeps (fun s => if c then f s else g s):=by
 intro s h
 by_cases hc : c
 ·simp only [hc,if_true]; exact hf hc s h
 ·simp only [hc,if_false]; exact hg hc s h
theorem Keeps.put {x : Ins} (hx : x.s.size ≤ 1048576) : Keeps (cPut x):=by
 intro s h
 unfold cPut
 split
 ·split
  ·exact h
  ·refine ⟨fun y hy => ?_,h.2⟩
   rcases List.mem_append.1 hy with hy | hy
   ·exact h.1 y hy
   ·simp at hy; rw [hy]; exact hx
 ·exact h
theorem insOf_sz (a b c : Int) : (insOf a b c).s.size ≤ 1048576:=by show (ByteArray.size ⟨#[]⟩) ≤ 1048576; decide
theorem Keeps.fail (x : Int) : Keeps (cFail x):=by
 intro s h; unfold cFail; split <;> exact h
theorem Keeps.to (a : Nat) : Keeps (cTo a):=by
 intro s h
 unfold cTo
 split
 ·refine ⟨fun y hy => ?_,h.2⟩
  unfold setN at hy
  rcases List.mem_or_eq_of_mem_set hy with hy | hy
  ·exact h.1 y hy
  ·rw [hy]
   show (gi s.L (a : Int)).s.size ≤ 1048576
   by_cases ha : a < s.L.length
   ·rw [gi_nat ha]; exact h.1 _ (List.getElem_mem ha)
   ·have : gi s.L (a : Int) = default:=by
     unfold gi
     rw [List.getD_eq_getElem?_getD,List.getElem?_eq_none (by simpa using ha)]; rfl
    rw [this]; show (ByteArray.size ⟨#[]⟩) ≤ 1048576; decide
 ·exact h
theorem Keeps.fold {f : Int → CS → CS} : ∀ l : List Int,(∀ v ∈ l,Keeps (f v)) → Keeps (fun s => l.foldl (fun s v => f v s) s)
 | [],_ => Keeps.id
 | v :: l,hf => (hf v List.mem_cons_self).comp (Keeps.fold l fun w hw => hf w (List.mem_cons_of_mem _ hw))
theorem Keeps.body {E : CEx} {e : Env} : ∀ l : List Int,(∀ v ∈ l,Keeps (E v e)) → Keeps (cBody E e l)
 | [],_ => Keeps.id
 | v :: l,hE => (hE v List.mem_cons_self).comp (Keeps.fold (f:=fun v s => E v e (cPut (insOf 9 0 0) s)) l fun w hw => (Keeps.put (insOf_sz _ _ _)).comp (hE w (List.mem_cons_of_mem _ hw)))
theorem Keeps.fun_ {E : CEx} {names : List ByteArray} {body : List Int} {e : Env} (hE : ∀ v ∈ body,∀ e,Keeps (E v e)) : Keeps (cFun E names body e):=by
 intro s h
 unfold cFun
 simp only
 exact Keeps.to _ _ (Keeps.put (insOf_sz _ _ _) _ (Keeps.body body (fun v hv => hE v hv _) _ (Keeps.put (insOf_sz _ _ _) _ (Keeps.put (insOf_sz _ _ _) _ h))))
theorem Keeps.if_ {E : CEx} {l : List Int} {e : Env} (h4 : l.length = 4) (hE : ∀ v ∈ l,∀ e,Keeps (E v e)) : Keeps (cIf E l e):=by
 intro s h
 have m1:=gi_mem (l:=l) (i:=1) (by omega) (by omega)
 have m2:=gi_mem (l:=l) (i:=2) (by omega) (by omega)
 have m3:=gi_mem (l:=l) (i:=3) (by omega) (by omega)
 unfold cIf
 simp only
 exact Keeps.to _ _ (hE _ m3 _ _ (Keeps.to _ _ (Keeps.put (insOf_sz _ _ _) _ (hE _ m2 _ _ (Keeps.put (insOf_sz _ _ _) _ (hE _ m1 _ _ h))))))
theorem Keeps.form {E : CEx} {p : List Nd} {w : ByteArray} {l : List Int} {e : Env} (hE : ∀ v ∈ l,∀ e,Keeps (E v e)) : Keeps (cForm E p w l e):=by
 unfold cForm cFn
 refine Keeps.ite (fun _ => Keeps.put (insOf_sz _ _ _)) fun _ => Keeps.ite (fun h => Keeps.if_ h.2 hE) fun _ => Keeps.ite (fun _ => Keeps.body _ fun v hv => hE v (List.mem_of_mem_drop hv) _) fun _ => Keeps.ite (fun _ => Keeps.ite (fun _ => Keeps.ite (fun _ => Keeps.fun_ fun v hv => hE v (List.mem_of_mem_drop hv)) fun _ => Keeps.fail _) fun _ => Keeps.fail _) fun _ => Keeps.ite (fun h => Keeps.ite (fun _ => ?_) fun _ => Keeps.fail _) fun _ => Keeps.fail _
 exact ((Keeps.fun_ (names:=(cNames p [gi l 1]).1) (body:=l.drop 3) (e:=e) fun v hv => hE v (List.mem_of_mem_drop hv)).comp (hE _ (gi_mem (by omega) (by omega)) e)).comp (Keeps.put (insOf_sz _ _ _))
theorem varIns_sz {w : ByteArray} (hw : w.size ≤ 1048576) (e : Env) : (varIns w e).s.size ≤ 1048576:=by
 unfold varIns; split
 ·exact insOf_sz _ _ _
 ·exact hw
theorem chain_memS {l : List Nd} (hp : PoolOk l) : ∀ (f : Nat) (v : Int),0 ≤ v → v < l.length → ∀ y ∈ (chain l f v).1,0 ≤ y ∧ y < v
 | 0,v,_,_,y,hy => by simp [chain] at hy
 | f + 1,v,h0,h1,y,hy => by
  unfold chain at hy
  by_cases h5 : (gi l v).k = 5
  ·rw [if_pos h5] at hy
   have hk:=(hp.at h0 h1).pair h5
   rcases List.mem_cons.1 hy with rfl | h
   ·exact hk.1
   ·have:=chain_memS hp f (gi l v).b hk.2.1 (by omega) y h
    omega
  ·rw [if_neg h5] at hy; simp at hy
theorem node_sz {p : List Nd} (hp : PoolOk p) {v : Int} (h0 : 0 ≤ v) (h1 : v < p.length) : (gi p v).s.size ≤ 1048576:=by
 have:=hp.at h0 h1
 rcases this with h | h | h | h | h | h | h | h | h <;> obtain ⟨_,_,h3,_⟩:=h
 all_goals first
  | (rw [h3]; show (ByteArray.size ⟨#[]⟩) ≤ 1048576; decide)
  | (simp only [nameOk,Bool.and_eq_true,decide_eq_true_eq] at h3; omega)
theorem Keeps.expr {p : List Nd} (hp : PoolOk p) : ∀ (k : Nat) (v : Int),0 ≤ v → v < p.length → ∀ e,Keeps (cExpr p k v e)
 | 0,v,_,_,e => Keeps.id
 | k + 1,v,h0,h1,e => by
  have hL:=chain_memS hp (v.toNat + 1) v h0 h1
  have hE : ∀ y ∈ (chainOf p v).1,∀ e,Keeps (cExpr p k y e):=fun y hy e => Keeps.expr hp k y (hL y hy).1 (by have:=hL y hy; omega) e
  intro s hs
  by_cases h : s.how = 0
  ·rw [cExpr,if_pos h]
   exact (Keeps.ite (c:=(gi p v).k = 1 ∨ (gi p v).k = 2 ∨ (gi p v).k = 3) (fun _ => Keeps.put (insOf_sz 1 v 0)) fun _ => Keeps.ite (c:=(gi p v).k = 4) (fun _ => Keeps.ite (c:=special (gi p v).s = true) (fun _ => Keeps.fail 1) fun _ => Keeps.put (varIns_sz (node_sz hp h0 h1) e)) fun _ => Keeps.ite (c:=(gi p v).k = 5 ∧ (chainOf p v).2 = true) (fun _ => Keeps.ite (c:=(gi p (gi (chainOf p v).1 0)).k = 4 ∧ special (gi p (gi (chainOf p v).1 0)).s = true) (fun _ => Keeps.form (p:=p) (w:=(gi p (gi (chainOf p v).1 0)).s) (e:=e) hE) fun _ => Keeps.ite (c:=5 < (chainOf p v).1.length) (fun _ => Keeps.fail 1) fun _ => (Keeps.fold (f:=fun x s => cExpr p k x e s) (chainOf p v).1 fun x hx => hE x hx e).comp (Keeps.put (insOf_sz 7 0 ((chainOf p v).1.length - 1)))) fun _ => Keeps.fail 1) s hs
  ·rw [cExpr,if_neg h]; exact hs
theorem Keeps.define {E : CEx} {name : ByteArray} {params : List ByteArray} {body : List Int} (hn : name.size ≤ 1048576) (hE : ∀ v ∈ body,∀ e,Keeps (E v e)) : Keeps (cDefine E name params body):=by
 intro s h
 unfold cDefine
 split
 ·exact Keeps.fail _ _ h
 ·refine Keeps.put (insOf_sz _ _ _) _ (Keeps.body body (fun v hv => hE v hv _) _ ⟨h.1,fun d hd => ?_⟩)
  rcases List.mem_append.1 hd with hd | hd
  ·exact h.2 d hd
  ·simp at hd; rw [hd]; exact hn
theorem Keeps.top {p : List Nd} (hp : PoolOk p) {v : Int} (h0 : 0 ≤ v) (h1 : v < p.length) (k : Nat) : Keeps (cTop (cExpr p k) p v):=by
 intro s hs
 have hL:=chain_memS hp (v.toNat + 1) v h0 h1
 unfold cTop
 split
 ·rename_i hd
  have hd:=of_decide_eq_true hd
  have hmem : ∀ y ∈ (chainOf p v).1,0 ≤ y ∧ y < p.length:=fun y hy => by have:=hL y hy; omega
  unfold cDefn
  split
  ·rename_i hc
   have m1:=hmem _ (gi_mem (l:=(chainOf p v).1) (i:=1) (by omega) (by omega))
   have hL1:=chain_memS hp ((gi (chainOf p v).1 1).toNat + 1) _ m1.1 m1.2
   have hpos : 0 < (chainOf p (gi (chainOf p v).1 1)).1.length:=by
    rw [chainOf_eq hp m1.1 m1.2,if_pos hc.2.1]; simp
   have m2:=hL1 _ (gi_mem (l:=(chainOf p (gi (chainOf p v).1 1)).1) (i:=0) (by omega) (by omega))
   split
   ·split
    ·exact Keeps.define (node_sz hp m2.1 (by omega)) (fun y hy e => Keeps.expr hp k y (hmem y (List.mem_of_mem_drop hy)).1 (hmem y (List.mem_of_mem_drop hy)).2 e) _ hs
    ·exact Keeps.fail _ _ hs
   ·exact Keeps.fail _ _ hs
  ·exact Keeps.fail _ _ hs
 ·exact Keeps.define (by decide) (fun y hy e => by simp at hy; rw [hy]; exact Keeps.expr hp k v h0 h1 e) _ hs
theorem defOf_has (D : List Df) (w : ByteArray) : (0 ≤ defOf D w) ↔ hasDef w D = true:=by
 unfold defOf hasDef
 cases h : D.findIdx? (fun d => decide (d.s = w)) with
 | none =>
  have : D.any (fun d => decide (d.s = w)) = false:=by
   rw [List.any_eq_false]
   intro x hx
   have:=List.findIdx?_eq_none_iff.1 h x hx
   simpa using this
  rw [this]; simp [fiInt]
 | some i =>
  obtain ⟨h1,h2,_⟩:=List.findIdx?_eq_some_iff_getElem.1 h
  have : D.any (fun d => decide (d.s = w)) = true:=List.any_eq_true.2 ⟨_,List.getElem_mem h1,h2⟩
  rw [this]; simp [fiInt]
structure CA where
 p : List Nd
 L : List Ins
 D : List Df
 how : Int
 at_ : Int
def inPool (p : List Nd) (l : List Int) : Prop:=∀ v ∈ l,0 ≤ v ∧ v < (p.length : Int)
instance (p : List Nd) (l : List Int) : Decidable (inPool p l):=by unfold inPool; infer_instance
def compAns (p : List Nd) (l : List Int) : CA :=
 if PoolOk p ∧ inPool p l then
  (if (cAll p l 0 ⟨0,[],[]⟩).1.how = 0 then
   (if CodeOk p (cAll p l 0 ⟨0,[],[]⟩).1.L (cAll p l 0 ⟨0,[],[]⟩).1.D then ⟨p,(cAll p l 0 ⟨0,[],[]⟩).1.L,(cAll p l 0 ⟨0,[],[]⟩).1.D,0,l.length⟩ else ⟨[],[],[],3,0⟩)
  else if (cAll p l 0 ⟨0,[],[]⟩).1.how = 3 then ⟨[],[],[],3,0⟩ else ⟨[],[],[],(cAll p l 0 ⟨0,[],[]⟩).1.how,(cAll p l 0 ⟨0,[],[]⟩).2⟩)
 else ⟨[],[],[],3,0⟩
end Go.Proofs.Ytbgkimkbngocjaa.Ax
set_option linter.unusedVariables false
set_option linter.unusedSimpArgs false
set_option maxHeartbeats 4000000
namespace Go.Proofs.Ytbgkimkbngocjaa.Ax
open Go
def iMark (k : Int) (i : Nat) : Ins:=⟨k + 4 * i,k + 4 * i + 1,k + 4 * i + 2,mText (k + 4 * i + 3)⟩
def dMark (k : Int) (i : Nat) : Df:=⟨mText (k + 3 * i),k + 3 * i + 1,k + 3 * i + 2⟩
theorem l72 {id n0 : Nat} {H0 : Hp} {l : List Ins} {k : Int} (hk : 0 ≤ k ∧ k ≤ 100000000) (hl : l.length ≤ 10000000) (hid : id < n0) (h : H0 id = some (.row (l.flatMap eIns.cells) 4 true)) : ∀ t n,n0 ≤ n → t 0 = sl id 0 l.length → t 1 = .int .i64 k → t 5 = .int .i64 0 →
  Wp (Loop (S72L0 (Call Try.prog) Loop) t H0 n) (fun o => n ≤ o.n ∧ (∀ i,i < n0 → i ≠ id → o.H i = H0 i) ∧ o.e = .exit 0 ∧ o.t 1 = .int .i64 (k + 4 * l.length) ∧ o.H id = some (.row ((fam (iMark k) l.length).flatMap eIns.cells) 4 true)):=by
 intro t n hn0 e0 e1 e5
 refine Loop_rule (fun d t H n' => ∃ (j : Nat),j + d = l.length ∧ n ≤ n' ∧ (∀ i,i < n0 → i ≠ id → H i = H0 i) ∧ t 0 = sl id 0 l.length ∧ t 1 = .int .i64 (k + 4 * j) ∧ t 5 = .int .i64 j ∧ H id = some (.row ((fam (iMark k) j ++ l.drop j).flatMap eIns.cells) 4 true)) _ ?_ l.length t H0 n ⟨0,by omega,by omega,fun _ _ _ => rfl,e0,by simpa using e1,e5,by simpa [fam] using h⟩
 rintro d t H n' ⟨j,hj,hn,s0,e0,e1,e5,hH⟩
 unfold S72L0
 by_cases hlt : j < l.length
 ·have hlti : (j : Int) < l.length:=by omega
  have hw:=wj (j:=j) (len:=l.length) hlt (by omega)
  have w1 : IntKind.i64.wrap (k + 4 * (j : Int) + 1) = k + 4 * j + 1:=w64 (by omega)
  have w2 : IntKind.i64.wrap (k + 4 * (j : Int) + 1 + 1) = k + 4 * j + 2:=by rw [w64 (by omega)]; omega
  have w3 : IntKind.i64.wrap (k + 4 * (j : Int) + 2 + 1) = k + 4 * j + 3:=by rw [w64 (by omega)]; omega
  have w4 : IntKind.i64.wrap (k + 4 * (j : Int) + 3 + 1) = k + 4 * ((j + 1 : Nat) : Int):=by rw [w64 (by omega)]; omega
  have hset:=fam_set (iMark k) hlt
  have hjl : j < (fam (iMark k) j ++ l.drop j).length:=by rw [fam_drop_len _ (by omega)]; exact hlt
  generalize hL : fam (iMark k) j ++ l.drop j = L at *
  have hix:=idx_sl (sz:=4) (id:=id) (k:=.i64) hlt
  rcases hx : L[j] with ⟨xo,xn,xi,xs⟩
  have t0 : st false 1 (ptr id (j * 4)) (.int .i64 (k + 4 * j)) H = some (H.set id (some (.row ((L.set j ⟨k + 4 * j,xn,xi,xs⟩).flatMap eIns.cells) 4 true))):=st_fc (E:=eIns) hH hjl (f:=0) (by decide) (y:=⟨k + 4 * j,xn,xi,xs⟩) (c:=.int .i64 (k + 4 * j)) rfl (by rw [hx]; rfl)
  have t1:=st_fc (E:=eIns) (Hp_same H id (some (.row ((L.set j ⟨k + 4 * j,xn,xi,xs⟩).flatMap eIns.cells) 4 true))) (by rw [List.length_set]; exact hjl) (f:=1) (by decide) (y:=⟨k + 4 * j,k + 4 * j + 1,xi,xs⟩) (c:=.int .i64 (k + 4 * j + 1)) rfl (by rw [List.getElem_set_self]; rfl)
  rw [List.set_set,Hp_set_set] at t1
  have t2:=st_fc (E:=eIns) (Hp_same H id (some (.row ((L.set j ⟨k + 4 * j,k + 4 * j + 1,xi,xs⟩).flatMap eIns.cells) 4 true))) (by rw [List.length_set]; exact hjl) (f:=2) (by decide) (y:=⟨k + 4 * j,k + 4 * j + 1,k + 4 * j + 2,xs⟩) (c:=.int .i64 (k + 4 * j + 2)) rfl (by rw [List.getElem_set_self]; rfl)
  rw [List.set_set,Hp_set_set] at t2
  ((repeat(first|((with_reducible first|apply Wp.gs|apply Wp.cs|apply Wp.cselX|apply Wp.askT|apply Wp.iteKT|apply Wp.ikb|apply Wp.askb|apply Wp.step);case h=>((try simp(disch:=omega)only[↓reduceIte,ask_true,↓X0,X1,Nat.reduceEqDiff,Int.reduceEq,Nat.reduceAdd,Nat.reduceSub,e0,e1,e5,hlti,hix,t0,w1,t1,w2,t2,w3]);with_reducible first|done|exact rfl|exact bT|exact bF))|apply Wp.andS|apply Wp.orS|with_reducible apply Wp.gu|simp only[↓X3]|simp(disch:=decide)only[asks_nil,asks_in,asks_out,askB_nil,askB_in,askB_out]|with_reducible apply Wp.assoc));try(with_reducible apply Wp.cargs;case h=>((try simp(disch:=omega)only[↓reduceIte,ask_true,↓X0,X1,Nat.reduceEqDiff,Int.reduceEq,Nat.reduceAdd,Nat.reduceSub,e0,e1,e5,hlti,hix,t0,w1,t1,w2,t2,w3]);with_reducible exact rfl)))
  refine Wp.rt (k106 (k + 4 * j + 3) (by omega) _ _) ?_
  intro H1 n1 q1 s1
  have hH1 : H1 id = some (.row ((L.set j ⟨k + 4 * j,k + 4 * j + 1,k + 4 * j + 2,xs⟩).flatMap eIns.cells) 4 true):=by simp (disch:=omega) only [s1,Hp_same]
  have t3:=st_fc (E:=eIns) hH1 (by rw [List.length_set]; exact hjl) (f:=3) (by decide) (y:=iMark k j) (c:=.string (mText (k + 4 * j + 3))) rfl (by rw [List.getElem_set_self]; rfl)
  rw [List.set_set,hset] at t3
  (repeat(first|((with_reducible first|apply Wp.gs|apply Wp.cs|apply Wp.cselX|apply Wp.askT|apply Wp.iteKT|apply Wp.ikb|apply Wp.askb|apply Wp.step);case h=>((try simp(disch:=omega)only[↓reduceIte,ask_true,↓X0,X1,Nat.reduceEqDiff,Int.reduceEq,Nat.reduceAdd,Nat.reduceSub,e0,e1,e5,hix,t3,w4,hw]);with_reducible first|done|exact rfl|exact bT|exact bF))|apply Wp.andS|apply Wp.orS|with_reducible apply Wp.gu|simp only[↓X3]|simp(disch:=decide)only[asks_nil,asks_in,asks_out,askB_nil,askB_in,askB_out]|with_reducible apply Wp.assoc))
  exact Wp.pure (Nxt.go (d - 1) (by omega) ⟨j + 1,by omega,by omega,(by intros;first|with_reducible rfl|simp(disch:=omega)only[Hp_ne,Hp_same,s1,s0]),by simp [put_at,e0],by simp [put_at],by simp [put_at],Hp_same _ _ _⟩)
 ·have hlti : ¬ (j : Int) < l.length:=by omega
  ((repeat(first|((with_reducible first|apply Wp.gs|apply Wp.cs|apply Wp.cselX|apply Wp.askT|apply Wp.iteKT|apply Wp.ikb|apply Wp.askb|apply Wp.step);case h=>((try simp(disch:=omega)only[↓reduceIte,ask_true,↓X0,X1,Nat.reduceEqDiff,Int.reduceEq,Nat.reduceAdd,Nat.reduceSub,e0,e1,e5,hlti]);with_reducible first|done|exact rfl|exact bT|exact bF))|apply Wp.andS|apply Wp.orS|with_reducible apply Wp.gu|simp only[↓X3]|simp(disch:=decide)only[asks_nil,asks_in,asks_out,askB_nil,askB_in,askB_out]|with_reducible apply Wp.assoc));try(with_reducible apply Wp.cargs;case h=>((try simp(disch:=omega)only[↓reduceIte,ask_true,↓X0,X1,Nat.reduceEqDiff,Int.reduceEq,Nat.reduceAdd,Nat.reduceSub,e0,e1,e5,hlti]);with_reducible exact rfl)))
  have hjl : j = l.length:=by omega
  subst hjl
  exact Wp.pure (Nxt.exit ⟨Nat.le_trans hn (Nat.le_add_right _ _),s0,rfl,by simp [put_at,e1],by simpa using hH⟩)
theorem k72 {id n : Nat} {H : Hp} {v : Value} {l : List Ins} (h : At eIns id H v l) (hid : id < n) (k : Int) (hk : 0 ≤ k ∧ k ≤ 100000000) (hl : l.length ≤ 10000000) : RtM Try.prog 72 [v,.int .i64 k] id H n (.int .i64 (k + 4 * l.length)) (fun H' n' => At eIns id H' v (fam (iMark k) l.length)):=by
 apply RtM.of
 rw [c72]; unfold S72
 rcases h with ⟨rfl,rfl⟩ | ⟨rfl,h⟩
 ·rw [Loop_eq]
  unfold S72L0
  simp(disch:=omega)only[↓reduceIte,ask_true,↓X0,X1,Nat.reduceEqDiff,Int.reduceEq,Nat.reduceAdd,Nat.reduceSub,thenO]
  exact Wp.pure ⟨by simp only; omega,fun _ _ _ => rfl,by simp [put_at,argsT_at],.inl ⟨rfl,rfl⟩⟩
 ·refine Wp.bind (l72 hk hl hid h _ _ (by omega) (by simp [put_at,argsT_at]) (by simp [put_at,argsT_at]) (by simp [put_at])) ?_
  rintro ⟨oe,ot,oH,on⟩ ⟨f1,f2,rfl,f4,f5⟩
  simp only at f1 f2 f4 f5
  simp(disch:=omega)only[↓reduceIte,ask_true,↓X0,X1,Nat.reduceEqDiff,Int.reduceEq,Nat.reduceAdd,Nat.reduceSub,f4]
  exact Wp.pure ⟨by simp only; omega,f2,rfl,.inr ⟨by rw [fam_len],f5⟩⟩
theorem l73 {id n0 : Nat} {H0 : Hp} {l : List Df} {k : Int} (hk : 0 ≤ k ∧ k ≤ 100000000) (hl : l.length ≤ 10000000) (hid : id < n0) (h : H0 id = some (.row (l.flatMap eDef.cells) 3 true)) : ∀ t n,n0 ≤ n → t 0 = sl id 0 l.length → t 1 = .int .i64 k → t 5 = .int .i64 0 →
  Wp (Loop (S73L0 (Call Try.prog) Loop) t H0 n) (fun o => n ≤ o.n ∧ (∀ i,i < n0 → i ≠ id → o.H i = H0 i) ∧ o.e = .exit 0 ∧ o.t 1 = .int .i64 (k + 3 * l.length) ∧ o.H id = some (.row ((fam (dMark k) l.length).flatMap eDef.cells) 3 true)):=by
 intro t n hn0 e0 e1 e5
 refine Loop_rule (fun d t H n' => ∃ (j : Nat),j + d = l.length ∧ n ≤ n' ∧ (∀ i,i < n0 → i ≠ id → H i = H0 i) ∧ t 0 = sl id 0 l.length ∧ t 1 = .int .i64 (k + 3 * j) ∧ t 5 = .int .i64 j ∧ H id = some (.row ((fam (dMark k) j ++ l.drop j).flatMap eDef.cells) 3 true)) _ ?_ l.length t H0 n ⟨0,by omega,by omega,fun _ _ _ => rfl,e0,by simpa using e1,e5,by simpa [fam] using h⟩
 rintro d t H n' ⟨j,hj,hn,s0,e0,e1,e5,hH⟩
 unfold S73L0
 by_cases hlt : j < l.length
 ·have hlti : (j : Int) < l.length:=by omega
  have hw:=wj (j:=j) (len:=l.length) hlt (by omega)
  have w1 : IntKind.i64.wrap (k + 3 * (j : Int) + 1) = k + 3 * j + 1:=w64 (by omega)
  have w2 : IntKind.i64.wrap (k + 3 * (j : Int) + 1 + 1) = k + 3 * j + 2:=by rw [w64 (by omega)]; omega
  have w4 : IntKind.i64.wrap (k + 3 * (j : Int) + 2 + 1) = k + 3 * ((j + 1 : Nat) : Int):=by rw [w64 (by omega)]; omega
  have hset:=fam_set (dMark k) hlt
  have hjl : j < (fam (dMark k) j ++ l.drop j).length:=by rw [fam_drop_len _ (by omega)]; exact hlt
  generalize hL : fam (dMark k) j ++ l.drop j = L at *
  have hix:=idx_sl (sz:=3) (id:=id) (k:=.i64) hlt
  rcases hx : L[j] with ⟨xs,xa,xr⟩
  ((repeat(first|((with_reducible first|apply Wp.gs|apply Wp.cs|apply Wp.cselX|apply Wp.askT|apply Wp.iteKT|apply Wp.ikb|apply Wp.askb|apply Wp.step);case h=>((try simp(disch:=omega)only[↓reduceIte,ask_true,↓X0,X1,Nat.reduceEqDiff,Int.reduceEq,Nat.reduceAdd,Nat.reduceSub,e0,e1,e5,hlti]);with_reducible first|done|exact rfl|exact bT|exact bF))|apply Wp.andS|apply Wp.orS|with_reducible apply Wp.gu|simp only[↓X3]|simp(disch:=decide)only[asks_nil,asks_in,asks_out,askB_nil,askB_in,askB_out]|with_reducible apply Wp.assoc));try(with_reducible apply Wp.cargs;case h=>((try simp(disch:=omega)only[↓reduceIte,ask_true,↓X0,X1,Nat.reduceEqDiff,Int.reduceEq,Nat.reduceAdd,Nat.reduceSub,e0,e1,e5,hlti]);with_reducible exact rfl)))
  refine Wp.rt (k106 (k + 3 * j) (by omega) _ _) ?_
  intro H1 n1 q1 s1
  have hH1 : H1 id = some (.row (L.flatMap eDef.cells) 3 true):=by simp (disch:=omega) only [s1,hH]
  have t0 : st false 1 (ptr id (j * 3)) (.string (mText (k + 3 * j))) H1 = some (H1.set id (some (.row ((L.set j ⟨mText (k + 3 * j),xa,xr⟩).flatMap eDef.cells) 3 true))):=st_fc (E:=eDef) hH1 hjl (f:=0) (by decide) (y:=⟨mText (k + 3 * j),xa,xr⟩) (c:=.string (mText (k + 3 * j))) rfl (by rw [hx]; rfl)
  have t1:=st_fc (E:=eDef) (Hp_same H1 id (some (.row ((L.set j ⟨mText (k + 3 * j),xa,xr⟩).flatMap eDef.cells) 3 true))) (by rw [List.length_set]; exact hjl) (f:=1) (by decide) (y:=⟨mText (k + 3 * j),k + 3 * j + 1,xr⟩) (c:=.int .i64 (k + 3 * j + 1)) rfl (by rw [List.getElem_set_self]; rfl)
  rw [List.set_set,Hp_set_set] at t1
  have t2:=st_fc (E:=eDef) (Hp_same H1 id (some (.row ((L.set j ⟨mText (k + 3 * j),k + 3 * j + 1,xr⟩).flatMap eDef.cells) 3 true))) (by rw [List.length_set]; exact hjl) (f:=2) (by decide) (y:=dMark k j) (c:=.int .i64 (k + 3 * j + 2)) rfl (by rw [List.getElem_set_self]; rfl)
  rw [List.set_set,Hp_set_set,hset] at t2
  (repeat(first|((with_reducible first|apply Wp.gs|apply Wp.cs|apply Wp.cselX|apply Wp.askT|apply Wp.iteKT|apply Wp.ikb|apply Wp.askb|apply Wp.step);case h=>((try simp(disch:=omega)only[↓reduceIte,ask_true,↓X0,X1,Nat.reduceEqDiff,Int.reduceEq,Nat.reduceAdd,Nat.reduceSub,e0,e1,e5,hix,t0,w1,t1,w2,t2,w4,hw]);with_reducible first|done|exact rfl|exact bT|exact bF))|apply Wp.andS|apply Wp.orS|with_reducible apply Wp.gu|simp only[↓X3]|simp(disch:=decide)only[asks_nil,asks_in,asks_out,askB_nil,askB_in,askB_out]|with_reducible apply Wp.assoc))
  exact Wp.pure (Nxt.go (d - 1) (by omega) ⟨j + 1,by omega,by omega,(by intros;first|with_reducible rfl|simp(disch:=omega)only[Hp_ne,Hp_same,s1,s0]),by simp [put_at,e0],by simp [put_at],by simp [put_at],Hp_same _ _ _⟩)
 ·have hlti : ¬ (j : Int) < l.length:=by omega
  ((repeat(first|((with_reducible first|apply Wp.gs|apply Wp.cs|apply Wp.cselX|apply Wp.askT|apply Wp.iteKT|apply Wp.ikb|apply Wp.askb|apply Wp.step);case h=>((try simp(disch:=omega)only[↓reduceIte,ask_true,↓X0,X1,Nat.reduceEqDiff,Int.reduceEq,Nat.reduceAdd,Nat.reduceSub,e0,e1,e5,hlti]);with_reducible first|done|exact rfl|exact bT|exact bF))|apply Wp.andS|apply Wp.orS|with_reducible apply Wp.gu|simp only[↓X3]|simp(disch:=decide)only[asks_nil,asks_in,asks_out,askB_nil,askB_in,askB_out]|with_reducible apply Wp.assoc));try(with_reducible apply Wp.cargs;case h=>((try simp(disch:=omega)only[↓reduceIte,ask_true,↓X0,X1,Nat.reduceEqDiff,Int.reduceEq,Nat.reduceAdd,Nat.reduceSub,e0,e1,e5,hlti]);with_reducible exact rfl)))
  have hjl : j = l.length:=by omega
  subst hjl
  exact Wp.pure (Nxt.exit ⟨Nat.le_trans hn (Nat.le_add_right _ _),s0,rfl,by simp [put_at,e1],by simpa using hH⟩)
theorem k73 {id n : Nat} {H : Hp} {v : Value} {l : List Df} (h : At eDef id H v l) (hid : id < n) (k : Int) (hk : 0 ≤ k ∧ k ≤ 100000000) (hl : l.length ≤ 10000000) : RtM Try.prog 73 [v,.int .i64 k] id H n (.int .i64 (k + 3 * l.length)) (fun H' n' => At eDef id H' v (fam (dMark k) l.length)):=by
 apply RtM.of
 rw [c73]; unfold S73
 rcases h with ⟨rfl,rfl⟩ | ⟨rfl,h⟩
 ·rw [Loop_eq]
  unfold S73L0
  simp(disch:=omega)only[↓reduceIte,ask_true,↓X0,X1,Nat.reduceEqDiff,Int.reduceEq,Nat.reduceAdd,Nat.reduceSub,thenO]
  exact Wp.pure ⟨by simp only; omega,fun _ _ _ => rfl,by simp [put_at,argsT_at],.inl ⟨rfl,rfl⟩⟩
 ·refine Wp.bind (l73 hk hl hid h _ _ (by omega) (by simp [put_at,argsT_at]) (by simp [put_at,argsT_at]) (by simp [put_at])) ?_
  rintro ⟨oe,ot,oH,on⟩ ⟨f1,f2,rfl,f4,f5⟩
  simp only at f1 f2 f4 f5
  simp(disch:=omega)only[↓reduceIte,ask_true,↓X0,X1,Nat.reduceEqDiff,Int.reduceEq,Nat.reduceAdd,Nat.reduceSub,f4]
  exact Wp.pure ⟨by simp only; omega,f2,rfl,.inr ⟨by rw [fam_len],f5⟩⟩
abbrev RtM3 (P : Program) (f : Nat) (args : List Value) (a b c : Nat) (H : Hp) (n : Nat) (v : Value) (R : Hp → Nat → Prop) : Prop:=∃ H' n',n ≤ n' ∧ (∀ i,i < n → i ≠ a → i ≠ b → i ≠ c → H' i = H i) ∧ Call P f args H n = some (v,H',n') ∧ R H' n'
theorem Wp.rtm3 {P : Program} {f : Nat} {args : List Value} {H : Hp} {n a b c : Nat} {β : Type} {g : Value × Hp × Nat → Option β} {Q : β → Prop} {v : Value} {R : Hp → Nat → Prop} (h : RtM3 P f args a b c H n v R) (k : ∀ H' n',n ≤ n' → (∀ i,i < n → i ≠ a → i ≠ b → i ≠ c → H' i = H i) → R H' n' → Wp (g (v,H',n')) Q) : Wp ((Call P f args H n).bind g) Q:=by
 obtain ⟨H',n',h1,h2,h3,h4⟩:=h
 rw [h3]; exact k H' n' h1 h2 h4
theorem RtM3.of {P : Program} {f : Nat} {args : List Value} {a b c : Nat} {H : Hp} {n : Nat} {v : Value} {R : Hp → Nat → Prop} (h : Wp (Call P f args H n) fun q => n ≤ q.2.2 ∧ (∀ i,i < n → i ≠ a → i ≠ b → i ≠ c → q.2.1 i = H i) ∧ q.1 = v ∧ R q.2.1 q.2.2) : RtM3 P f args a b c H n v R:=by
 obtain ⟨⟨w,H',n'⟩,h1,h2,h3,h4,h5⟩:=h
 simp only at h2 h3 h4 h5
 subst h4; exact ⟨H',n',h2,h3,h1,h5⟩
theorem k31 {a b c n : Nat} {H : Hp} {v vl vd : Value} {l : List Nd} {li : List Ins} {ld : List Df} (h : At eNode a H v l) (ha : a < n) (h2 : At eIns b H vl li) (hb : b < n) (h3 : At eDef c H vd ld) (hc : c < n) (hab : a ≠ b) (hac : a ≠ c) (hbc : b ≠ c) (k : Int) (hk : 0 ≤ k ∧ k ≤ 10000000) (hl : l.length ≤ 1048576) (hll : li.length ≤ 1048576) (hld : ld.length ≤ 1048576) :
  RtM3 Try.prog 31 [.agg ⟨[v,vl,vd]⟩,.int .i64 k] a b c H n (.int .i64 (k + 5 * l.length + 4 * li.length + 3 * ld.length)) (fun H' n' => At eNode a H' v (fam (nMark k) l.length) ∧ At eIns b H' vl (fam (iMark (k + 5 * l.length)) li.length) ∧ At eDef c H' vd (fam (dMark (k + 5 * l.length + 4 * li.length)) ld.length)):=by
 apply RtM3.of
 rw [c31]; unfold S31
 ((repeat(first|((with_reducible first|apply Wp.gs|apply Wp.cs|apply Wp.cselX|apply Wp.askT|apply Wp.iteKT|apply Wp.ikb|apply Wp.askb|apply Wp.step);case h=>((try simp(disch:=omega)only[↓reduceIte,ask_true,↓X0,X1,Nat.reduceEqDiff,Int.reduceEq,Nat.reduceAdd,Nat.reduceSub,X2,Hp_ne,Nat.reduceLeDiff]);with_reducible first|done|exact rfl|exact bT|exact bF))|apply Wp.andS|apply Wp.orS|with_reducible apply Wp.gu|simp only[↓X3]|simp(disch:=decide)only[asks_nil,asks_in,asks_out,askB_nil,askB_in,askB_out]|with_reducible apply Wp.assoc));try(with_reducible apply Wp.cargs;case h=>((try simp(disch:=omega)only[↓reduceIte,ask_true,↓X0,X1,Nat.reduceEqDiff,Int.reduceEq,Nat.reduceAdd,Nat.reduceSub,X2,Hp_ne,Nat.reduceLeDiff]);with_reducible exact rfl)))
 refine Wp.rtm (k29 (h.mv (by intros;first|with_reducible rfl|simp(disch:=omega)only[Hp_ne,Hp_same])) (by omega) k (by omega) (by omega)) ?_
 intro H1 n1 q1 s1 o1
 ((repeat(first|((with_reducible first|apply Wp.gs|apply Wp.cs|apply Wp.cselX|apply Wp.askT|apply Wp.iteKT|apply Wp.ikb|apply Wp.askb|apply Wp.step);case h=>((try simp(disch:=omega)only[↓reduceIte,ask_true,↓X0,X1,Nat.reduceEqDiff,Int.reduceEq,Nat.reduceAdd,Nat.reduceSub,X2,Hp_ne,Nat.reduceLeDiff,s1]);with_reducible first|done|exact rfl|exact bT|exact bF))|apply Wp.andS|apply Wp.orS|with_reducible apply Wp.gu|simp only[↓X3]|simp(disch:=decide)only[asks_nil,asks_in,asks_out,askB_nil,askB_in,askB_out]|with_reducible apply Wp.assoc));try(with_reducible apply Wp.cargs;case h=>((try simp(disch:=omega)only[↓reduceIte,ask_true,↓X0,X1,Nat.reduceEqDiff,Int.reduceEq,Nat.reduceAdd,Nat.reduceSub,X2,Hp_ne,Nat.reduceLeDiff,s1]);with_reducible exact rfl)))
 refine Wp.rtm (k72 (h2.mv (by intros;first|with_reducible rfl|simp(disch:=omega)only[Hp_ne,Hp_same,s1])) (by omega) (k + 5 * l.length) (by omega) (by omega)) ?_
 intro H2 n2 q2 s2 o2
 ((repeat(first|((with_reducible first|apply Wp.gs|apply Wp.cs|apply Wp.cselX|apply Wp.askT|apply Wp.iteKT|apply Wp.ikb|apply Wp.askb|apply Wp.step);case h=>((try simp(disch:=omega)only[↓reduceIte,ask_true,↓X0,X1,Nat.reduceEqDiff,Int.reduceEq,Nat.reduceAdd,Nat.reduceSub,X2,Hp_ne,Nat.reduceLeDiff,s2,s1]);with_reducible first|done|exact rfl|exact bT|exact bF))|apply Wp.andS|apply Wp.orS|with_reducible apply Wp.gu|simp only[↓X3]|simp(disch:=decide)only[asks_nil,asks_in,asks_out,askB_nil,askB_in,askB_out]|with_reducible apply Wp.assoc));try(with_reducible apply Wp.cargs;case h=>((try simp(disch:=omega)only[↓reduceIte,ask_true,↓X0,X1,Nat.reduceEqDiff,Int.reduceEq,Nat.reduceAdd,Nat.reduceSub,X2,Hp_ne,Nat.reduceLeDiff,s2,s1]);with_reducible exact rfl)))
 refine Wp.rtm (k73 (h3.mv (by intros;first|with_reducible rfl|simp(disch:=omega)only[Hp_ne,Hp_same,s2,s1])) (by omega) (k + 5 * l.length + 4 * li.length) (by omega) (by omega)) ?_
 intro H3 n3 q3 s3 o3
 (repeat(first|((with_reducible first|apply Wp.gs|apply Wp.cs|apply Wp.cselX|apply Wp.askT|apply Wp.iteKT|apply Wp.ikb|apply Wp.askb|apply Wp.step);case h=>((try simp(disch:=omega)only[↓reduceIte,ask_true,↓X0,X1,Nat.reduceEqDiff,Int.reduceEq,Nat.reduceAdd,Nat.reduceSub,X2,Hp_ne,Nat.reduceLeDiff,s3,s2,s1]);with_reducible first|done|exact rfl|exact bT|exact bF))|apply Wp.andS|apply Wp.orS|with_reducible apply Wp.gu|simp only[↓X3]|simp(disch:=decide)only[asks_nil,asks_in,asks_out,askB_nil,askB_in,askB_out]|with_reducible apply Wp.assoc))
 exact Wp.pure ⟨by simp only; omega,(by intros;first|with_reducible rfl|simp(disch:=omega)only[Hp_ne,Hp_same,s3,s2,s1]),rfl,o1.mv (by intros;first|with_reducible rfl|simp(disch:=omega)only[Hp_ne,Hp_same,s3,s2]),o2.mv (by intros;first|with_reducible rfl|simp(disch:=omega)only[Hp_ne,Hp_same,s3]),o3⟩
end Go.Proofs.Ytbgkimkbngocjaa.Ax
set_option linter.unusedVariables false
set_option linter.unusedSimpArgs false
set_option maxHeartbeats 8000000
namespace Go.Proofs.Ytbgkimkbngocjaa.Ax
open Go
structure DC (c il idd n : Nat) (H : Hp) (v ul ud : Value) (s : CS) : Prop where
 cc : CC c il n H v ul ud s
 ad : At eDef idd H ud s.D
 dn : idd < n
 nc : idd ≠ c
 ni : idd ≠ il
theorem DC.mv {c il idd n m : Nat} {H H' : Hp} {v ul ud : Value} {s : CS} (h : DC c il idd n H v ul ud s) (hm : n ≤ m) (h1 : H' c = H c) (h2 : H' il = H il) (h3 : H' idd = H idd) : DC c il idd m H' v ul ud s :=
 ⟨h.cc.mv hm h1 h2,h.ad.mv h3,by have:=h.dn; omega,h.nc,h.ni⟩
abbrev Next3 (c il idd n n' : Nat) (H' : Hp) (v : Value) (s : CS) : Prop:=∃ ul' il' ud' idd',(il' = il ∨ n ≤ il') ∧ (idd' = idd ∨ n ≤ idd') ∧ DC c il' idd' n' H' v ul' ud' s
theorem kD111 {c il idd n : Nat} {H : Hp} {v ul ud : Value} {s : CS} (h : DC c il idd n H v ul ud s) (x : Int) (hx : 0 ≤ x ∧ x ≤ 3) : RtM3 Try.prog 111 [ptr c 0,.int .i64 x] c il idd H n (.tuple ⟨[]⟩) (fun H' n' => Next3 c il idd n n' H' v (cFail x s)):=by
 obtain ⟨r,H',n',h1,h2,h3,rfl,h4⟩:=k111 h.cc x hx
 refine ⟨H',n',h1,fun i a b c _ => h2 i a b c,h3,ul,il,ud,idd,.inl rfl,.inl rfl,h4,?_,by have:=h.dn; omega,h.nc,h.ni⟩
 rw [(Goes.fail x s).2.2]
 exact h.ad.mv (h2 idd h.dn h.nc h.ni)
theorem bld_df (s : ByteArray) (a b : Int) : bld [.string ⟨#[]⟩,.int .i64 0,.int .i64 0] [(0,1,.string s),(1,1,.int .i64 a),(2,1,.int .i64 b)] = some (.agg ⟨(⟨s,a,b⟩ : Df).cells⟩):=rfl
theorem k92 {v : Value} {p : List Nd} {E : CEx} {l : List Int} (hg : ∀ v e,Goes (E v e)) (hE : ∀ x ∈ l,XC 123 v p true E x) {c il idd n : Nat} {H : Hp} {ul ud wn w : Value} {s : CS} {name : ByteArray} {names : List ByteArray} (h : DC c il idd n H v ul ud s) (hv : LO eNode c il n H v p) (hvd : Off idd v) (hex : ∀ x ∈ l,1 + x.toNat ≤ 90000) (hnl : names.length ≤ 4) (hwn : LO eStr c il n H wn names) (hwd : Off idd wn) (hw : LO eInt c il n H w l) (hwd2 : Off idd w) (hl : l.length ≤ 1000000) (hD : s.D.length ≤ 1048576) : RtM3 Try.prog 92 [ptr c 0,.string name,wn,w] c il idd H n (.tuple ⟨[]⟩) (fun H' n' => Next3 c il idd n n' H' v (cDefine E name names l s)):=by
 apply RtM3.of
 rw [c92]; unfold S92
 obtain ⟨hcc,had,hdn,hnc,hni⟩:=h
 have hcn:=hcc.cn
 have hil:=hcc.iln
 have hc:=hcc.hc
 have hne:=hcc.ne
 ((repeat(first|((with_reducible first|apply Wp.gs|apply Wp.cs|apply Wp.cselX|apply Wp.askT|apply Wp.iteKT|apply Wp.ikb|apply Wp.askb|apply Wp.step);case h=>((try simp(disch:=omega)only[↓reduceIte,ask_true,↓X0,X1,Nat.reduceEqDiff,Int.reduceEq,Nat.reduceAdd,Nat.reduceSub,X2,Hp_ne,Nat.reduceLeDiff,hc]);with_reducible first|done|exact rfl|exact bT|exact bF))|apply Wp.andS|apply Wp.orS|with_reducible apply Wp.gu|simp only[↓X3]|simp(disch:=decide)only[asks_nil,asks_in,asks_out,askB_nil,askB_in,askB_out]|with_reducible apply Wp.assoc));try(with_reducible apply Wp.cargs;case h=>((try simp(disch:=omega)only[↓reduceIte,ask_true,↓X0,X1,Nat.reduceEqDiff,Int.reduceEq,Nat.reduceAdd,Nat.reduceSub,X2,Hp_ne,Nat.reduceLeDiff,hc]);with_reducible exact rfl)))
 refine Wp.rt (k11 ((had.lst hdn).mv (by omega) (fun _ _ => rfl)) hD name) ?_
 intro H1 n1 q1 s1
 have hc1 : H1 c = some (.row [v,ul,ud,.int .i64 s.how] 0 true):=(s1 c (by omega)).trans hc
 unfold cDefine
 by_cases hd : 0 ≤ defOf s.D name
 ·rw [if_pos ((defOf_has _ _).1 hd)]
  ((repeat(first|((with_reducible first|apply Wp.gs|apply Wp.cs|apply Wp.cselX|apply Wp.askT|apply Wp.iteKT|apply Wp.ikb|apply Wp.askb|apply Wp.step);case h=>((try simp(disch:=omega)only[↓reduceIte,ask_true,↓X0,X1,Nat.reduceEqDiff,Int.reduceEq,Nat.reduceAdd,Nat.reduceSub,hd]);with_reducible first|done|exact rfl|exact bT|exact bF))|apply Wp.andS|apply Wp.orS|with_reducible apply Wp.gu|simp only[↓X3]|simp(disch:=decide)only[asks_nil,asks_in,asks_out,askB_nil,askB_in,askB_out]|with_reducible apply Wp.assoc));try(with_reducible apply Wp.cargs;case h=>((try simp(disch:=omega)only[↓reduceIte,ask_true,↓X0,X1,Nat.reduceEqDiff,Int.reduceEq,Nat.reduceAdd,Nat.reduceSub,hd]);with_reducible exact rfl)))
  refine Wp.rtm3 (kD111 (DC.mv ⟨hcc,had,hdn,hnc,hni⟩ (by omega) (s1 c (by omega)) (s1 il (by omega)) (s1 idd (by omega))) 2 (by decide)) ?_
  rintro H2 n2 q2 s2 ⟨ul2,il2,ud2,idd2,i2,j2,h2⟩
  (repeat(first|((with_reducible first|apply Wp.gs|apply Wp.cs|apply Wp.cselX|apply Wp.askT|apply Wp.iteKT|apply Wp.ikb|apply Wp.askb|apply Wp.step);case h=>((try simp(disch:=omega)only[↓reduceIte,ask_true,↓X0,X1,Nat.reduceEqDiff,Int.reduceEq,Nat.reduceAdd,Nat.reduceSub]);with_reducible first|done|exact rfl|exact bT|exact bF))|apply Wp.andS|apply Wp.orS|with_reducible apply Wp.gu|simp only[↓X3]|simp(disch:=decide)only[asks_nil,asks_in,asks_out,askB_nil,askB_in,askB_out]|with_reducible apply Wp.assoc))
  exact Wp.pure ⟨by simp only; omega,(by intros;first|with_reducible rfl|simp(disch:=omega)only[Hp_ne,Hp_same,s2,s1]),rfl,ul2,il2,ud2,idd2,by omega,by omega,h2.mv (by simp only; omega) rfl rfl rfl⟩
 ·rw [if_neg (fun hh => hd ((defOf_has _ _).2 hh))]
  have hlv : lenV false ul = some (.int .i64 s.L.length):=(hcc.al.lst hil).len
  have hb:=bsl_dc (n1 + 16) (⟨name,s.L.length,names.length⟩ : Df)
  ((repeat(first|((with_reducible first|apply Wp.gs|apply Wp.cs|apply Wp.cselX|apply Wp.askT|apply Wp.iteKT|apply Wp.ikb|apply Wp.askb|apply Wp.step);case h=>((try simp(disch:=omega)only[↓reduceIte,ask_true,↓X0,X1,Nat.reduceEqDiff,Int.reduceEq,Nat.reduceAdd,Nat.reduceSub,X2,Hp_ne,Nat.reduceLeDiff,hd,hc1,hlv,hwn.li.len,bld_df,hb]);with_reducible first|done|exact rfl|exact bT|exact bF))|apply Wp.andS|apply Wp.orS|with_reducible apply Wp.gu|simp only[↓X3]|simp(disch:=decide)only[asks_nil,asks_in,asks_out,askB_nil,askB_in,askB_out]|with_reducible apply Wp.assoc));try(with_reducible apply Wp.cargs;case h=>((try simp(disch:=omega)only[↓reduceIte,ask_true,↓X0,X1,Nat.reduceEqDiff,Int.reduceEq,Nat.reduceAdd,Nat.reduceSub,X2,Hp_ne,Nat.reduceLeDiff,hd,hc1,hlv,hwn.li.len,bld_df,hb]);with_reducible exact rfl)))
  refine Wp.app1 (E:=eDef) (⟨name,s.L.length,names.length⟩ : Df) ((had.mv (s1 idd (by omega))).mv (by intros;first|with_reducible rfl|simp(disch:=omega)only[Hp_ne,Hp_same])) (by omega) (by decide) (by omega) ?_
  intro H4 r1 r2
  have hc4 : H4 c = some (.row [v,ul,ud,.int .i64 s.how] 0 true):=by simp (disch:=omega) only [r2,Hp_ne,hc1]
  have hst:=st_cset (o:=2) (v:=sl (n1 + 17) 0 (s.D ++ [(⟨name,s.L.length,names.length⟩ : Df)]).length) hc4 (by simp) rfl
  simp only [List.set_cons_succ,List.set_cons_zero] at hst
  generalize hu2 : sl (n1 + 17) 0 (s.D ++ [(⟨name,s.L.length,names.length⟩ : Df)]).length = u2 at *
  ((repeat(first|((with_reducible first|apply Wp.gs|apply Wp.cs|apply Wp.cselX|apply Wp.askT|apply Wp.iteKT|apply Wp.ikb|apply Wp.askb|apply Wp.step);case h=>((try simp(disch:=omega)only[↓reduceIte,ask_true,↓X0,X1,Nat.reduceEqDiff,Int.reduceEq,Nat.reduceAdd,Nat.reduceSub,X2,Hp_ne,Nat.reduceLeDiff,hst,bsl_v _ wn hwn.li.c1]);with_reducible first|done|exact rfl|exact bT|exact bF))|apply Wp.andS|apply Wp.orS|with_reducible apply Wp.gu|simp only[↓X3]|simp(disch:=decide)only[asks_nil,asks_in,asks_out,askB_nil,askB_in,askB_out]|with_reducible apply Wp.assoc));try(with_reducible apply Wp.cargs;case h=>((try simp(disch:=omega)only[↓reduceIte,ask_true,↓X0,X1,Nat.reduceEqDiff,Int.reduceEq,Nat.reduceAdd,Nat.reduceSub,X2,Hp_ne,Nat.reduceLeDiff,hst,bsl_v _ wn hwn.li.c1]);with_reducible exact rfl)))
  generalize hG : (H4.set c _).set (n1 + 25) _ = G
  have hk : ∀ i,i < n → i ≠ c → i ≠ il → i ≠ idd → G i = H i:=fun i a b c d => by
   rw [← hG]; simp (disch:=omega) only [Hp_ne,r2,s1]
  have hGc : G c = some (.row [v,ul,u2,.int .i64 s.how] 0 true):=by rw [← hG]; simp (disch:=omega) only [Hp_ne,Hp_same]
  have hGd : At eDef (n1 + 17) G u2 (s.D ++ [(⟨name,s.L.length,names.length⟩ : Df)]):=by
   rw [← hu2]; refine .inr ⟨rfl,?_⟩
   rw [← hG]; simp (disch:=omega) only [Hp_ne,r1]
  have hGe : At eVl (n1 + 25) G (sl (n1 + 25) 0 1) [wn]:=.inr ⟨rfl,by rw [← hG]; exact Hp_same _ _ _⟩
  have hGil : G il = H il:=by rw [← hG]; simp (disch:=omega) only [Hp_ne,r2,s1]
  have hwnG : LO eStr c il (n1 + 27) G wn names:=⟨(hwn.li.keep' fun i o a k e => hk i (hwn.li.2 i o a k e) (hwn.oc i o a k e) (hwn.oi i o a k e) (hwd i o a k e)).up (by omega),hwn.oc,hwn.oi⟩
  have hwG : LO eInt c il (n1 + 27) G w l:=⟨(hw.li.keep' fun i o a k e => hk i (hw.li.2 i o a k e) (hw.oc i o a k e) (hw.oi i o a k e) (hwd2 i o a k e)).up (by omega),hw.oc,hw.oi⟩
  have hev : EV c il (n1 + 27) G (sl (n1 + 25) 0 1) ([] ++ [names]):=EV.snoc (ws:=[]) hGe (by omega) (by omega) (by omega) rfl (fun i h1 _ => by simp at h1) hwnG
  have hCC : CC c il (n1 + 27) G v ul u2 ⟨s.how,s.L,s.D ++ [(⟨name,s.L.length,names.length⟩ : Df)]⟩:=⟨hGc,hcc.al.mv hGil,by omega,by omega,hcc.ne,hcc.len,hcc.hr⟩
  ((repeat(first|((with_reducible first|apply Wp.gs|apply Wp.cs|apply Wp.cselX|apply Wp.askT|apply Wp.iteKT|apply Wp.ikb|apply Wp.askb|apply Wp.step);case h=>((try simp(disch:=omega)only[↓reduceIte,ask_true,↓X0,X1,Nat.reduceEqDiff,Int.reduceEq,Nat.reduceAdd,Nat.reduceSub]);with_reducible first|done|exact rfl|exact bT|exact bF))|apply Wp.andS|apply Wp.orS|with_reducible apply Wp.gu|simp only[↓X3]|simp(disch:=decide)only[asks_nil,asks_in,asks_out,askB_nil,askB_in,askB_out]|with_reducible apply Wp.assoc));try(with_reducible apply Wp.cargs;case h=>((try simp(disch:=omega)only[↓reduceIte,ask_true,↓X0,X1,Nat.reduceEqDiff,Int.reduceEq,Nat.reduceAdd,Nat.reduceSub]);with_reducible exact rfl)))
  refine Wp.rta (k114 hE hCC ⟨(hv.li.keep' fun i o a k e => hk i (hv.li.2 i o a k e) (hv.oc i o a k e) (hv.oi i o a k e) (hvd i o a k e)).up (by omega),hv.oc,hv.oi⟩ (e:=[names]) ⟨by simp,fun f hf => by simp at hf; rw [hf]; exact hnl⟩ (fun x hx => by have:=hex x hx; simpa using this) hev hwG hl) ?_
  rintro _ H5 n5 q5 s5 ⟨rfl,ul5,il5,i5,h5⟩
  have hB:=Goes.body hg [names] l ⟨s.how,s.L,s.D ++ [(⟨name,s.L.length,names.length⟩ : Df)]⟩
  generalize cBody E [names] l ⟨s.how,s.L,s.D ++ [(⟨name,s.L.length,names.length⟩ : Df)]⟩ = S5 at *
  have hcn5:=h5.cn
  have hiln5:=h5.iln
  ((repeat(first|((with_reducible first|apply Wp.gs|apply Wp.cs|apply Wp.cselX|apply Wp.askT|apply Wp.iteKT|apply Wp.ikb|apply Wp.askb|apply Wp.step);case h=>((try simp(disch:=omega)only[↓reduceIte,ask_true,↓X0,X1,Nat.reduceEqDiff,Int.reduceEq,Nat.reduceAdd,Nat.reduceSub,bld_ins1]);with_reducible first|done|exact rfl|exact bT|exact bF))|apply Wp.andS|apply Wp.orS|with_reducible apply Wp.gu|simp only[↓X3]|simp(disch:=decide)only[asks_nil,asks_in,asks_out,askB_nil,askB_in,askB_out]|with_reducible apply Wp.assoc));try(with_reducible apply Wp.cargs;case h=>((try simp(disch:=omega)only[↓reduceIte,ask_true,↓X0,X1,Nat.reduceEqDiff,Int.reduceEq,Nat.reduceAdd,Nat.reduceSub,bld_ins1]);with_reducible exact rfl)))
  refine Wp.rta (k115 (h5.mv (by omega) rfl rfl) (insOf 8 0 0)) ?_
  rintro _ H6 n6 q6 s6 ⟨rfl,ul6,il6,i6,h6⟩
  have hP:=Goes.put (insOf 8 0 0) S5
  generalize cPut (insOf 8 0 0) S5 = S6 at *
  (repeat(first|((with_reducible first|apply Wp.gs|apply Wp.cs|apply Wp.cselX|apply Wp.askT|apply Wp.iteKT|apply Wp.ikb|apply Wp.askb|apply Wp.step);case h=>((try simp(disch:=omega)only[↓reduceIte,ask_true,↓X0,X1,Nat.reduceEqDiff,Int.reduceEq,Nat.reduceAdd,Nat.reduceSub]);with_reducible first|done|exact rfl|exact bT|exact bF))|apply Wp.andS|apply Wp.orS|with_reducible apply Wp.gu|simp only[↓X3]|simp(disch:=decide)only[asks_nil,asks_in,asks_out,askB_nil,askB_in,askB_out]|with_reducible apply Wp.assoc))
  refine Wp.pure ⟨by simp only; omega,fun i a b c d => ?_,rfl,ul6,il6,u2,n1 + 17,by omega,.inr (by omega),h6.mv (by simp only; omega) rfl rfl,?_,by simp only; omega,by omega,by omega⟩
  ·show H6 i = H i
   rw [s6 i (by omega) b (by omega),s5 i (by omega) b (by omega)]
   exact hk i a b c d
  ·rw [hP.2.2,hB.2.2]
   exact hGd.mv (by show H6 (n1 + 17) = G (n1 + 17); rw [s6 _ (by omega) (by omega) (by omega),s5 _ (by omega) (by omega) (by omega)])
theorem LO.off {α : Type} {E : Enc α} {lo n c il idd : Nat} {H : Hp} {w : Value} {l : List α} (h : New E lo n H w l) (hd : idd < lo) : Off idd w:=by
 obtain ⟨id,h1,h2,h3⟩:=h
 rcases h3 with ⟨rfl,_⟩ | ⟨rfl,_⟩ <;> intro i o a k e <;> cases e <;> omega
theorem k91 {v : Value} {p : List Nd} (hp : PoolOk p) {E : CEx} {l : List Int} (hg : ∀ v e,Goes (E v e)) (hE : ∀ x ∈ l,XC 123 v p true E x) {c il idd n : Nat} {H : Hp} {ul ud w : Value} {s : CS} (h : DC c il idd n H v ul ud s) (hv : LO eNode c il n H v p) (hvd : Off idd v) (hr : ∀ x ∈ l,0 ≤ x ∧ x < (p.length : Int)) (hw : LO eInt c il n H w l) (hwd2 : Off idd w) (hl : l.length ≤ 100000) (hD : s.D.length ≤ 1048576) : RtM3 Try.prog 91 [ptr c 0,w] c il idd H n (.tuple ⟨[]⟩) (fun H' n' => Next3 c il idd n n' H' v (cDefn E p l s)):=by
 apply RtM3.of
 rw [c91]; unfold S91
 have hcc:=h.cc
 have hdn:=h.dn
 have hcn:=hcc.cn
 have hil:=hcc.iln
 have hc:=hcc.hc
 have hpl:=hp.2
 have hlen:=hw.li.len
 generalize hF : cDefn E p l s = F at *
 have fin : ∀ (H0 : Hp) (n0 : Nat) (x : Int),n ≤ n0 → (∀ i,i < n → H0 i = H i) → 0 ≤ x ∧ x ≤ 3 → F = cFail x s → Wp ((Call Try.prog 111 [ptr c 0,.int .i64 x] H0 n0).bind fun q => some (Value.tuple ⟨[]⟩,q.2.1,q.2.2)) (fun q => n ≤ q.2.2 ∧ (∀ i,i < n → i ≠ c → i ≠ il → i ≠ idd → q.2.1 i = H i) ∧ q.1 = .tuple ⟨[]⟩ ∧ Next3 c il idd n q.2.2 q.2.1 v F):=by
  intro H0 n0 x z1 z2 z3 z4
  refine Wp.rtm3 (kD111 (h.mv z1 (z2 c hcn) (z2 il hil) (z2 idd hdn)) x z3) ?_
  rintro H2 n2 q2 s2 ⟨ul2,il2,ud2,idd2,i2,j2,h2⟩
  refine Wp.pure ⟨by simp only; omega,fun i a b c d => (s2 i (by omega) b c d).trans (z2 i a),rfl,?_⟩
  rw [z4]
  exact ⟨ul2,il2,ud2,idd2,by omega,by omega,h2.mv (Nat.le_refl _) rfl rfl rfl⟩
 unfold cDefn at hF
 by_cases h3 : (l.length : Int) < 3
 ·(repeat(first|((with_reducible first|apply Wp.gs|apply Wp.cs|apply Wp.cselX|apply Wp.askT|apply Wp.iteKT|apply Wp.ikb|apply Wp.askb|apply Wp.step);case h=>((try simp(disch:=omega)only[↓reduceIte,ask_true,↓X0,X1,Nat.reduceEqDiff,Int.reduceEq,Nat.reduceAdd,Nat.reduceSub,hlen,h3]);with_reducible first|done|exact rfl|exact bT|exact bF))|apply Wp.andS|apply Wp.orS|with_reducible apply Wp.gu|simp only[↓X3]|simp(disch:=decide)only[asks_nil,asks_in,asks_out,askB_nil,askB_in,askB_out]|with_reducible apply Wp.assoc))
  exact fin _ _ _ (by omega) (fun _ _ => rfl) (by decide) (by rw [← hF,if_neg (by omega)])
 have m1:=gi_mem (l:=l) (i:=1) (by omega) (by omega)
 have r1:=hr _ m1
 have g1:=hw.li.iAll (i:=1) (by omega) (by omega)
 ((repeat(first|((with_reducible first|apply Wp.gs|apply Wp.cs|apply Wp.cselX|apply Wp.askT|apply Wp.iteKT|apply Wp.ikb|apply Wp.askb|apply Wp.step);case h=>((try simp(disch:=omega)only[↓reduceIte,ask_true,↓X0,X1,Nat.reduceEqDiff,Int.reduceEq,Nat.reduceAdd,Nat.reduceSub,hlen,h3,g1]);with_reducible first|done|exact rfl|exact bT|exact bF))|apply Wp.andS|apply Wp.orS|with_reducible apply Wp.gu|simp only[↓X3]|simp(disch:=decide)only[asks_nil,asks_in,asks_out,askB_nil,askB_in,askB_out]|with_reducible apply Wp.assoc));try(with_reducible apply Wp.cargs;case h=>((try simp(disch:=omega)only[↓reduceIte,ask_true,↓X0,X1,Nat.reduceEqDiff,Int.reduceEq,Nat.reduceAdd,Nat.reduceSub,hlen,h3,g1]);with_reducible exact rfl)))
 refine Wp.rtn (k89 (o:=0) (hv.li.mv (by omega) (fun _ _ => rfl)) hp (by omega) hc rfl _ r1.1 r1.2) ?_
 rintro _ H2 n2 q2 s2 ⟨up,rfl,idp,p1,p2,p3⟩
 have hnt : notTup up = true:=by rcases p3 with ⟨h,_⟩ | ⟨h,_⟩ <;> rw [h] <;> rfl
 have hlu : lenV false up = some (.int .i64 (chainOf p (gi l 1)).1.length):=(p3.lst (n:=n2) p2).len
 have hceq:=chainOf_eq hp r1.1 r1.2
 cases hch : (chainOf p (gi l 1)).2 with
 | false =>
  (repeat(first|((with_reducible first|apply Wp.gs|apply Wp.cs|apply Wp.cselX|apply Wp.askT|apply Wp.iteKT|apply Wp.ikb|apply Wp.askb|apply Wp.step);case h=>((try simp(disch:=omega)only[↓reduceIte,ask_true,↓X0,X1,Nat.reduceEqDiff,Int.reduceEq,Nat.reduceAdd,Nat.reduceSub,hnt]);with_reducible first|done|exact rfl|exact bT|exact bF))|apply Wp.andS|apply Wp.orS|with_reducible apply Wp.gu|simp only[↓X3]|simp(disch:=decide)only[asks_nil,asks_in,asks_out,askB_nil,askB_in,askB_out]|with_reducible apply Wp.assoc))
  exact fin _ _ _ (by omega) (fun i hi => s2 i (by omega)) (by decide) (by rw [← hF,if_neg]; rintro ⟨_,_,h⟩; rw [hch] at h; cases h)
 | true =>
  by_cases k5 : (gi p (gi l 1)).k = 5
  case neg =>
   have hl0 : ((chainOf p (gi l 1)).1.length : Int) = 0:=by rw [hceq,if_neg k5]; rfl
   (repeat(first|((with_reducible first|apply Wp.gs|apply Wp.cs|apply Wp.cselX|apply Wp.askT|apply Wp.iteKT|apply Wp.ikb|apply Wp.askb|apply Wp.step);case h=>((try simp(disch:=omega)only[↓reduceIte,ask_true,↓X0,X1,Nat.reduceEqDiff,Int.reduceEq,Nat.reduceAdd,Nat.reduceSub,hnt,hlu,hl0]);with_reducible first|done|exact rfl|exact bT|exact bF))|apply Wp.andS|apply Wp.orS|with_reducible apply Wp.gu|simp only[↓X3]|simp(disch:=decide)only[asks_nil,asks_in,asks_out,askB_nil,askB_in,askB_out]|with_reducible apply Wp.assoc))
   exact fin _ _ _ (by omega) (fun i hi => s2 i (by omega)) (by decide) (by rw [← hF,if_neg]; rintro ⟨_,h,_⟩; exact k5 h)
  have hpos:=chainOf_pos hp r1.1 r1.2 k5
  have hmm:=chainOf_mem hp r1.1 r1.2
  have hcl:=chainOf_len r1.1 r1.2
  rw [if_pos ⟨by omega,k5,hch⟩] at hF
  generalize hQ : (chainOf p (gi l 1)).1 = Q at *
  have hl0 : ¬ (Q.length : Int) = 0:=by omega
  have m0:=gi_mem (l:=Q) (i:=0) (by omega) (by omega)
  have r0:=hmm _ m0
  have gl:=(p3.lst (n:=n2) p2).iAll (i:=0) (by omega) (by omega)
  have hc2 : H2 c = some (.row [v,ul,ud,.int .i64 s.how] 0 true):=(s2 c (by omega)).trans hc
  ((repeat(first|((with_reducible first|apply Wp.gs|apply Wp.cs|apply Wp.cselX|apply Wp.askT|apply Wp.iteKT|apply Wp.ikb|apply Wp.askb|apply Wp.step);case h=>((try simp(disch:=omega)only[↓reduceIte,ask_true,↓X0,X1,Nat.reduceEqDiff,Int.reduceEq,Nat.reduceAdd,Nat.reduceSub,hnt,hlu,hl0,gl]);with_reducible first|done|exact rfl|exact bT|exact bF))|apply Wp.andS|apply Wp.orS|with_reducible apply Wp.gu|simp only[↓X3]|simp(disch:=decide)only[asks_nil,asks_in,asks_out,askB_nil,askB_in,askB_out]|with_reducible apply Wp.assoc));try(with_reducible apply Wp.cargs;case h=>((try simp(disch:=omega)only[↓reduceIte,ask_true,↓X0,X1,Nat.reduceEqDiff,Int.reduceEq,Nat.reduceAdd,Nat.reduceSub,hnt,hlu,hl0,gl]);with_reducible exact rfl)))
  refine Wp.rt (k90 (hv.li.mv (by omega) (fun i hi => s2 i (by omega))) hc2 (by omega) _ r0.1 (by omega)) ?_
  intro H3 n3 q3 s3
  have hk3 : ∀ i,i < n → H3 i = H i:=fun i hi => (s3 i (by omega)).trans (s2 i (by omega))
  by_cases k4 : (gi p (gi Q 0)).k = 4
  case neg =>
   have hiv : isVar (gi p (gi Q 0)) = false:=by rw [isVar_eq,decide_eq_false k4]; rfl
   (repeat(first|((with_reducible first|apply Wp.gs|apply Wp.cs|apply Wp.cselX|apply Wp.askT|apply Wp.iteKT|apply Wp.ikb|apply Wp.askb|apply Wp.step);case h=>((try simp(disch:=omega)only[↓reduceIte,ask_true,↓X0,X1,Nat.reduceEqDiff,Int.reduceEq,Nat.reduceAdd,Nat.reduceSub,k4]);with_reducible first|done|exact rfl|exact bT|exact bF))|apply Wp.andS|apply Wp.orS|with_reducible apply Wp.gu|simp only[↓X3]|simp(disch:=decide)only[asks_nil,asks_in,asks_out,askB_nil,askB_in,askB_out]|with_reducible apply Wp.assoc))
   exact fin _ _ _ (by omega) hk3 (by decide) (by rw [← hF,if_neg (by rw [hiv]; decide)])
  ((repeat(first|((with_reducible first|apply Wp.gs|apply Wp.cs|apply Wp.cselX|apply Wp.askT|apply Wp.iteKT|apply Wp.ikb|apply Wp.askb|apply Wp.step);case h=>((try simp(disch:=omega)only[↓reduceIte,ask_true,↓X0,X1,Nat.reduceEqDiff,Int.reduceEq,Nat.reduceAdd,Nat.reduceSub,k4]);with_reducible first|done|exact rfl|exact bT|exact bF))|apply Wp.andS|apply Wp.orS|with_reducible apply Wp.gu|simp only[↓X3]|simp(disch:=decide)only[asks_nil,asks_in,asks_out,askB_nil,askB_in,askB_out]|with_reducible apply Wp.assoc));try(with_reducible apply Wp.cargs;case h=>((try simp(disch:=omega)only[↓reduceIte,ask_true,↓X0,X1,Nat.reduceEqDiff,Int.reduceEq,Nat.reduceAdd,Nat.reduceSub,k4]);with_reducible exact rfl)))
  refine Wp.rt (k112 _ _ _) ?_
  intro H4 n4 q4 s4
  have hk4 : ∀ i,i < n → H4 i = H i:=fun i hi => (s4 i (by omega)).trans (hk3 i hi)
  cases hsp : special (gi p (gi Q 0)).s with
  | true =>
   have hiv : isVar (gi p (gi Q 0)) = false:=by rw [isVar_eq,hsp]; simp
   (repeat(first|((with_reducible first|apply Wp.gs|apply Wp.cs|apply Wp.cselX|apply Wp.askT|apply Wp.iteKT|apply Wp.ikb|apply Wp.askb|apply Wp.step);case h=>((try simp(disch:=omega)only[↓reduceIte,ask_true,↓X0,X1,Nat.reduceEqDiff,Int.reduceEq,Nat.reduceAdd,Nat.reduceSub]);with_reducible first|done|exact rfl|exact bT|exact bF))|apply Wp.andS|apply Wp.orS|with_reducible apply Wp.gu|simp only[↓X3]|simp(disch:=decide)only[asks_nil,asks_in,asks_out,askB_nil,askB_in,askB_out]|with_reducible apply Wp.assoc))
   exact fin _ _ _ (by omega) hk4 (by decide) (by rw [← hF,if_neg (by rw [hiv]; decide)])
  | false =>
   have hiv : isVar (gi p (gi Q 0)) = true:=by rw [isVar_eq,hsp,k4]; rfl
   rw [if_pos hiv] at hF
   have p3' : At eInt idp H4 up Q:=p3.mv (by rw [s4 idp (by omega),s3 idp (by omega)])
   obtain ⟨w1,hs1,hw1⟩:=(p3'.lo (c:=c) (il:=il) (n:=n4) (by omega) (by omega) (by omega)).tail (by decide) 1 (by omega)
   have hs1' : sliceV 1 up (some (.int .i64 1)) none = some w1:=hs1
   obtain ⟨w2,hs2,hw2⟩:=hw.tail (by decide) 2 (by omega)
   have hs2' : sliceV 1 w (some (.int .i64 2)) none = some w2:=hs2
   ((repeat(first|((with_reducible first|apply Wp.gs|apply Wp.cs|apply Wp.cselX|apply Wp.askT|apply Wp.iteKT|apply Wp.ikb|apply Wp.askb|apply Wp.step);case h=>((try simp(disch:=omega)only[↓reduceIte,ask_true,↓X0,X1,Nat.reduceEqDiff,Int.reduceEq,Nat.reduceAdd,Nat.reduceSub,hs1']);with_reducible first|done|exact rfl|exact bT|exact bF))|apply Wp.andS|apply Wp.orS|with_reducible apply Wp.gu|simp only[↓X3]|simp(disch:=decide)only[asks_nil,asks_in,asks_out,askB_nil,askB_in,askB_out]|with_reducible apply Wp.assoc));try(with_reducible apply Wp.cargs;case h=>((try simp(disch:=omega)only[↓reduceIte,ask_true,↓X0,X1,Nat.reduceEqDiff,Int.reduceEq,Nat.reduceAdd,Nat.reduceSub,hs1']);with_reducible exact rfl)))
   refine Wp.rtn (k113 (hv.li.mv (by omega) (fun i hi => hk4 i (by omega))) ((hk4 c hcn).trans hc) (by omega) (hw1.li.mv (by omega) (fun _ _ => rfl)) (fun x hx => by have:=hmm x (List.mem_of_mem_drop hx); omega) (by rw [List.length_drop]; omega)) ?_
   rintro _ H5 n5 q5 s5 ⟨un,rfl,hun⟩
   have hnt2 : notTup un = true:=by obtain ⟨_,_,_,hat⟩:=hun; rcases hat with ⟨h,_⟩ | ⟨h,_⟩ <;> rw [h] <;> rfl
   have hnr:=cNames_rng p (Q.drop 1)
   have hk5 : ∀ i,i < n → H5 i = H i:=fun i hi => (s5 i (by omega)).trans (hk4 i hi)
   by_cases hn0 : (cNames p (Q.drop 1)).2 = 0
   ·rw [if_pos hn0] at hF
    rw [← hF]
    ((repeat(first|((with_reducible first|apply Wp.gs|apply Wp.cs|apply Wp.cselX|apply Wp.askT|apply Wp.iteKT|apply Wp.ikb|apply Wp.askb|apply Wp.step);case h=>((try simp(disch:=omega)only[↓reduceIte,ask_true,↓X0,X1,Nat.reduceEqDiff,Int.reduceEq,Nat.reduceAdd,Nat.reduceSub,hnt2,hn0,hs2']);with_reducible first|done|exact rfl|exact bT|exact bF))|apply Wp.andS|apply Wp.orS|with_reducible apply Wp.gu|simp only[↓X3]|simp(disch:=decide)only[asks_nil,asks_in,asks_out,askB_nil,askB_in,askB_out]|with_reducible apply Wp.assoc));try(with_reducible apply Wp.cargs;case h=>((try simp(disch:=omega)only[↓reduceIte,ask_true,↓X0,X1,Nat.reduceEqDiff,Int.reduceEq,Nat.reduceAdd,Nat.reduceSub,hnt2,hn0,hs2']);with_reducible exact rfl)))
    refine Wp.rtm3 (k92 hg (fun x hx => hE x (List.mem_of_mem_drop hx)) (h.mv (by omega) (hk5 c hcn) (hk5 il hil) (hk5 idd hdn)) (hv.mv (by omega) (fun i a _ _ => hk5 i a) (.inl rfl)) hvd (fun x hx => by have:=hr x (List.mem_of_mem_drop hx); omega) hnr.2 ((hun.lo (by omega) (by omega)).mv (by omega) (fun _ _ _ _ => rfl) (.inl rfl)) (LO.off (c:=c) (il:=il) hun (by omega)) (hw2.mv (by omega) (fun i a _ _ => hk5 i a) (.inl rfl)) (sliceV_off hs2 hwd2) (by rw [List.length_drop]; omega) hD) ?_
    rintro H6 n6 q6 s6 ⟨ul6,il6,ud6,idd6,i6,j6,h6⟩
    (repeat(first|((with_reducible first|apply Wp.gs|apply Wp.cs|apply Wp.cselX|apply Wp.askT|apply Wp.iteKT|apply Wp.ikb|apply Wp.askb|apply Wp.step);case h=>((try simp(disch:=omega)only[↓reduceIte,ask_true,↓X0,X1,Nat.reduceEqDiff,Int.reduceEq,Nat.reduceAdd,Nat.reduceSub]);with_reducible first|done|exact rfl|exact bT|exact bF))|apply Wp.andS|apply Wp.orS|with_reducible apply Wp.gu|simp only[↓X3]|simp(disch:=decide)only[asks_nil,asks_in,asks_out,askB_nil,askB_in,askB_out]|with_reducible apply Wp.assoc))
    exact Wp.pure ⟨by simp only; omega,fun i a b c d => (s6 i (by omega) b c d).trans (hk5 i a),rfl,ul6,il6,ud6,idd6,by omega,by omega,h6.mv (by simp only; omega) rfl rfl rfl⟩
   ·rw [if_neg hn0] at hF
    (repeat(first|((with_reducible first|apply Wp.gs|apply Wp.cs|apply Wp.cselX|apply Wp.askT|apply Wp.iteKT|apply Wp.ikb|apply Wp.askb|apply Wp.step);case h=>((try simp(disch:=omega)only[↓reduceIte,ask_true,↓X0,X1,Nat.reduceEqDiff,Int.reduceEq,Nat.reduceAdd,Nat.reduceSub,hnt2,hn0]);with_reducible first|done|exact rfl|exact bT|exact bF))|apply Wp.andS|apply Wp.orS|with_reducible apply Wp.gu|simp only[↓X3]|simp(disch:=decide)only[asks_nil,asks_in,asks_out,askB_nil,askB_in,askB_out]|with_reducible apply Wp.assoc))
    exact fin _ _ _ (by omega) hk5 (by omega) hF.symm
end Go.Proofs.Ytbgkimkbngocjaa.Ax
set_option linter.unusedVariables false
set_option linter.unusedSimpArgs false
set_option maxHeartbeats 8000000
namespace Go.Proofs.Ytbgkimkbngocjaa.Ax
open Go
theorem LO.nilS {α : Type} {E : Enc α} {c il n : Nat} {H : Hp} : LO E c il n H nilS ([] : List α):=⟨Li.nil,fun i o a k e => (by cases e),fun i o a k e => (by cases e)⟩
theorem k47 {v : Value} {p : List Nd} (hp : PoolOk p) {E : CEx} (hg : ∀ v e,Goes (E v e)) (hE : ∀ y : Int,0 ≤ y → y < (p.length : Int) → XC 123 v p true E y) {c il idd n : Nat} {H : Hp} {ul ud : Value} {s : CS} (h : DC c il idd n H v ul ud s) (hv : LO eNode c il n H v p) (hvd : Off idd v) (x : Int) (h0 : 0 ≤ x) (h1 : x < (p.length : Int)) (hD : s.D.length ≤ 1048576) : RtM3 Try.prog 47 [ptr c 0,.int .i64 x] c il idd H n (.tuple ⟨[]⟩) (fun H' n' => Next3 c il idd n n' H' v (cTop E p x s)):=by
 apply RtM3.of
 rw [c47]; unfold S47
 rw [show (⟨#[109,97,105,110]⟩ : ByteArray) = wMain from rfl,show (⟨#[100,101,102,105,110,101]⟩ : ByteArray) = wDefine from rfl]
 have hcc:=h.cc
 have hdn:=h.dn
 have hnc:=h.nc
 have hni:=h.ni
 have hcn:=hcc.cn
 have hil:=hcc.iln
 have hc:=hcc.hc
 have hpl:=hp.2
 have main : ∀ (m : Nat) (H0 : Hp),n ≤ m → (∀ i,i < n → H0 i = H i) → cTop E p x s = cDefine E wMain [] [x] s → Wp ((bsl (m + 2) 1 1 [.int .i64 0] [(0,1,.int .i64 x)] H0).bind fun p24 => (Call Try.prog 92 [ptr c 0,.string wMain,nilS,p24.1] p24.2 (m + 4)).bind fun q25 => some (Value.tuple ⟨[]⟩,q25.2.1,q25.2.2)) (fun q => n ≤ q.2.2 ∧ (∀ i,i < n → i ≠ c → i ≠ il → i ≠ idd → q.2.1 i = H i) ∧ q.1 = .tuple ⟨[]⟩ ∧ Next3 c il idd n q.2.2 q.2.1 v (cTop E p x s)):=by
  intro m H0 z1 z2 z3
  have hR : At eInt (m + 2) (H0.set (m + 2) (some (.row [.int .i64 x] 1 true))) (sl (m + 2) 0 1) [x]:=.inr ⟨rfl,Hp_same _ _ _⟩
  have hk : ∀ i,i < n → (H0.set (m + 2) (some (.row [.int .i64 x] 1 true))) i = H i:=fun i hi => by rw [Hp_ne _ _ (by omega)]; exact z2 i hi
  ((repeat(first|((with_reducible first|apply Wp.gs|apply Wp.cs|apply Wp.cselX|apply Wp.askT|apply Wp.iteKT|apply Wp.ikb|apply Wp.askb|apply Wp.step);case h=>((try simp(disch:=omega)only[↓reduceIte,ask_true,↓X0,X1,Nat.reduceEqDiff,Int.reduceEq,Nat.reduceAdd,Nat.reduceSub,bsl_i]);with_reducible first|done|exact rfl|exact bT|exact bF))|apply Wp.andS|apply Wp.orS|with_reducible apply Wp.gu|simp only[↓X3]|simp(disch:=decide)only[asks_nil,asks_in,asks_out,askB_nil,askB_in,askB_out]|with_reducible apply Wp.assoc));try(with_reducible apply Wp.cargs;case h=>((try simp(disch:=omega)only[↓reduceIte,ask_true,↓X0,X1,Nat.reduceEqDiff,Int.reduceEq,Nat.reduceAdd,Nat.reduceSub,bsl_i]);with_reducible exact rfl)))
  refine Wp.rtm3 (k92 hg (l:=[x]) (fun y hy => by simp at hy; rw [hy]; exact hE x h0 h1) (h.mv (by omega) (hk c hcn) (hk il hil) (hk idd hdn)) (hv.mv (by omega) (fun i a _ _ => hk i a) (.inl rfl)) hvd (fun y hy => by simp at hy; omega) (names:=[]) (by simp) LO.nilS (fun i o a k e => (by cases e)) (hR.lo (by omega) (by omega) (by omega)) (fun i o a k e => (by cases e; omega)) (by simp) hD) ?_
  rintro H2 n2 q2 s2 ⟨ul2,il2,ud2,idd2,i2,j2,h2⟩
  (repeat(first|((with_reducible first|apply Wp.gs|apply Wp.cs|apply Wp.cselX|apply Wp.askT|apply Wp.iteKT|apply Wp.ikb|apply Wp.askb|apply Wp.step);case h=>((try simp(disch:=omega)only[↓reduceIte,ask_true,↓X0,X1,Nat.reduceEqDiff,Int.reduceEq,Nat.reduceAdd,Nat.reduceSub]);with_reducible first|done|exact rfl|exact bT|exact bF))|apply Wp.andS|apply Wp.orS|with_reducible apply Wp.gu|simp only[↓X3]|simp(disch:=decide)only[asks_nil,asks_in,asks_out,askB_nil,askB_in,askB_out]|with_reducible apply Wp.assoc))
  refine Wp.pure ⟨by simp only; omega,fun i a b c d => (s2 i (by omega) b c d).trans (hk i a),rfl,?_⟩
  rw [z3]
  exact ⟨ul2,il2,ud2,idd2,by omega,by omega,h2.mv (by simp only; omega) rfl rfl rfl⟩
 have nodef : ¬ ((gi p x).k = 5 ∧ (chainOf p x).2 = true ∧ (gi p (gi (chainOf p x).1 0)).k = 4 ∧ (gi p (gi (chainOf p x).1 0)).s = wDefine) → cTop E p x s = cDefine E wMain [] [x] s:=fun hn => by
  unfold cTop isDefine; rw [decide_eq_false hn]; rfl
 ((repeat(first|((with_reducible first|apply Wp.gs|apply Wp.cs|apply Wp.cselX|apply Wp.askT|apply Wp.iteKT|apply Wp.ikb|apply Wp.askb|apply Wp.step);case h=>((try simp(disch:=omega)only[↓reduceIte,ask_true,↓X0,X1,Nat.reduceEqDiff,Int.reduceEq,Nat.reduceAdd,Nat.reduceSub,X2,Hp_ne,Nat.reduceLeDiff]);with_reducible first|done|exact rfl|exact bT|exact bF))|apply Wp.andS|apply Wp.orS|with_reducible apply Wp.gu|simp only[↓X3]|simp(disch:=decide)only[asks_nil,asks_in,asks_out,askB_nil,askB_in,askB_out]|with_reducible apply Wp.assoc));try(with_reducible apply Wp.cargs;case h=>((try simp(disch:=omega)only[↓reduceIte,ask_true,↓X0,X1,Nat.reduceEqDiff,Int.reduceEq,Nat.reduceAdd,Nat.reduceSub,X2,Hp_ne,Nat.reduceLeDiff]);with_reducible exact rfl)))
 refine Wp.rtn (k89 (o:=0) (hv.li.mv (by omega) (fun _ _ => rfl)) hp (by omega) hc rfl _ h0 h1) ?_
 rintro _ H2 n2 q2 s2 ⟨up,rfl,idp,p1,p2,p3⟩
 have hnt : notTup up = true:=by rcases p3 with ⟨h,_⟩ | ⟨h,_⟩ <;> rw [h] <;> rfl
 have hlu : lenV false up = some (.int .i64 (chainOf p x).1.length):=(p3.lst (n:=n2) p2).len
 have hceq:=chainOf_eq hp h0 h1
 by_cases hch : (chainOf p x).2 = true
 case neg =>
  (repeat(first|((with_reducible first|apply Wp.gs|apply Wp.cs|apply Wp.cselX|apply Wp.askT|apply Wp.iteKT|apply Wp.ikb|apply Wp.askb|apply Wp.step);case h=>((try simp(disch:=omega)only[↓reduceIte,ask_true,↓X0,X1,Nat.reduceEqDiff,Int.reduceEq,Nat.reduceAdd,Nat.reduceSub,hnt,show (chainOf p x).2 = false by simpa using hch]);with_reducible first|done|exact rfl|exact bT|exact bF))|apply Wp.andS|apply Wp.orS|with_reducible apply Wp.gu|simp only[↓X3]|simp(disch:=decide)only[asks_nil,asks_in,asks_out,askB_nil,askB_in,askB_out]|with_reducible apply Wp.assoc))
  exact main _ _ (by omega) (fun i hi => s2 i (by omega)) (nodef (fun h => hch h.2.1))
 by_cases k5 : (gi p x).k = 5
 case neg =>
  have hl0 : ¬ (0 : Int) < ((chainOf p x).1.length : Int):=by rw [hceq,if_neg k5]; simp
  (repeat(first|((with_reducible first|apply Wp.gs|apply Wp.cs|apply Wp.cselX|apply Wp.askT|apply Wp.iteKT|apply Wp.ikb|apply Wp.askb|apply Wp.step);case h=>((try simp(disch:=omega)only[↓reduceIte,ask_true,↓X0,X1,Nat.reduceEqDiff,Int.reduceEq,Nat.reduceAdd,Nat.reduceSub,hnt,hch,hlu,hl0]);with_reducible first|done|exact rfl|exact bT|exact bF))|apply Wp.andS|apply Wp.orS|with_reducible apply Wp.gu|simp only[↓X3]|simp(disch:=decide)only[asks_nil,asks_in,asks_out,askB_nil,askB_in,askB_out]|with_reducible apply Wp.assoc))
  exact main _ _ (by omega) (fun i hi => s2 i (by omega)) (nodef (fun h => k5 h.1))
 have hpos:=chainOf_pos hp h0 h1 k5
 have hmm:=chainOf_mem hp h0 h1
 have hcl:=chainOf_len h0 h1
 have hl0 : (0 : Int) < ((chainOf p x).1.length : Int):=by omega
 have m0:=gi_mem (l:=(chainOf p x).1) (i:=0) (by omega) (by omega)
 have r0:=hmm _ m0
 have gl:=(p3.lst (n:=n2) p2).iAll (i:=0) (by omega) (by omega)
 have hc2 : H2 c = some (.row [v,ul,ud,.int .i64 s.how] 0 true):=(s2 c (by omega)).trans hc
 ((repeat(first|((with_reducible first|apply Wp.gs|apply Wp.cs|apply Wp.cselX|apply Wp.askT|apply Wp.iteKT|apply Wp.ikb|apply Wp.askb|apply Wp.step);case h=>((try simp(disch:=omega)only[↓reduceIte,ask_true,↓X0,X1,Nat.reduceEqDiff,Int.reduceEq,Nat.reduceAdd,Nat.reduceSub,hnt,hch,hlu,hl0,gl]);with_reducible first|done|exact rfl|exact bT|exact bF))|apply Wp.andS|apply Wp.orS|with_reducible apply Wp.gu|simp only[↓X3]|simp(disch:=decide)only[asks_nil,asks_in,asks_out,askB_nil,askB_in,askB_out]|with_reducible apply Wp.assoc));try(with_reducible apply Wp.cargs;case h=>((try simp(disch:=omega)only[↓reduceIte,ask_true,↓X0,X1,Nat.reduceEqDiff,Int.reduceEq,Nat.reduceAdd,Nat.reduceSub,hnt,hch,hlu,hl0,gl]);with_reducible exact rfl)))
 refine Wp.rt (k90 (hv.li.mv (by omega) (fun i hi => s2 i (by omega))) hc2 (by omega) _ r0.1 (by omega)) ?_
 intro H3 n3 q3 s3
 have hk3 : ∀ i,i < n → H3 i = H i:=fun i hi => (s3 i (by omega)).trans (s2 i (by omega))
 by_cases k4 : (gi p (gi (chainOf p x).1 0)).k = 4
 case neg =>
  (repeat(first|((with_reducible first|apply Wp.gs|apply Wp.cs|apply Wp.cselX|apply Wp.askT|apply Wp.iteKT|apply Wp.ikb|apply Wp.askb|apply Wp.step);case h=>((try simp(disch:=omega)only[↓reduceIte,ask_true,↓X0,X1,Nat.reduceEqDiff,Int.reduceEq,Nat.reduceAdd,Nat.reduceSub,k4]);with_reducible first|done|exact rfl|exact bT|exact bF))|apply Wp.andS|apply Wp.orS|with_reducible apply Wp.gu|simp only[↓X3]|simp(disch:=decide)only[asks_nil,asks_in,asks_out,askB_nil,askB_in,askB_out]|with_reducible apply Wp.assoc))
  exact main _ _ (by omega) hk3 (nodef (fun h => k4 h.2.2.1))
 by_cases hd : (gi p (gi (chainOf p x).1 0)).s = wDefine
 case neg =>
  (repeat(first|((with_reducible first|apply Wp.gs|apply Wp.cs|apply Wp.cselX|apply Wp.askT|apply Wp.iteKT|apply Wp.ikb|apply Wp.askb|apply Wp.step);case h=>((try simp(disch:=omega)only[↓reduceIte,ask_true,↓X0,X1,Nat.reduceEqDiff,Int.reduceEq,Nat.reduceAdd,Nat.reduceSub,k4,hd]);with_reducible first|done|exact rfl|exact bT|exact bF))|apply Wp.andS|apply Wp.orS|with_reducible apply Wp.gu|simp only[↓X3]|simp(disch:=decide)only[asks_nil,asks_in,asks_out,askB_nil,askB_in,askB_out]|with_reducible apply Wp.assoc))
  exact main _ _ (by omega) hk3 (nodef (fun h => hd h.2.2.2))
 have hdef : cTop E p x s = cDefn E p (chainOf p x).1 s:=by unfold cTop isDefine; rw [decide_eq_true ⟨k5,hch,k4,hd⟩]; rfl
 ((repeat(first|((with_reducible first|apply Wp.gs|apply Wp.cs|apply Wp.cselX|apply Wp.askT|apply Wp.iteKT|apply Wp.ikb|apply Wp.askb|apply Wp.step);case h=>((try simp(disch:=omega)only[↓reduceIte,ask_true,↓X0,X1,Nat.reduceEqDiff,Int.reduceEq,Nat.reduceAdd,Nat.reduceSub,k4,hd,eq_self.{1}]);with_reducible first|done|exact rfl|exact bT|exact bF))|apply Wp.andS|apply Wp.orS|with_reducible apply Wp.gu|simp only[↓X3]|simp(disch:=decide)only[asks_nil,asks_in,asks_out,askB_nil,askB_in,askB_out]|with_reducible apply Wp.assoc));try(with_reducible apply Wp.cargs;case h=>((try simp(disch:=omega)only[↓reduceIte,ask_true,↓X0,X1,Nat.reduceEqDiff,Int.reduceEq,Nat.reduceAdd,Nat.reduceSub,k4,hd,eq_self.{1}]);with_reducible exact rfl)))
 have p3' : At eInt idp H3 up (chainOf p x).1:=p3.mv (s3 idp (by omega))
 refine Wp.rtm3 (k91 hp hg (l:=(chainOf p x).1) (fun y hy => hE y (hmm y hy).1 (by have:=hmm y hy; omega)) (h.mv (by omega) (hk3 c hcn) (hk3 il hil) (hk3 idd hdn)) (hv.mv (by omega) (fun i a _ _ => hk3 i a) (.inl rfl)) hvd (fun y hy => by have:=hmm y hy; omega) ((p3'.lo (n:=n3 + 5) (by omega) (by omega) (by omega)).mv (by omega) (fun _ _ _ _ => rfl) (.inl rfl)) (fun i o a k e => by rcases p3 with ⟨h,_⟩ | ⟨h,_⟩ <;> rw [h] at e <;> cases e; omega) (by omega) hD) ?_
 rintro H4 n4 q4 s4 ⟨ul4,il4,ud4,idd4,i4,j4,h4⟩
 (repeat(first|((with_reducible first|apply Wp.gs|apply Wp.cs|apply Wp.cselX|apply Wp.askT|apply Wp.iteKT|apply Wp.ikb|apply Wp.askb|apply Wp.step);case h=>((try simp(disch:=omega)only[↓reduceIte,ask_true,↓X0,X1,Nat.reduceEqDiff,Int.reduceEq,Nat.reduceAdd,Nat.reduceSub]);with_reducible first|done|exact rfl|exact bT|exact bF))|apply Wp.andS|apply Wp.orS|with_reducible apply Wp.gu|simp only[↓X3]|simp(disch:=decide)only[asks_nil,asks_in,asks_out,askB_nil,askB_in,askB_out]|with_reducible apply Wp.assoc))
 refine Wp.pure ⟨by simp only; omega,fun i a b c d => (s4 i (by omega) b c d).trans (hk3 i a),rfl,?_⟩
 rw [hdef]
 exact ⟨ul4,il4,ud4,idd4,by omega,by omega,h4.mv (by simp only; omega) rfl rfl rfl⟩
theorem cTop_D {E : CEx} (hg : ∀ v e,Goes (E v e)) (p : List Nd) (x : Int) (s : CS) : (cTop E p x s).D.length ≤ s.D.length + 1:=by
 have hf : ∀ h s,(cFail h s).D = s.D:=fun h s => (Goes.fail h s).2.2
 have hd : ∀ n ps b,(cDefine E n ps b s).D.length ≤ s.D.length + 1:=by
  intro n ps b
  unfold cDefine
  split
  ·rw [hf]; omega
  ·rw [(Goes.put _ _).2.2,(Goes.body hg _ _ _).2.2]; simp
 unfold cTop cDefn
 repeat' split
 all_goals first | exact hd _ _ _ | (rw [hf]; omega)
theorem k44 {c n : Nat} {H : Hp} {v : Value} {l : List Nd} (hv : Li eNode n H v l) (hl : l.length ≤ 1048576) (hc : H c = some (.row [v] 0 true)) (x : Int) : Rt Try.prog 44 [.int .i64 x,ptr c 0] H n (.bool !decide (0 ≤ x ∧ x < (l.length : Int))):=by
 apply Rt.mk
 rw [c44]; unfold S44
 ((repeat(first|((with_reducible first|apply Wp.gs|apply Wp.cs|apply Wp.cselX|apply Wp.askT|apply Wp.iteKT|apply Wp.ikb|apply Wp.askb|apply Wp.step);case h=>((try simp(disch:=omega)only[↓reduceIte,ask_true,↓X0,X1,Nat.reduceEqDiff,Int.reduceEq,Nat.reduceAdd,Nat.reduceSub,X2,Hp_ne,Nat.reduceLeDiff,hc]);with_reducible first|done|exact rfl|exact bT|exact bF))|apply Wp.andS|apply Wp.orS|with_reducible apply Wp.gu|simp only[↓X3]|simp(disch:=decide)only[asks_nil,asks_in,asks_out,askB_nil,askB_in,askB_out]|with_reducible apply Wp.assoc));try(with_reducible apply Wp.cargs;case h=>((try simp(disch:=omega)only[↓reduceIte,ask_true,↓X0,X1,Nat.reduceEqDiff,Int.reduceEq,Nat.reduceAdd,Nat.reduceSub,X2,Hp_ne,Nat.reduceLeDiff,hc]);with_reducible exact rfl)))
 refine Wp.rt (k45 (hv.mv (by omega) (by intros;first|with_reducible rfl|simp(disch:=omega)only[Hp_ne,Hp_same])) hl x) ?_
 intro H1 n1 q1 s1
 by_cases hx : 0 ≤ x ∧ x < (l.length : Int)
 ·(repeat(first|((with_reducible first|apply Wp.gs|apply Wp.cs|apply Wp.cselX|apply Wp.askT|apply Wp.iteKT|apply Wp.ikb|apply Wp.askb|apply Wp.step);case h=>((try simp(disch:=omega)only[↓reduceIte,ask_true,↓X0,X1,Nat.reduceEqDiff,Int.reduceEq,Nat.reduceAdd,Nat.reduceSub,hx.1,hx.2]);with_reducible first|done|exact rfl|exact bT|exact bF))|apply Wp.andS|apply Wp.orS|with_reducible apply Wp.gu|simp only[↓X3]|simp(disch:=decide)only[asks_nil,asks_in,asks_out,askB_nil,askB_in,askB_out]|with_reducible apply Wp.assoc)); exact Wp.pure ⟨by simp only; omega,(by intros;first|with_reducible rfl|simp(disch:=omega)only[Hp_ne,Hp_same,s1]),by rw [decide_eq_true hx]; rfl⟩
 ·(repeat(first|((with_reducible first|apply Wp.gs|apply Wp.cs|apply Wp.cselX|apply Wp.askT|apply Wp.iteKT|apply Wp.ikb|apply Wp.askb|apply Wp.step);case h=>((try simp(disch:=omega)only[↓reduceIte,ask_true,↓X0,X1,Nat.reduceEqDiff,Int.reduceEq,Nat.reduceAdd,Nat.reduceSub,hx]);with_reducible first|done|exact rfl|exact bT|exact bF))|apply Wp.andS|apply Wp.orS|with_reducible apply Wp.gu|simp only[↓X3]|simp(disch:=decide)only[asks_nil,asks_in,asks_out,askB_nil,askB_in,askB_out]|with_reducible apply Wp.assoc)); exact Wp.pure ⟨by simp only; omega,(by intros;first|with_reducible rfl|simp(disch:=omega)only[Hp_ne,Hp_same,s1]),by rw [decide_eq_false hx]; rfl⟩
theorem compAns_bad {p : List Nd} {l : List Int} (h : ¬ (PoolOk p ∧ inPool p l)) : compAns p l = ⟨[],[],[],3,0⟩:=by unfold compAns; rw [if_neg h]
theorem compAns_3 {p : List Nd} {l : List Int} (h : PoolOk p ∧ inPool p l) (h3 : (cAll p l 0 ⟨0,[],[]⟩).1.how = 3) : compAns p l = ⟨[],[],[],3,0⟩:=by unfold compAns; rw [if_pos h,if_neg (by omega),if_pos h3]
theorem compAns_e {p : List Nd} {l : List Int} (h : PoolOk p ∧ inPool p l) (h0 : (cAll p l 0 ⟨0,[],[]⟩).1.how ≠ 0) (h3 : (cAll p l 0 ⟨0,[],[]⟩).1.how ≠ 3) : compAns p l = ⟨[],[],[],(cAll p l 0 ⟨0,[],[]⟩).1.how,(cAll p l 0 ⟨0,[],[]⟩).2⟩:=by unfold compAns; rw [if_pos h,if_neg h0,if_neg h3]
theorem compAns_n {p : List Nd} {l : List Int} (h : PoolOk p ∧ inPool p l) (h0 : (cAll p l 0 ⟨0,[],[]⟩).1.how = 0) (h3 : ¬ CodeOk p (cAll p l 0 ⟨0,[],[]⟩).1.L (cAll p l 0 ⟨0,[],[]⟩).1.D) : compAns p l = ⟨[],[],[],3,0⟩:=by unfold compAns; rw [if_pos h,if_pos h0,if_neg h3]
theorem compAns_y {p : List Nd} {l : List Int} (h : PoolOk p ∧ inPool p l) (h0 : (cAll p l 0 ⟨0,[],[]⟩).1.how = 0) (h3 : CodeOk p (cAll p l 0 ⟨0,[],[]⟩).1.L (cAll p l 0 ⟨0,[],[]⟩).1.D) : compAns p l = ⟨p,(cAll p l 0 ⟨0,[],[]⟩).1.L,(cAll p l 0 ⟨0,[],[]⟩).1.D,0,l.length⟩:=by unfold compAns; rw [if_pos h,if_pos h0,if_pos h3]
def CompRes (n n' : Nat) (H' : Hp) (r : Value) (a : CA) : Prop:=∃ u ul ud,r = .tuple ⟨[.agg ⟨[u,ul,ud]⟩,.int .i64 a.how,.int .i64 a.at_]⟩ ∧ New3 n n' H' u ul ud a.p a.L a.D
theorem CompRes.none {n n' : Nat} {H' : Hp} (hn : n + 3 ≤ n') (h a : Int) : CompRes n n' H' (.tuple ⟨[.agg ⟨[nilS,nilS,nilS]⟩,.int .i64 h,.int .i64 a]⟩) ⟨[],[],[],h,a⟩ :=
 ⟨nilS,nilS,nilS,rfl,n,n + 1,n + 2,by omega,by omega,by omega,by omega,by omega,by omega,by omega,by omega,by omega,At.nil,At.nil,At.nil⟩
theorem bld_3n : bld [nilS,nilS,nilS] [] = some (.agg ⟨[nilS,nilS,nilS]⟩):=rfl
theorem l9 {v : Value} {p : List Nd} (hp : PoolOk p) {l : List Int} (hr : inPool p l) (hl : l.length ≤ 1048576) {c il0 idd0 b n0 : Nat} {H0 : Hp} {w : Value} (hD0 : DC c il0 idd0 n0 H0 v nilS nilS ⟨0,[],[]⟩) (hv : LO eNode c il0 n0 H0 v p) (hvd : Off idd0 v) (hw : LO eInt c il0 n0 H0 w l) (hwd : Off idd0 w) (hb : b < n0) (hbc : b ≠ c) (hbi : b ≠ il0) (hbd : b ≠ idd0) : ∀ t,t 4 = ptr b 0 → t 7 = ptr c 0 → t 24 = w → t 25 = .int .i64 l.length → t 26 = .int .i64 0 → t 1 = w → H0 b = some (.row [nilS,nilS,nilS] 0 true) →
  Wp (Loop (S9L0 (Call Try.prog) Loop) t H0 n0) (fun o => n0 ≤ o.n ∧ (∀ i,i < n0 → i ≠ c → i ≠ il0 → i ≠ idd0 → i ≠ b → o.H i = H0 i) ∧ o.H b = some (.row [nilS,nilS,nilS] 0 true) ∧ o.t 4 = ptr b 0 ∧ ((o.e = .exit 0 ∧ o.t 1 = w ∧ o.t 7 = ptr c 0 ∧ (cAll p l 0 ⟨0,[],[]⟩).1.how = 0 ∧ ∃ ul il ud idd,(il = il0 ∨ n0 ≤ il) ∧ (idd = idd0 ∨ n0 ≤ idd) ∧ DC c il idd o.n o.H v ul ud (cAll p l 0 ⟨0,[],[]⟩).1) ∨ (o.e = .ret ∧ (cAll p l 0 ⟨0,[],[]⟩).1.how ≠ 0 ∧ o.t 5 = .int .i64 (cAll p l 0 ⟨0,[],[]⟩).1.how ∧ o.t 6 = .int .i64 (if (cAll p l 0 ⟨0,[],[]⟩).1.how = 3 then 0 else (cAll p l 0 ⟨0,[],[]⟩).2)))):=by
 intro t e4 e7 e24 e25 e26 e1 hb0
 have hcn0:=hD0.cc.cn
 have hil0:=hD0.cc.iln
 have hdn0:=hD0.dn
 refine Loop_rule (fun d T H' n' => ∃ (j : Nat) (ul : Value) (il : Nat) (ud : Value) (idd : Nat) (s : CS),j + d = l.length ∧ n0 ≤ n' ∧ (∀ i,i < n0 → i ≠ c → i ≠ il0 → i ≠ idd0 → H' i = H0 i) ∧ (il = il0 ∨ n0 ≤ il) ∧ (idd = idd0 ∨ n0 ≤ idd) ∧ DC c il idd n' H' v ul ud s ∧ s.how = 0 ∧ s.D.length ≤ j ∧ cAll p l 0 ⟨0,[],[]⟩ = cAll p (l.drop j) j s ∧ T 1 = w ∧ T 4 = ptr b 0 ∧ T 7 = ptr c 0 ∧ T 24 = w ∧ T 25 = .int .i64 l.length ∧ T 26 = .int .i64 j) _ ?_ l.length t H0 n0 ⟨0,nilS,il0,nilS,idd0,⟨0,[],[]⟩,by omega,by omega,fun _ _ _ _ _ => rfl,.inl rfl,.inl rfl,hD0,rfl,by simp,by simp,e1,e4,e7,e24,e25,e26⟩
 rintro d T H' n' ⟨j,ul,il,ud,idd,s,hj,hn,s1,hil,hidd,hDC,h0,hDl,hall,e1,e4,e7,e24,e25,e26⟩
 unfold S9L0
 have hbH : H' b = some (.row [nilS,nilS,nilS] 0 true):=by rw [s1 b hb hbc hbi hbd]; exact hb0
 have hkeep : ∀ {α : Type} {E : Enc α} {w : Value} {l : List α},LO E c il0 n0 H0 w l → Off idd0 w → LO E c il n' H' w l ∧ Off idd w:=by
  intro α E w l hL hO
  refine ⟨⟨(hL.li.keep' fun i o a k e => s1 i (hL.li.2 i o a k e) (hL.oc i o a k e) (hL.oi i o a k e) (hO i o a k e)).up hn,hL.oc,?_⟩,?_⟩
  ·rcases hil with rfl | h
   ·exact hL.oi
   ·exact hL.li.off h
  ·rcases hidd with rfl | h
   ·exact hO
   ·exact hL.li.off h
 obtain ⟨hw',hwd'⟩:=hkeep hw hwd
 obtain ⟨hv',hvd'⟩:=hkeep hv hvd
 have hcn:=hDC.cc.cn
 have hiln:=hDC.cc.iln
 have hdn:=hDC.dn
 by_cases hlt : (j : Int) < l.length
 ·have hlt' : j < l.length:=by omega
  have g:=hw'.li.iAll (i:=(j : Int)) (by omega) hlt
  have hmem:=gi_mem (l:=l) (i:=(j : Int)) (by omega) hlt
  have hrj:=hr _ hmem
  have hws:=wj (j:=j) (len:=l.length) hlt' (by omega)
  have hdr : l.drop j = gi l (j : Int) :: l.drop (j + 1):=by rw [gi_nat hlt']; exact List.drop_eq_getElem_cons hlt'
  rw [hdr,cAll] at hall
  ((repeat(first|((with_reducible first|apply Wp.gs|apply Wp.cs|apply Wp.cselX|apply Wp.askT|apply Wp.iteKT|apply Wp.ikb|apply Wp.askb|apply Wp.step);case h=>((try simp(disch:=omega)only[↓reduceIte,ask_true,↓X0,X1,Nat.reduceEqDiff,Int.reduceEq,Nat.reduceAdd,Nat.reduceSub,e7,e24,e25,e26,hlt,g]);with_reducible first|done|exact rfl|exact bT|exact bF))|apply Wp.andS|apply Wp.orS|with_reducible apply Wp.gu|simp only[↓X3]|simp(disch:=decide)only[asks_nil,asks_in,asks_out,askB_nil,askB_in,askB_out]|with_reducible apply Wp.assoc));try(with_reducible apply Wp.cargs;case h=>((try simp(disch:=omega)only[↓reduceIte,ask_true,↓X0,X1,Nat.reduceEqDiff,Int.reduceEq,Nat.reduceAdd,Nat.reduceSub,e7,e24,e25,e26,hlt,g]);with_reducible exact rfl)))
  refine Wp.rtm3 (k47 hp (Goes.expr p p.length) (fun y y0 y1 => k123 hp p.length y y0 y1 y1) (hDC.mv (by omega) rfl rfl rfl) (hv'.mv (by omega) (fun _ _ _ _ => rfl) (.inl rfl)) hvd' _ hrj.1 hrj.2 (by omega)) ?_
  rintro H2 n2 q2 s2 ⟨ul2,il2,ud2,idd2,i2,j2,h2⟩
  have hDt:=cTop_D (Goes.expr p p.length) p (gi l (j : Int)) s
  generalize hS : cTop (cExpr p p.length) p (gi l (j : Int)) s = S at *
  have hc2:=h2.cc.hc
  have hr2:=h2.cc.hr
  have hb2 : H2 b = some (.row [nilS,nilS,nilS] 0 true):=by rw [s2 b (by omega) hbc (by omega) (by omega)]; exact hbH
  have hk2 : ∀ i,i < n0 → i ≠ c → i ≠ il0 → i ≠ idd0 → H2 i = H0 i:=fun i a b c d => by rw [s2 i (by omega) b (by omega) (by omega)]; exact s1 i a b c d
  by_cases hS0 : S.how = 0
  ·rw [if_pos hS0] at hall
   (repeat(first|((with_reducible first|apply Wp.gs|apply Wp.cs|apply Wp.cselX|apply Wp.askT|apply Wp.iteKT|apply Wp.ikb|apply Wp.askb|apply Wp.step);case h=>((try simp(disch:=omega)only[↓reduceIte,ask_true,↓X0,X1,Nat.reduceEqDiff,Int.reduceEq,Nat.reduceAdd,Nat.reduceSub,X2,Hp_ne,Nat.reduceLeDiff,e1,e4,e7,e26,hc2,hS0,show ¬ (0 : Int) = 1 by decide,show ¬ (0 : Int) = 2 by decide,show ¬ (0 : Int) = 3 by decide,hws]);with_reducible first|done|exact rfl|exact bT|exact bF))|apply Wp.andS|apply Wp.orS|with_reducible apply Wp.gu|simp only[↓X3]|simp(disch:=decide)only[asks_nil,asks_in,asks_out,askB_nil,askB_in,askB_out]|with_reducible apply Wp.assoc))
   exact Wp.pure (Nxt.go (d - 1) (by omega) ⟨j + 1,ul2,il2,ud2,idd2,S,by omega,by omega,hk2,by omega,by omega,h2.mv (by omega) rfl rfl rfl,hS0,by omega,hall,by simp [put_at,e1],by simp [put_at,e4],by simp [put_at,e7],by simp [put_at,e24],by simp [put_at,e25],by simp [put_at]⟩)
  ·rw [if_neg hS0] at hall
   have hst : st true 3 (ptr b 0) (.agg ⟨[nilS,nilS,nilS]⟩) H2 = some (H2.set b (some (.row [nilS,nilS,nilS] 0 true))):=by
    rw [st_agg,stv_box hb2]; rfl
   have hfr : ∀ i,i < n0 → i ≠ c → i ≠ il0 → i ≠ idd0 → i ≠ b → (H2.set b (some (.row [nilS,nilS,nilS] 0 true))) i = H0 i:=fun i a b c d e => by rw [Hp_ne _ _ e]; exact hk2 i a b c d
   have hcb : (H2.set b (some (.row [nilS,nilS,nilS] 0 true))) c = some (.row [v,ul2,ud2,.int .i64 S.how] 0 true):=(Hp_ne _ _ (Ne.symm hbc)).trans hc2
   by_cases hS1 : S.how = 1
   ·(repeat(first|((with_reducible first|apply Wp.gs|apply Wp.cs|apply Wp.cselX|apply Wp.askT|apply Wp.iteKT|apply Wp.ikb|apply Wp.askb|apply Wp.step);case h=>((try simp(disch:=omega)only[↓reduceIte,ask_true,↓X0,X1,Nat.reduceEqDiff,Int.reduceEq,Nat.reduceAdd,Nat.reduceSub,X2,Hp_ne,Nat.reduceLeDiff,e4,e7,e26,hc2,hS1,bld_3n,hst,hcb]);with_reducible first|done|exact rfl|exact bT|exact bF))|apply Wp.andS|apply Wp.orS|with_reducible apply Wp.gu|simp only[↓X3]|simp(disch:=decide)only[asks_nil,asks_in,asks_out,askB_nil,askB_in,askB_out]|with_reducible apply Wp.assoc))
    exact Wp.pure (Nxt.ret ⟨by simp only; omega,hfr,Hp_same _ _ _,by simp [put_at,e4],.inr ⟨rfl,by rw [hall]; exact hS0,by rw [hall]; simp [put_at,hS1],by rw [hall]; simp [put_at,hS1,e26]⟩⟩)
   ·by_cases hS2 : S.how = 2
    ·(repeat(first|((with_reducible first|apply Wp.gs|apply Wp.cs|apply Wp.cselX|apply Wp.askT|apply Wp.iteKT|apply Wp.ikb|apply Wp.askb|apply Wp.step);case h=>((try simp(disch:=omega)only[↓reduceIte,ask_true,↓X0,X1,Nat.reduceEqDiff,Int.reduceEq,Nat.reduceAdd,Nat.reduceSub,X2,Hp_ne,Nat.reduceLeDiff,e4,e7,e26,hc2,hS2,show ¬ (2 : Int) = 1 by decide,bld_3n,hst,hcb]);with_reducible first|done|exact rfl|exact bT|exact bF))|apply Wp.andS|apply Wp.orS|with_reducible apply Wp.gu|simp only[↓X3]|simp(disch:=decide)only[asks_nil,asks_in,asks_out,askB_nil,askB_in,askB_out]|with_reducible apply Wp.assoc))
     exact Wp.pure (Nxt.ret ⟨by simp only; omega,hfr,Hp_same _ _ _,by simp [put_at,e4],.inr ⟨rfl,by rw [hall]; exact hS0,by rw [hall]; simp [put_at,hS2],by rw [hall]; simp [put_at,hS2,e26]⟩⟩)
    ·have hS3 : S.how = 3:=by omega
     (repeat(first|((with_reducible first|apply Wp.gs|apply Wp.cs|apply Wp.cselX|apply Wp.askT|apply Wp.iteKT|apply Wp.ikb|apply Wp.askb|apply Wp.step);case h=>((try simp(disch:=omega)only[↓reduceIte,ask_true,↓X0,X1,Nat.reduceEqDiff,Int.reduceEq,Nat.reduceAdd,Nat.reduceSub,X2,Hp_ne,Nat.reduceLeDiff,e4,e7,e26,hc2,hS3,show ¬ (3 : Int) = 1 by decide,show ¬ (3 : Int) = 2 by decide,bld_3n,hst]);with_reducible first|done|exact rfl|exact bT|exact bF))|apply Wp.andS|apply Wp.orS|with_reducible apply Wp.gu|simp only[↓X3]|simp(disch:=decide)only[asks_nil,asks_in,asks_out,askB_nil,askB_in,askB_out]|with_reducible apply Wp.assoc))
     exact Wp.pure (Nxt.ret ⟨by simp only; omega,hfr,Hp_same _ _ _,by simp [put_at,e4],.inr ⟨rfl,by rw [hall]; exact hS0,by rw [hall]; simp [put_at,hS3],by rw [hall]; simp [put_at,hS3]⟩⟩)
 ·((repeat(first|((with_reducible first|apply Wp.gs|apply Wp.cs|apply Wp.cselX|apply Wp.askT|apply Wp.iteKT|apply Wp.ikb|apply Wp.askb|apply Wp.step);case h=>((try simp(disch:=omega)only[↓reduceIte,ask_true,↓X0,X1,Nat.reduceEqDiff,Int.reduceEq,Nat.reduceAdd,Nat.reduceSub,e25,e26,hlt]);with_reducible first|done|exact rfl|exact bT|exact bF))|apply Wp.andS|apply Wp.orS|with_reducible apply Wp.gu|simp only[↓X3]|simp(disch:=decide)only[asks_nil,asks_in,asks_out,askB_nil,askB_in,askB_out]|with_reducible apply Wp.assoc));try(with_reducible apply Wp.cargs;case h=>((try simp(disch:=omega)only[↓reduceIte,ask_true,↓X0,X1,Nat.reduceEqDiff,Int.reduceEq,Nat.reduceAdd,Nat.reduceSub,e25,e26,hlt]);with_reducible exact rfl)))
  rw [List.drop_eq_nil_of_le (by omega),cAll] at hall
  exact Wp.pure (Nxt.exit ⟨by simp only; omega,fun i a b c d _ => s1 i a b c d,hbH,by simp [put_at,e4],.inl ⟨rfl,by simp [put_at,e1],by simp [put_at,e7],by rw [hall]; exact h0,ul,il,ud,idd,hil,hidd,by rw [hall]; exact hDC.mv (by simp only; omega) rfl rfl rfl⟩⟩)
end Go.Proofs.Ytbgkimkbngocjaa.Ax
set_option linter.unusedVariables false
set_option linter.unusedSimpArgs false
set_option maxHeartbeats 8000000
namespace Go.Proofs.Ytbgkimkbngocjaa.Ax
open Go
theorem CC.withD {c il n : Nat} {H : Hp} {v ul ud : Value} {s : CS} (h : CC c il n H v ul ud s) (D : List Df) : CC c il n H v ul ud ⟨s.how,s.L,D⟩:=⟨h.hc,h.al,h.cn,h.iln,h.ne,h.len,h.hr⟩
abbrev NextW3 (c il idd n n' : Nat) (H' : Hp) (v : Value) (b : CS) : Prop:=∃ a,Wk a b ∧ Next3 c il idd n n' H' v a
theorem l95 {c il idd n0 : Nat} {H0 : Hp} {v ul ud : Value} {s : CS} (h : DC c il idd n0 H0 v ul ud s) (name : ByteArray) (wn w : Value) (hD : s.D.length ≤ 1048576) : ∀ t n,n0 ≤ n → t 0 = ptr c 0 → t 1 = .string name → t 2 = wn → t 3 = w → t 8 = .int .i64 0 →
  Wp (Loop (S95L0 (Call Try.prog) Loop) t H0 n) (fun o => n ≤ o.n ∧ (∀ i,i < n0 → i ≠ c → o.H i = H0 i) ∧ o.e = .exit 0 ∧ o.t 0 = ptr c 0 ∧ o.t 1 = .string name ∧ o.t 2 = wn ∧ o.t 3 = w ∧ DC c il idd o.n o.H v ul ud ⟨if s.how = 0 then (if hasDef name s.D = true then 2 else 0) else s.how,s.L,s.D⟩):=by
 intro t n hn e0 e1 e2 e3 e8
 obtain ⟨hcc,had,hdn,hnc,hni⟩:=h
 have hcn:=hcc.cn
 have hil:=hcc.iln
 have hne:=hcc.ne
 refine Loop_rule (fun d T H' n' => ∃ (j : Nat) (x : Int),j + d = s.D.length + 1 ∧ 1 ≤ d ∧ n ≤ n' ∧ (∀ i,i < n0 → i ≠ c → H' i = H0 i) ∧ CC c il n' H' v ul ud ⟨x,s.L,s.D⟩ ∧ T 0 = ptr c 0 ∧ T 1 = .string name ∧ T 2 = wn ∧ T 3 = w ∧ T 8 = .int .i64 j ∧ ((s.how ≠ 0 ∧ x = s.how) ∨ (s.how = 0 ∧ x = 0 ∧ hasDef name (s.D.take j) = false) ∨ (s.how = 0 ∧ x = 2 ∧ hasDef name s.D = true))) _ ?_ (s.D.length + 1) _ _ _ ⟨0,s.how,by omega,by omega,by omega,fun _ _ _ => rfl,(hcc.withD s.D).mv (by omega) rfl rfl,e0,e1,e2,e3,e8,by by_cases h0 : s.how = 0; exact .inr (.inl ⟨h0,h0,by simp [hasDef]⟩); exact .inl ⟨h0,rfl⟩⟩
 rintro d T H' n' ⟨j,x,hj,hd,hn',s1,hcc',e0,e1,e2,e3,e8,hx⟩
 unfold S95L0
 have hc:=hcc'.hc
 simp only at hc
 have hadl : Li eDef n' H' ud s.D:=(had.mv (s1 idd hdn hnc)).lst (by omega)
 have fin : ∀ T2 : Tm,T2 0 = ptr c 0 → T2 1 = .string name → T2 2 = wn → T2 3 = w → ∀ m,n' ≤ m → x = (if s.how = 0 then (if hasDef name s.D = true then 2 else 0) else s.how) → Wp (some (⟨.exit 0,T2,H',m⟩ : Out)) (Nxt (fun d T H' n' => ∃ (j : Nat) (x : Int),j + d = s.D.length + 1 ∧ 1 ≤ d ∧ n ≤ n' ∧ (∀ i,i < n0 → i ≠ c → H' i = H0 i) ∧ CC c il n' H' v ul ud ⟨x,s.L,s.D⟩ ∧ T 0 = ptr c 0 ∧ T 1 = .string name ∧ T 2 = wn ∧ T 3 = w ∧ T 8 = .int .i64 j ∧ ((s.how ≠ 0 ∧ x = s.how) ∨ (s.how = 0 ∧ x = 0 ∧ hasDef name (s.D.take j) = false) ∨ (s.how = 0 ∧ x = 2 ∧ hasDef name s.D = true))) d (fun o => n ≤ o.n ∧ (∀ i,i < n0 → i ≠ c → o.H i = H0 i) ∧ o.e = .exit 0 ∧ o.t 0 = ptr c 0 ∧ o.t 1 = .string name ∧ o.t 2 = wn ∧ o.t 3 = w ∧ DC c il idd o.n o.H v ul ud ⟨if s.how = 0 then (if hasDef name s.D = true then 2 else 0) else s.how,s.L,s.D⟩)):=by
  intro T2 t0 t1 t2 t3 m hm hxe
  refine Wp.pure (Nxt.exit ⟨by simp only; omega,s1,rfl,t0,t1,t2,t3,?_,had.mv (s1 idd hdn hnc),by simp only; omega,hnc,hni⟩)
  rw [← hxe]
  exact hcc'.mv (by simp only; omega) rfl rfl
 by_cases hlt : (j : Int) < s.D.length
 ·have hlt' : j < s.D.length:=by omega
  have g:=hadl.dAll (i:=(j : Int)) (by omega) hlt
  have hws:=wj (j:=j) (len:=s.D.length) hlt' (by omega)
  have htk : hasDef name (s.D.take (j + 1)) = (hasDef name (s.D.take j) || decide ((gi s.D (j : Int)).s = name)):=by
   unfold hasDef
   rw [take_next hlt',List.any_append,gi_nat hlt']; simp
  rcases hx with ⟨h0,rfl⟩ | ⟨h0,rfl,hno⟩ | ⟨h0,rfl,hyes⟩
  ·(repeat(first|((with_reducible first|apply Wp.gs|apply Wp.cs|apply Wp.cselX|apply Wp.askT|apply Wp.iteKT|apply Wp.ikb|apply Wp.askb|apply Wp.step);case h=>((try simp(disch:=omega)only[↓reduceIte,ask_true,↓X0,X1,Nat.reduceEqDiff,Int.reduceEq,Nat.reduceAdd,Nat.reduceSub,X2,Hp_ne,Nat.reduceLeDiff,e0,e1,e8,hc,hadl.len,hlt,h0]);with_reducible first|done|exact rfl|exact bT|exact bF))|apply Wp.andS|apply Wp.orS|with_reducible apply Wp.gu|simp only[↓X3]|simp(disch:=decide)only[asks_nil,asks_in,asks_out,askB_nil,askB_in,askB_out]|with_reducible apply Wp.assoc))
   exact fin _ (by simp [put_at,e0]) (by simp [put_at,e1]) (by simp [put_at,e2]) (by simp [put_at,e3]) _ (by omega) (by rw [if_neg h0])
  ·by_cases heq : (gi s.D (j : Int)).s = name
   ·have hst:=hcc'.st 2 rfl
    (repeat(first|((with_reducible first|apply Wp.gs|apply Wp.cs|apply Wp.cselX|apply Wp.askT|apply Wp.iteKT|apply Wp.ikb|apply Wp.askb|apply Wp.step);case h=>((try simp(disch:=omega)only[↓reduceIte,ask_true,↓X0,X1,Nat.reduceEqDiff,Int.reduceEq,Nat.reduceAdd,Nat.reduceSub,X2,Hp_ne,Nat.reduceLeDiff,e0,e1,e8,hc,hadl.len,hlt,g,heq,eq_self.{1},hst,hws]);with_reducible first|done|exact rfl|exact bT|exact bF))|apply Wp.andS|apply Wp.orS|with_reducible apply Wp.gu|simp only[↓X3]|simp(disch:=decide)only[asks_nil,asks_in,asks_out,askB_nil,askB_in,askB_out]|with_reducible apply Wp.assoc))
    refine Wp.pure (Nxt.go (d - 1) (by omega) ⟨j + 1,2,by omega,by omega,by omega,fun i a b => (Hp_ne _ _ b).trans (s1 i a b),hcc'.how 2 (by decide) (by omega) (Hp_same _ _ _) (Hp_ne _ _ hne),by simp [put_at,e0],by simp [put_at,e1],by simp [put_at,e2],by simp [put_at,e3],by simp [put_at],.inr (.inr ⟨h0,rfl,?_⟩)⟩)
    unfold hasDef
    rw [List.any_eq_true]
    exact ⟨_,gi_mem (l:=s.D) (i:=(j : Int)) (by omega) hlt,decide_eq_true heq⟩
   ·(repeat(first|((with_reducible first|apply Wp.gs|apply Wp.cs|apply Wp.cselX|apply Wp.askT|apply Wp.iteKT|apply Wp.ikb|apply Wp.askb|apply Wp.step);case h=>((try simp(disch:=omega)only[↓reduceIte,ask_true,↓X0,X1,Nat.reduceEqDiff,Int.reduceEq,Nat.reduceAdd,Nat.reduceSub,X2,Hp_ne,Nat.reduceLeDiff,e0,e1,e8,hc,hadl.len,hlt,g,heq,eq_self.{1},hws]);with_reducible first|done|exact rfl|exact bT|exact bF))|apply Wp.andS|apply Wp.orS|with_reducible apply Wp.gu|simp only[↓X3]|simp(disch:=decide)only[asks_nil,asks_in,asks_out,askB_nil,askB_in,askB_out]|with_reducible apply Wp.assoc))
    exact Wp.pure (Nxt.go (d - 1) (by omega) ⟨j + 1,0,by omega,by omega,by omega,s1,hcc'.mv (by omega) rfl rfl,by simp [put_at,e0],by simp [put_at,e1],by simp [put_at,e2],by simp [put_at,e3],by simp [put_at],.inr (.inl ⟨h0,rfl,by rw [htk,hno,decide_eq_false heq]; rfl⟩)⟩)
  ·(repeat(first|((with_reducible first|apply Wp.gs|apply Wp.cs|apply Wp.cselX|apply Wp.askT|apply Wp.iteKT|apply Wp.ikb|apply Wp.askb|apply Wp.step);case h=>((try simp(disch:=omega)only[↓reduceIte,ask_true,↓X0,X1,Nat.reduceEqDiff,Int.reduceEq,Nat.reduceAdd,Nat.reduceSub,X2,Hp_ne,Nat.reduceLeDiff,e0,e1,e8,hc,hadl.len,hlt,show ¬ (2 : Int) = 0 by decide]);with_reducible first|done|exact rfl|exact bT|exact bF))|apply Wp.andS|apply Wp.orS|with_reducible apply Wp.gu|simp only[↓X3]|simp(disch:=decide)only[asks_nil,asks_in,asks_out,askB_nil,askB_in,askB_out]|with_reducible apply Wp.assoc))
   exact fin _ (by simp [put_at,e0]) (by simp [put_at,e1]) (by simp [put_at,e2]) (by simp [put_at,e3]) _ (by omega) (by rw [if_pos h0,if_pos hyes])
 ·(repeat(first|((with_reducible first|apply Wp.gs|apply Wp.cs|apply Wp.cselX|apply Wp.askT|apply Wp.iteKT|apply Wp.ikb|apply Wp.askb|apply Wp.step);case h=>((try simp(disch:=omega)only[↓reduceIte,ask_true,↓X0,X1,Nat.reduceEqDiff,Int.reduceEq,Nat.reduceAdd,Nat.reduceSub,X2,Hp_ne,Nat.reduceLeDiff,e0,e8,hc,hadl.len,hlt]);with_reducible first|done|exact rfl|exact bT|exact bF))|apply Wp.andS|apply Wp.orS|with_reducible apply Wp.gu|simp only[↓X3]|simp(disch:=decide)only[asks_nil,asks_in,asks_out,askB_nil,askB_in,askB_out]|with_reducible apply Wp.assoc))
  refine fin _ (by simp [put_at,e0]) (by simp [put_at,e1]) (by simp [put_at,e2]) (by simp [put_at,e3]) _ (by omega) ?_
  rw [List.take_of_length_le (by omega)] at hx
  rcases hx with ⟨h0,rfl⟩ | ⟨h0,rfl,hno⟩ | ⟨h0,rfl,hyes⟩
  ·rw [if_neg h0]
  ·rw [if_pos h0,hno]; rfl
  ·rw [if_pos h0,if_pos hyes]
theorem k95 {v : Value} {p : List Nd} {E : CEx} {l : List Int} (hg : ∀ v e,Goes (E v e)) (hE : ∀ x ∈ l,XR 124 v p E x) {c il idd n : Nat} {H : Hp} {ul ud wn w : Value} {s : CS} {name : ByteArray} {names : List ByteArray} (h : DC c il idd n H v ul ud s) (hv : LO eNode c il n H v p) (hvd : Off idd v) (hex : ∀ x ∈ l,1 + x.toNat ≤ 90000) (hnl : names.length ≤ 4) (hwn : LO eStr c il n H wn names) (hwd : Off idd wn) (hw : LO eInt c il n H w l) (hwd2 : Off idd w) (hl : l.length ≤ 1000000) (hD : s.D.length ≤ 1048576) : RtM3 Try.prog 95 [ptr c 0,.string name,wn,w] c il idd H n (.tuple ⟨[]⟩) (fun H' n' => NextW3 c il idd n n' H' v (if s.how = 0 then cDefine E name names l s else s)):=by
 apply RtM3.of
 rw [c95]; unfold S95
 have hdn:=h.dn
 have hnc:=h.nc
 have hni:=h.ni
 have hcn:=h.cc.cn
 have hil:=h.cc.iln
 (repeat(first|((with_reducible first|apply Wp.gs|apply Wp.cs|apply Wp.cselX|apply Wp.askT|apply Wp.iteKT|apply Wp.ikb|apply Wp.askb|apply Wp.step);case h=>((try simp(disch:=omega)only[↓reduceIte,ask_true,↓X0,X1,Nat.reduceEqDiff,Int.reduceEq,Nat.reduceAdd,Nat.reduceSub]);with_reducible first|done|exact rfl|exact bT|exact bF))|apply Wp.andS|apply Wp.orS|with_reducible apply Wp.gu|simp only[↓X3]|simp(disch:=decide)only[asks_nil,asks_in,asks_out,askB_nil,askB_in,askB_out]|with_reducible apply Wp.assoc))
 refine Wp.bind (l95 h name wn w hD _ _ (by omega) (by simp [put_at,argsT_at]) (by simp [put_at,argsT_at]) (by simp [put_at,argsT_at]) (by simp [put_at,argsT_at]) (by simp [put_at])) ?_
 rintro ⟨oe,ot,oH,on⟩ ⟨f1,f2,rfl,e0,e1,e2,e3,f8⟩
 simp only at f1 f2 e0 e1 e2 e3 f8
 generalize hx : (if s.how = 0 then (if hasDef name s.D = true then 2 else 0) else s.how) = x at *
 obtain ⟨hcc,had,hdn1,_,_⟩:=f8
 have hc:=hcc.hc
 have hne:=hcc.ne
 have hcn1:=hcc.cn
 simp only at hc had
 have hlv : lenV false ul = some (.int .i64 s.L.length):=(hcc.al.lst hcc.iln).len
 have hb:=fun id => bsl_dc id (⟨name,s.L.length,names.length⟩ : Df)
 ((repeat(first|((with_reducible first|apply Wp.gs|apply Wp.cs|apply Wp.cselX|apply Wp.askT|apply Wp.iteKT|apply Wp.ikb|apply Wp.askb|apply Wp.step);case h=>((try simp(disch:=omega)only[↓reduceIte,ask_true,↓X0,X1,Nat.reduceEqDiff,Int.reduceEq,Nat.reduceAdd,Nat.reduceSub,X2,Hp_ne,Nat.reduceLeDiff,e0,e1,e2,e3,hc,hlv,hwn.li.len,bld_df,hb]);with_reducible first|done|exact rfl|exact bT|exact bF))|apply Wp.andS|apply Wp.orS|with_reducible apply Wp.gu|simp only[↓X3]|simp(disch:=decide)only[asks_nil,asks_in,asks_out,askB_nil,askB_in,askB_out]|with_reducible apply Wp.assoc));try(with_reducible apply Wp.cargs;case h=>((try simp(disch:=omega)only[↓reduceIte,ask_true,↓X0,X1,Nat.reduceEqDiff,Int.reduceEq,Nat.reduceAdd,Nat.reduceSub,X2,Hp_ne,Nat.reduceLeDiff,e0,e1,e2,e3,hc,hlv,hwn.li.len,bld_df,hb]);with_reducible exact rfl)))
 refine Wp.app1 (E:=eDef) (⟨name,s.L.length,names.length⟩ : Df) (had.mv (by intros;first|with_reducible rfl|simp(disch:=omega)only[Hp_ne,Hp_same])) (by omega) (by decide) (by omega) ?_
 intro H4 r1 r2
 have hc4 : H4 c = some (.row [v,ul,ud,.int .i64 x] 0 true):=by simp (disch:=omega) only [r2,Hp_ne,hc]
 have hst:=st_cset (o:=2) (v:=sl (on + 15) 0 (s.D ++ [(⟨name,s.L.length,names.length⟩ : Df)]).length) hc4 (by simp) rfl
 simp only [List.set_cons_succ,List.set_cons_zero] at hst
 generalize hu2 : sl (on + 15) 0 (s.D ++ [(⟨name,s.L.length,names.length⟩ : Df)]).length = u2 at *
 ((repeat(first|((with_reducible first|apply Wp.gs|apply Wp.cs|apply Wp.cselX|apply Wp.askT|apply Wp.iteKT|apply Wp.ikb|apply Wp.askb|apply Wp.step);case h=>((try simp(disch:=omega)only[↓reduceIte,ask_true,↓X0,X1,Nat.reduceEqDiff,Int.reduceEq,Nat.reduceAdd,Nat.reduceSub,X2,Hp_ne,Nat.reduceLeDiff,e0,e1,e2,e3,hst,bsl_v _ wn hwn.li.c1]);with_reducible first|done|exact rfl|exact bT|exact bF))|apply Wp.andS|apply Wp.orS|with_reducible apply Wp.gu|simp only[↓X3]|simp(disch:=decide)only[asks_nil,asks_in,asks_out,askB_nil,askB_in,askB_out]|with_reducible apply Wp.assoc));try(with_reducible apply Wp.cargs;case h=>((try simp(disch:=omega)only[↓reduceIte,ask_true,↓X0,X1,Nat.reduceEqDiff,Int.reduceEq,Nat.reduceAdd,Nat.reduceSub,X2,Hp_ne,Nat.reduceLeDiff,e0,e1,e2,e3,hst,bsl_v _ wn hwn.li.c1]);with_reducible exact rfl)))
 generalize hG : (H4.set c _).set (on + 22) _ = G
 have hk : ∀ i,i < n → i ≠ c → i ≠ il → i ≠ idd → G i = H i:=fun i a b c d => by
  rw [← hG]; simp (disch:=omega) only [Hp_ne,r2,f2]
 have hGc : G c = some (.row [v,ul,u2,.int .i64 x] 0 true):=by rw [← hG]; simp (disch:=omega) only [Hp_ne,Hp_same]
 have hGd : At eDef (on + 15) G u2 (s.D ++ [(⟨name,s.L.length,names.length⟩ : Df)]):=by
  rw [← hu2]; refine .inr ⟨rfl,?_⟩
  rw [← hG]; simp (disch:=omega) only [Hp_ne,r1]
 have hGe : At eVl (on + 22) G (sl (on + 22) 0 1) [wn]:=.inr ⟨rfl,by rw [← hG]; exact Hp_same _ _ _⟩
 have hGil : G il = oH il:=by rw [← hG]; simp (disch:=omega) only [Hp_ne,r2]
 have hwnG : LO eStr c il (on + 24) G wn names:=⟨(hwn.li.keep' fun i o a k e => hk i (hwn.li.2 i o a k e) (hwn.oc i o a k e) (hwn.oi i o a k e) (hwd i o a k e)).up (by omega),hwn.oc,hwn.oi⟩
 have hwG : LO eInt c il (on + 24) G w l:=⟨(hw.li.keep' fun i o a k e => hk i (hw.li.2 i o a k e) (hw.oc i o a k e) (hw.oi i o a k e) (hwd2 i o a k e)).up (by omega),hw.oc,hw.oi⟩
 have hvG : LO eNode c il (on + 24) G v p:=⟨(hv.li.keep' fun i o a k e => hk i (hv.li.2 i o a k e) (hv.oc i o a k e) (hv.oi i o a k e) (hvd i o a k e)).up (by omega),hv.oc,hv.oi⟩
 have hev : EV c il (on + 24) G (sl (on + 22) 0 1) ([] ++ [names]):=EV.snoc (ws:=[]) hGe (by omega) (by omega) (by omega) rfl (fun i h1 _ => by simp at h1) hwnG
 have hCC : CC c il (on + 24) G v ul u2 ⟨x,s.L,s.D ++ [(⟨name,s.L.length,names.length⟩ : Df)]⟩:=⟨hGc,hcc.al.mv hGil,by omega,by omega,hne,hcc.len,hcc.hr⟩
 ((repeat(first|((with_reducible first|apply Wp.gs|apply Wp.cs|apply Wp.cselX|apply Wp.askT|apply Wp.iteKT|apply Wp.ikb|apply Wp.askb|apply Wp.step);case h=>((try simp(disch:=omega)only[↓reduceIte,ask_true,↓X0,X1,Nat.reduceEqDiff,Int.reduceEq,Nat.reduceAdd,Nat.reduceSub,e0,e3]);with_reducible first|done|exact rfl|exact bT|exact bF))|apply Wp.andS|apply Wp.orS|with_reducible apply Wp.gu|simp only[↓X3]|simp(disch:=decide)only[asks_nil,asks_in,asks_out,askB_nil,askB_in,askB_out]|with_reducible apply Wp.assoc));try(with_reducible apply Wp.cargs;case h=>((try simp(disch:=omega)only[↓reduceIte,ask_true,↓X0,X1,Nat.reduceEqDiff,Int.reduceEq,Nat.reduceAdd,Nat.reduceSub,e0,e3]);with_reducible exact rfl)))
 refine Wp.rta (k116 hg hE hCC hvG (e:=[names]) ⟨by simp,fun f hf => by simp at hf; rw [hf]; exact hnl⟩ (fun x hx => by have:=hex x hx; simpa using this) hev hwG hl) ?_
 rintro _ H5 n5 q5 s5 ⟨rfl,A5,w5,ul5,il5,i5,h5⟩
 have hB:=Goes.body hg [names] l ⟨x,s.L,s.D ++ [(⟨name,s.L.length,names.length⟩ : Df)]⟩
 have hcn5:=h5.cn
 have hiln5:=h5.iln
 ((repeat(first|((with_reducible first|apply Wp.gs|apply Wp.cs|apply Wp.cselX|apply Wp.askT|apply Wp.iteKT|apply Wp.ikb|apply Wp.askb|apply Wp.step);case h=>((try simp(disch:=omega)only[↓reduceIte,ask_true,↓X0,X1,Nat.reduceEqDiff,Int.reduceEq,Nat.reduceAdd,Nat.reduceSub,e0,bld_ins1]);with_reducible first|done|exact rfl|exact bT|exact bF))|apply Wp.andS|apply Wp.orS|with_reducible apply Wp.gu|simp only[↓X3]|simp(disch:=decide)only[asks_nil,asks_in,asks_out,askB_nil,askB_in,askB_out]|with_reducible apply Wp.assoc));try(with_reducible apply Wp.cargs;case h=>((try simp(disch:=omega)only[↓reduceIte,ask_true,↓X0,X1,Nat.reduceEqDiff,Int.reduceEq,Nat.reduceAdd,Nat.reduceSub,e0,bld_ins1]);with_reducible exact rfl)))
 refine Wp.rta (k117 (h5.mv (by omega) rfl rfl) (insOf 8 0 0)) ?_
 rintro _ H6 n6 q6 s6 ⟨rfl,ul6,il6,i6,h6⟩
 have w6 : Wk (cPut (insOf 8 0 0) A5) (cPut (insOf 8 0 0) (cBody E [names] l ⟨x,s.L,s.D ++ [(⟨name,s.L.length,names.length⟩ : Df)]⟩)):=w5.step (Goes.put _) (Wk.refl _)
 have hP:=Goes.put (insOf 8 0 0) (cBody E [names] l ⟨x,s.L,s.D ++ [(⟨name,s.L.length,names.length⟩ : Df)]⟩)
 generalize hM : cPut (insOf 8 0 0) (cBody E [names] l ⟨x,s.L,s.D ++ [(⟨name,s.L.length,names.length⟩ : Df)]⟩) = M at *
 have hMD : M.D = s.D ++ [(⟨name,s.L.length,names.length⟩ : Df)]:=by rw [hP.2.2,hB.2.2]
 generalize cPut (insOf 8 0 0) A5 = A6 at *
 (repeat(first|((with_reducible first|apply Wp.gs|apply Wp.cs|apply Wp.cselX|apply Wp.askT|apply Wp.iteKT|apply Wp.ikb|apply Wp.askb|apply Wp.step);case h=>((try simp(disch:=omega)only[↓reduceIte,ask_true,↓X0,X1,Nat.reduceEqDiff,Int.reduceEq,Nat.reduceAdd,Nat.reduceSub]);with_reducible first|done|exact rfl|exact bT|exact bF))|apply Wp.andS|apply Wp.orS|with_reducible apply Wp.gu|simp only[↓X3]|simp(disch:=decide)only[asks_nil,asks_in,asks_out,askB_nil,askB_in,askB_out]|with_reducible apply Wp.assoc))
 refine Wp.pure ⟨by simp only; omega,fun i a b c d => ?_,rfl,⟨A6.how,A6.L,s.D ++ [(⟨name,s.L.length,names.length⟩ : Df)]⟩,?_,ul6,il6,u2,on + 15,by omega,.inr (by omega),(h6.withD _).mv (by simp only; omega) rfl rfl,?_,by simp only; omega,by omega,by omega⟩
 ·show H6 i = H i
  rw [s6 i (by omega) b (by omega),s5 i (by omega) b (by omega)]
  exact hk i a b c d
 ·have hA : Wk ⟨A6.how,A6.L,s.D ++ [(⟨name,s.L.length,names.length⟩ : Df)]⟩ M:=by
   refine ⟨w6.1,fun h => ?_⟩
   rw [w6.2 h,← hMD]
  by_cases h0 : s.how = 0
  ·rw [if_pos h0] at hx ⊢
   unfold cDefine
   by_cases hd : hasDef name s.D = true
   ·rw [if_pos hd] at hx ⊢
    subst hx
    have e1 : M = ⟨2,s.L,s.D ++ [(⟨name,s.L.length,names.length⟩ : Df)]⟩:=by
     rw [← hM,hB.1 (by show (2 : Int) ≠ 0; decide),cPut_how (by show (2 : Int) ≠ 0; decide)]
    have e2 : cFail 2 s = ⟨2,s.L,s.D⟩:=by unfold cFail; rw [if_pos h0]
    rw [e1] at hA
    rw [e2]
    exact ⟨hA.1,fun h => by simp at h⟩
   ·rw [if_neg hd] at hx ⊢
    subst hx
    rw [h0,hM]
    exact hA
  ·rw [if_neg h0] at hx ⊢
   subst hx
   have e1 : M = ⟨s.how,s.L,s.D ++ [(⟨name,s.L.length,names.length⟩ : Df)]⟩:=by
    rw [← hM,hB.1 h0]; exact cPut_how h0
   rw [e1] at hA
   exact ⟨hA.1,fun h => absurd h h0⟩
 ·exact hGd.mv (by show H6 (on + 15) = G (on + 15); rw [s6 _ (by omega) (by omega) (by omega),s5 _ (by omega) (by omega) (by omega)])
end Go.Proofs.Ytbgkimkbngocjaa.Ax
