/- What the law needs: laws of the abstract machine, and contracts of functions. -/
import Derived.Test.YtbgkimkbngocjaaM6
import Derived.Test.YtbgkimkbngocjaaM8
import Derived.Test.YtbgkimkbngocjaaM2
import Derived.Test.YtbgkimkbngocjaaM3
set_option linter.unusedVariables false
set_option linter.unusedSimpArgs false
set_option maxHeartbeats 8000000
namespace Go.Proofs.Ytbgkimkbngocjaa.Ax
open Go
theorem cExpr_leaf {p : List Nd} {k : Nat} {v : Int} {e : Env} {s : CS} (h0 : s.how = 0) (h : (gi p v).k = 1 ∨ (gi p v).k = 2 ∨ (gi p v).k = 3) : cExpr p (k + 1) v e s = cPut (insOf 1 v 0) s:=by rw [cExpr,if_pos h0,if_pos h]
theorem cExpr_sym {p : List Nd} {k : Nat} {v : Int} {e : Env} {s : CS} (h0 : s.how = 0) (h : (gi p v).k = 4) : cExpr p (k + 1) v e s = if special (gi p v).s = true then cFail 1 s else cPut (varIns (gi p v).s e) s:=by
 rw [cExpr,if_pos h0,if_neg (by omega)]; exact if_pos h
theorem cExpr_bad {p : List Nd} {k : Nat} {v : Int} {e : Env} {s : CS} (h0 : s.how = 0) (h1 : ¬ ((gi p v).k = 1 ∨ (gi p v).k = 2 ∨ (gi p v).k = 3)) (h4 : (gi p v).k ≠ 4) (h : ¬ ((gi p v).k = 5 ∧ (chainOf p v).2 = true)) : cExpr p (k + 1) v e s = cFail 1 s:=by
 rw [cExpr,if_pos h0,if_neg h1,if_neg h4,if_neg h]
theorem cExpr_pair {p : List Nd} {k : Nat} {v : Int} {e : Env} {s : CS} (h0 : s.how = 0) (h : (gi p v).k = 5) (h2 : (chainOf p v).2 = true) : cExpr p (k + 1) v e s = if (gi p (gi (chainOf p v).1 0)).k = 4 ∧ special (gi p (gi (chainOf p v).1 0)).s = true then cForm (cExpr p k) p (gi p (gi (chainOf p v).1 0)).s (chainOf p v).1 e s else if 5 < (chainOf p v).1.length then cFail 1 s else cPut (insOf 7 0 ((chainOf p v).1.length - 1)) ((chainOf p v).1.foldl (fun s x => cExpr p k x e s) s):=by
 rw [cExpr,if_pos h0,if_neg (by omega),if_neg (by omega),if_pos ⟨h,h2⟩]
theorem l123 {v : Value} {p : List Nd} {E : CEx} {l : List Int} (hE : ∀ x ∈ l,XC 123 v p true E x) {c il n : Nat} {H : Hp} {ul ud w ew : Value} {s : CS} {e : Env} (h : CC c il n H v ul ud s) (hv : LO eNode c il n H v p) (he : EnvOk e) (hex : ∀ x ∈ l,e.length + x.toNat ≤ 90000) (hev : EV c il n H ew e.reverse) (hw : LO eInt c il n H w l) (hl : l.length ≤ 1000000) : ∀ t n1,n ≤ n1 → t 0 = ptr c 0 → t 2 = ew → t 7 = w → t 69 = w → t 70 = .int .i64 l.length → t 71 = .int .i64 0 →
  Wp (Loop (S123L0 (Call Try.prog) Loop) t H n1) (fun o => n ≤ o.n ∧ Kept c il n H o.H ∧ o.e = .exit 2 ∧ Next c il n o.n o.H v ud (l.foldl (fun s x => E x e s) s) ∧ o.t 0 = ptr c 0 ∧ o.t 7 = w):=by
 intro t n1 hn1 e0 e2 e7 e69 e70 e71
 have hcn:=h.cn
 have hil:=h.iln
 refine Loop_rule (fun d T H' n' => ∃ (j : Nat) (ul' : Value) (il' : Nat),j + d = l.length ∧ n ≤ n' ∧ Kept c il n H H' ∧ (il' = il ∨ n ≤ il') ∧ CC c il' n' H' v ul' ud ((l.take j).foldl (fun s x => E x e s) s) ∧ T 0 = ptr c 0 ∧ T 2 = ew ∧ T 7 = w ∧ T 69 = w ∧ T 70 = .int .i64 l.length ∧ T 71 = .int .i64 j) _ ?_ l.length _ _ _ ⟨0,ul,il,by omega,hn1,fun _ _ _ _ => rfl,.inl rfl,h.mv (by omega) rfl rfl,e0,e2,e7,e69,e70,e71⟩
 rintro d T H' n' ⟨j,ul',il',hj,hn,s1,hi',h',e0,e2,e7,e69,e70,e71⟩
 unfold S123L0
 by_cases hlt : (j : Int) < l.length
 ·have hlt' : j < l.length:=by omega
  have hw':=hw.mv hn s1 hi'
  have hev':=hev.mv hn s1 hi'
  have hv':=hv.mv hn s1 hi'
  have g:=hw'.li.iAll (i:=(j : Int)) (by omega) hlt
  have hmem:=gi_mem (l:=l) (i:=(j : Int)) (by omega) hlt
  have hws:=wj (j:=j) (len:=l.length) hlt' (by omega)
  have hcn':=h'.cn
  have hil':=h'.iln
  ((repeat(first|((with_reducible first|apply Wp.gs|apply Wp.cs|apply Wp.cselX|apply Wp.askT|apply Wp.iteKT|apply Wp.ikb|apply Wp.askb|apply Wp.step);case h=>((try simp(disch:=omega)only[↓reduceIte,ask_true,↓X0,X1,Nat.reduceEqDiff,Int.reduceEq,Nat.reduceAdd,Nat.reduceSub,e0,e2,e69,e70,e71,hlt,g]);with_reducible first|done|exact rfl|exact bT|exact bF))|apply Wp.andS|apply Wp.orS|with_reducible apply Wp.gu|simp only[↓X3]|simp(disch:=decide)only[asks_nil,asks_in,asks_out,askB_nil,askB_in,askB_out]|with_reducible apply Wp.assoc));try(with_reducible apply Wp.cargs;case h=>((try simp(disch:=omega)only[↓reduceIte,ask_true,↓X0,X1,Nat.reduceEqDiff,Int.reduceEq,Nat.reduceAdd,Nat.reduceSub,e0,e2,e69,e70,e71,hlt,g]);with_reducible exact rfl)))
  refine Wp.rta (hE _ hmem c il' _ _ ul' ud ew _ e (h'.mv (by omega) rfl rfl) (hv'.mv (by omega) (fun i a b c => rfl) (.inl rfl)) he (hex _ hmem) (hev'.mv (by omega) (fun i a b c => rfl) (.inl rfl))) ?_
  rintro _ H3 n3 q3 s3 ⟨rfl,ul3,il3,j1,j2⟩
  (repeat(first|((with_reducible first|apply Wp.gs|apply Wp.cs|apply Wp.cselX|apply Wp.askT|apply Wp.iteKT|apply Wp.ikb|apply Wp.askb|apply Wp.step);case h=>((try simp(disch:=omega)only[↓reduceIte,ask_true,↓X0,X1,Nat.reduceEqDiff,Int.reduceEq,Nat.reduceAdd,Nat.reduceSub,e71,hws]);with_reducible first|done|exact rfl|exact bT|exact bF))|apply Wp.andS|apply Wp.orS|with_reducible apply Wp.gu|simp only[↓X3]|simp(disch:=decide)only[asks_nil,asks_in,asks_out,askB_nil,askB_in,askB_out]|with_reducible apply Wp.assoc))
  refine Wp.pure (Nxt.go (d - 1) (by omega) ⟨j + 1,ul3,il3,by omega,by omega,fun i a b c => by rw [s3 i (by omega) b (by omega)]; exact s1 i a b c,by omega,?_,by simp [put_at,e0],by simp [put_at,e2],by simp [put_at,e7],by simp [put_at,e69],by simp [put_at,e70],by simp [put_at]⟩)
  rw [take_next hlt',List.foldl_append,List.foldl_cons,List.foldl_nil,← gi_nat hlt']
  exact j2.mv (by omega) rfl rfl
 ·((repeat(first|((with_reducible first|apply Wp.gs|apply Wp.cs|apply Wp.cselX|apply Wp.askT|apply Wp.iteKT|apply Wp.ikb|apply Wp.askb|apply Wp.step);case h=>((try simp(disch:=omega)only[↓reduceIte,ask_true,↓X0,X1,Nat.reduceEqDiff,Int.reduceEq,Nat.reduceAdd,Nat.reduceSub,e70,e71,hlt]);with_reducible first|done|exact rfl|exact bT|exact bF))|apply Wp.andS|apply Wp.orS|with_reducible apply Wp.gu|simp only[↓X3]|simp(disch:=decide)only[asks_nil,asks_in,asks_out,askB_nil,askB_in,askB_out]|with_reducible apply Wp.assoc));try(with_reducible apply Wp.cargs;case h=>((try simp(disch:=omega)only[↓reduceIte,ask_true,↓X0,X1,Nat.reduceEqDiff,Int.reduceEq,Nat.reduceAdd,Nat.reduceSub,e70,e71,hlt]);with_reducible exact rfl)))
  rw [List.take_of_length_le (by omega)] at h'
  exact Wp.pure (Nxt.exit ⟨by simp only; omega,s1,rfl,⟨ul',il',hi',h'.mv (by simp only; omega) rfl rfl⟩,by simp [put_at,e0],by simp [put_at,e7]⟩)
theorem k123 {v : Value} {p : List Nd} (hp : PoolOk p) : ∀ (k : Nat) (x : Int),0 ≤ x → x < (p.length : Int) → x < k → XC 123 v p true (cExpr p k) x
 | 0,x,h0,h1,hk => by omega
 | k + 1,x,h0,h1,hk => by
  intro c il n H ul ud ew s e h hv he hex hev
  have ih:=fun (y : Int) (y0 : 0 ≤ y) (y1 : y < x) => k123 (v:=v) hp k y y0 (by omega) (by omega)
  apply RtA.of
  rw [c123]; unfold S123
  have hcn:=h.cn
  have hil:=h.iln
  have hc:=h.hc
  have hpl:=hp.2
  by_cases hh : s.how = 0
  case neg =>
   have e1 : cExpr p (k + 1) x e s = s:=(Goes.expr p (k + 1) x e s).1 hh
   (repeat(first|((with_reducible first|apply Wp.gs|apply Wp.cs|apply Wp.cselX|apply Wp.askT|apply Wp.iteKT|apply Wp.ikb|apply Wp.askb|apply Wp.step);case h=>((try simp(disch:=omega)only[↓reduceIte,ask_true,↓X0,X1,Nat.reduceEqDiff,Int.reduceEq,Nat.reduceAdd,Nat.reduceSub,X2,Hp_ne,Nat.reduceLeDiff,hc,hh]);with_reducible first|done|exact rfl|exact bT|exact bF))|apply Wp.andS|apply Wp.orS|with_reducible apply Wp.gu|simp only[↓X3]|simp(disch:=decide)only[asks_nil,asks_in,asks_out,askB_nil,askB_in,askB_out]|with_reducible apply Wp.assoc))
   exact Wp.pure ⟨by simp only; omega,(by intros;first|with_reducible rfl|simp(disch:=omega)only[Hp_ne,Hp_same]),rfl,ul,il,.inl rfl,by rw [e1]; exact h.mv (by simp only; omega) rfl rfl⟩
  have g:=hv.li.nAll (i:=x) h0 h1
  have fin : ∀ (H2 : Hp) (n2 : Nat) (S : CS),n ≤ n2 → Kept c il n H H2 → Next c il n n2 H2 v ud S → S = cExpr p (k + 1) x e s → Wp (some (Value.tuple ⟨[]⟩,H2,n2)) (fun q => n ≤ q.2.2 ∧ (∀ i,i < n → i ≠ c → i ≠ il → q.2.1 i = H i) ∧ q.1 = .tuple ⟨[]⟩ ∧ Next c il n q.2.2 q.2.1 v ud (cExpr p (k + 1) x e s)):=by
   intro H2 n2 S z1 z2 z3 z4
   exact Wp.pure ⟨z1,z2,rfl,by rw [← z4]; exact z3⟩
  have leaf:=cExpr_leaf (p:=p) (k:=k) (v:=x) (e:=e) hh
  have sym:=cExpr_sym (p:=p) (k:=k) (v:=x) (e:=e) hh
  have bad:=cExpr_bad (p:=p) (k:=k) (v:=x) (e:=e) hh
  have pair:=cExpr_pair (p:=p) (k:=k) (v:=x) (e:=e) hh
  have hpos:=chainOf_pos hp h0 h1
  generalize cExpr p (k + 1) x e s = F at *
  generalize hx : gi p x = X at *
  obtain ⟨xk,xn,xs,xa,xb⟩:=X
  simp only [Nd.cells] at g leaf sym bad pair hpos
  by_cases c2 : xk = 2
  ·subst c2
   ((repeat(first|((with_reducible first|apply Wp.gs|apply Wp.cs|apply Wp.cselX|apply Wp.askT|apply Wp.iteKT|apply Wp.ikb|apply Wp.askb|apply Wp.step);case h=>((try simp(disch:=omega)only[↓reduceIte,ask_true,↓X0,X1,Nat.reduceEqDiff,Int.reduceEq,Nat.reduceAdd,Nat.reduceSub,X2,Hp_ne,Nat.reduceLeDiff,hc,hh,g,bld_ins2]);with_reducible first|done|exact rfl|exact bT|exact bF))|apply Wp.andS|apply Wp.orS|with_reducible apply Wp.gu|simp only[↓X3]|simp(disch:=decide)only[asks_nil,asks_in,asks_out,askB_nil,askB_in,askB_out]|with_reducible apply Wp.assoc));try(with_reducible apply Wp.cargs;case h=>((try simp(disch:=omega)only[↓reduceIte,ask_true,↓X0,X1,Nat.reduceEqDiff,Int.reduceEq,Nat.reduceAdd,Nat.reduceSub,X2,Hp_ne,Nat.reduceLeDiff,hc,hh,g,bld_ins2]);with_reducible exact rfl)))
   refine Wp.rta (k115 (h.mv (by omega) (by intros;first|with_reducible rfl|simp(disch:=omega)only[Hp_ne,Hp_same]) (by intros;first|with_reducible rfl|simp(disch:=omega)only[Hp_ne,Hp_same])) (insOf 1 x 0)) ?_
   rintro _ H2 n2 q2 s2 ⟨rfl,ul2,il2,i2,h2⟩
   (repeat(first|((with_reducible first|apply Wp.gs|apply Wp.cs|apply Wp.cselX|apply Wp.askT|apply Wp.iteKT|apply Wp.ikb|apply Wp.askb|apply Wp.step);case h=>((try simp(disch:=omega)only[↓reduceIte,ask_true,↓X0,X1,Nat.reduceEqDiff,Int.reduceEq,Nat.reduceAdd,Nat.reduceSub]);with_reducible first|done|exact rfl|exact bT|exact bF))|apply Wp.andS|apply Wp.orS|with_reducible apply Wp.gu|simp only[↓X3]|simp(disch:=decide)only[asks_nil,asks_in,asks_out,askB_nil,askB_in,askB_out]|with_reducible apply Wp.assoc))
   exact fin _ _ _ (by omega) (fun i a b c => (s2 i (by omega) b c).trans (Hp_ne _ _ (by omega))) ⟨ul2,il2,by omega,h2.mv (by omega) rfl rfl⟩ (leaf (by omega)).symm
  by_cases c3 : xk = 3
  ·subst c3
   ((repeat(first|((with_reducible first|apply Wp.gs|apply Wp.cs|apply Wp.cselX|apply Wp.askT|apply Wp.iteKT|apply Wp.ikb|apply Wp.askb|apply Wp.step);case h=>((try simp(disch:=omega)only[↓reduceIte,ask_true,↓X0,X1,Nat.reduceEqDiff,Int.reduceEq,Nat.reduceAdd,Nat.reduceSub,X2,Hp_ne,Nat.reduceLeDiff,hc,hh,g,bld_ins2]);with_reducible first|done|exact rfl|exact bT|exact bF))|apply Wp.andS|apply Wp.orS|with_reducible apply Wp.gu|simp only[↓X3]|simp(disch:=decide)only[asks_nil,asks_in,asks_out,askB_nil,askB_in,askB_out]|with_reducible apply Wp.assoc));try(with_reducible apply Wp.cargs;case h=>((try simp(disch:=omega)only[↓reduceIte,ask_true,↓X0,X1,Nat.reduceEqDiff,Int.reduceEq,Nat.reduceAdd,Nat.reduceSub,X2,Hp_ne,Nat.reduceLeDiff,hc,hh,g,bld_ins2]);with_reducible exact rfl)))
   refine Wp.rta (k115 (h.mv (by omega) (by intros;first|with_reducible rfl|simp(disch:=omega)only[Hp_ne,Hp_same]) (by intros;first|with_reducible rfl|simp(disch:=omega)only[Hp_ne,Hp_same])) (insOf 1 x 0)) ?_
   rintro _ H2 n2 q2 s2 ⟨rfl,ul2,il2,i2,h2⟩
   (repeat(first|((with_reducible first|apply Wp.gs|apply Wp.cs|apply Wp.cselX|apply Wp.askT|apply Wp.iteKT|apply Wp.ikb|apply Wp.askb|apply Wp.step);case h=>((try simp(disch:=omega)only[↓reduceIte,ask_true,↓X0,X1,Nat.reduceEqDiff,Int.reduceEq,Nat.reduceAdd,Nat.reduceSub]);with_reducible first|done|exact rfl|exact bT|exact bF))|apply Wp.andS|apply Wp.orS|with_reducible apply Wp.gu|simp only[↓X3]|simp(disch:=decide)only[asks_nil,asks_in,asks_out,askB_nil,askB_in,askB_out]|with_reducible apply Wp.assoc))
   exact fin _ _ _ (by omega) (fun i a b c => (s2 i (by omega) b c).trans (Hp_ne _ _ (by omega))) ⟨ul2,il2,by omega,h2.mv (by omega) rfl rfl⟩ (leaf (by omega)).symm
  by_cases c1 : xk = 1
  ·subst c1
   ((repeat(first|((with_reducible first|apply Wp.gs|apply Wp.cs|apply Wp.cselX|apply Wp.askT|apply Wp.iteKT|apply Wp.ikb|apply Wp.askb|apply Wp.step);case h=>((try simp(disch:=omega)only[↓reduceIte,ask_true,↓X0,X1,Nat.reduceEqDiff,Int.reduceEq,Nat.reduceAdd,Nat.reduceSub,X2,Hp_ne,Nat.reduceLeDiff,hc,hh,g,bld_ins2]);with_reducible first|done|exact rfl|exact bT|exact bF))|apply Wp.andS|apply Wp.orS|with_reducible apply Wp.gu|simp only[↓X3]|simp(disch:=decide)only[asks_nil,asks_in,asks_out,askB_nil,askB_in,askB_out]|with_reducible apply Wp.assoc));try(with_reducible apply Wp.cargs;case h=>((try simp(disch:=omega)only[↓reduceIte,ask_true,↓X0,X1,Nat.reduceEqDiff,Int.reduceEq,Nat.reduceAdd,Nat.reduceSub,X2,Hp_ne,Nat.reduceLeDiff,hc,hh,g,bld_ins2]);with_reducible exact rfl)))
   refine Wp.rta (k115 (h.mv (by omega) (by intros;first|with_reducible rfl|simp(disch:=omega)only[Hp_ne,Hp_same]) (by intros;first|with_reducible rfl|simp(disch:=omega)only[Hp_ne,Hp_same])) (insOf 1 x 0)) ?_
   rintro _ H2 n2 q2 s2 ⟨rfl,ul2,il2,i2,h2⟩
   (repeat(first|((with_reducible first|apply Wp.gs|apply Wp.cs|apply Wp.cselX|apply Wp.askT|apply Wp.iteKT|apply Wp.ikb|apply Wp.askb|apply Wp.step);case h=>((try simp(disch:=omega)only[↓reduceIte,ask_true,↓X0,X1,Nat.reduceEqDiff,Int.reduceEq,Nat.reduceAdd,Nat.reduceSub]);with_reducible first|done|exact rfl|exact bT|exact bF))|apply Wp.andS|apply Wp.orS|with_reducible apply Wp.gu|simp only[↓X3]|simp(disch:=decide)only[asks_nil,asks_in,asks_out,askB_nil,askB_in,askB_out]|with_reducible apply Wp.assoc))
   exact fin _ _ _ (by omega) (fun i a b c => (s2 i (by omega) b c).trans (Hp_ne _ _ (by omega))) ⟨ul2,il2,by omega,h2.mv (by omega) rfl rfl⟩ (leaf (by omega)).symm
  by_cases c4 : xk = 4
  ·subst c4
   ((repeat(first|((with_reducible first|apply Wp.gs|apply Wp.cs|apply Wp.cselX|apply Wp.askT|apply Wp.iteKT|apply Wp.ikb|apply Wp.askb|apply Wp.step);case h=>((try simp(disch:=omega)only[↓reduceIte,ask_true,↓X0,X1,Nat.reduceEqDiff,Int.reduceEq,Nat.reduceAdd,Nat.reduceSub,X2,Hp_ne,Nat.reduceLeDiff,hc,hh,g]);with_reducible first|done|exact rfl|exact bT|exact bF))|apply Wp.andS|apply Wp.orS|with_reducible apply Wp.gu|simp only[↓X3]|simp(disch:=decide)only[asks_nil,asks_in,asks_out,askB_nil,askB_in,askB_out]|with_reducible apply Wp.assoc));try(with_reducible apply Wp.cargs;case h=>((try simp(disch:=omega)only[↓reduceIte,ask_true,↓X0,X1,Nat.reduceEqDiff,Int.reduceEq,Nat.reduceAdd,Nat.reduceSub,X2,Hp_ne,Nat.reduceLeDiff,hc,hh,g]);with_reducible exact rfl)))
   refine Wp.rta (k127 (h.mv (by omega) (by intros;first|with_reducible rfl|simp(disch:=omega)only[Hp_ne,Hp_same]) (by intros;first|with_reducible rfl|simp(disch:=omega)only[Hp_ne,Hp_same])) xs he (hev.mv (by omega) (by intros;first|with_reducible rfl|simp(disch:=omega)only[Hp_ne,Hp_same]) (.inl rfl))) ?_
   rintro _ H2 n2 q2 s2 ⟨rfl,ul2,il2,i2,h2⟩
   (repeat(first|((with_reducible first|apply Wp.gs|apply Wp.cs|apply Wp.cselX|apply Wp.askT|apply Wp.iteKT|apply Wp.ikb|apply Wp.askb|apply Wp.step);case h=>((try simp(disch:=omega)only[↓reduceIte,ask_true,↓X0,X1,Nat.reduceEqDiff,Int.reduceEq,Nat.reduceAdd,Nat.reduceSub]);with_reducible first|done|exact rfl|exact bT|exact bF))|apply Wp.andS|apply Wp.orS|with_reducible apply Wp.gu|simp only[↓X3]|simp(disch:=decide)only[asks_nil,asks_in,asks_out,askB_nil,askB_in,askB_out]|with_reducible apply Wp.assoc))
   exact fin _ _ _ (by omega) (fun i a b c => (s2 i (by omega) b c).trans (Hp_ne _ _ (by omega))) ⟨ul2,il2,by omega,h2.mv (by omega) rfl rfl⟩ (sym rfl).symm
  by_cases c5 : xk = 5
  case neg =>
   ((repeat(first|((with_reducible first|apply Wp.gs|apply Wp.cs|apply Wp.cselX|apply Wp.askT|apply Wp.iteKT|apply Wp.ikb|apply Wp.askb|apply Wp.step);case h=>((try simp(disch:=omega)only[↓reduceIte,ask_true,↓X0,X1,Nat.reduceEqDiff,Int.reduceEq,Nat.reduceAdd,Nat.reduceSub,X2,Hp_ne,Nat.reduceLeDiff,hc,hh,g,c1,c2,c3,c4,c5]);with_reducible first|done|exact rfl|exact bT|exact bF))|apply Wp.andS|apply Wp.orS|with_reducible apply Wp.gu|simp only[↓X3]|simp(disch:=decide)only[asks_nil,asks_in,asks_out,askB_nil,askB_in,askB_out]|with_reducible apply Wp.assoc));try(with_reducible apply Wp.cargs;case h=>((try simp(disch:=omega)only[↓reduceIte,ask_true,↓X0,X1,Nat.reduceEqDiff,Int.reduceEq,Nat.reduceAdd,Nat.reduceSub,X2,Hp_ne,Nat.reduceLeDiff,hc,hh,g,c1,c2,c3,c4,c5]);with_reducible exact rfl)))
   refine Wp.rta (k111 (h.mv (by omega) (by intros;first|with_reducible rfl|simp(disch:=omega)only[Hp_ne,Hp_same]) (by intros;first|with_reducible rfl|simp(disch:=omega)only[Hp_ne,Hp_same])) 1 (by decide)) ?_
   rintro _ H2 n2 q2 s2 ⟨rfl,h2⟩
   (repeat(first|((with_reducible first|apply Wp.gs|apply Wp.cs|apply Wp.cselX|apply Wp.askT|apply Wp.iteKT|apply Wp.ikb|apply Wp.askb|apply Wp.step);case h=>((try simp(disch:=omega)only[↓reduceIte,ask_true,↓X0,X1,Nat.reduceEqDiff,Int.reduceEq,Nat.reduceAdd,Nat.reduceSub]);with_reducible first|done|exact rfl|exact bT|exact bF))|apply Wp.andS|apply Wp.orS|with_reducible apply Wp.gu|simp only[↓X3]|simp(disch:=decide)only[asks_nil,asks_in,asks_out,askB_nil,askB_in,askB_out]|with_reducible apply Wp.assoc))
   exact fin _ _ _ (by omega) (fun i a b c => (s2 i (by omega) b c).trans (Hp_ne _ _ (by omega))) ⟨ul,il,.inl rfl,h2.mv (by omega) rfl rfl⟩ (bad (by omega) c4 (fun h => c5 h.1)).symm
  subst c5
  have hmm:=chainOf_mem hp h0 h1
  have hcl:=chainOf_len h0 h1
  have hps:=hpos rfl
  ((repeat(first|((with_reducible first|apply Wp.gs|apply Wp.cs|apply Wp.cselX|apply Wp.askT|apply Wp.iteKT|apply Wp.ikb|apply Wp.askb|apply Wp.step);case h=>((try simp(disch:=omega)only[↓reduceIte,ask_true,↓X0,X1,Nat.reduceEqDiff,Int.reduceEq,Nat.reduceAdd,Nat.reduceSub,X2,Hp_ne,Nat.reduceLeDiff,hc,hh,g]);with_reducible first|done|exact rfl|exact bT|exact bF))|apply Wp.andS|apply Wp.orS|with_reducible apply Wp.gu|simp only[↓X3]|simp(disch:=decide)only[asks_nil,asks_in,asks_out,askB_nil,askB_in,askB_out]|with_reducible apply Wp.assoc));try(with_reducible apply Wp.cargs;case h=>((try simp(disch:=omega)only[↓reduceIte,ask_true,↓X0,X1,Nat.reduceEqDiff,Int.reduceEq,Nat.reduceAdd,Nat.reduceSub,X2,Hp_ne,Nat.reduceLeDiff,hc,hh,g]);with_reducible exact rfl)))
  refine Wp.rtn (k89 (o:=0) (hv.li.mv (by omega) (by intros;first|with_reducible rfl|simp(disch:=omega)only[Hp_ne,Hp_same])) hp (by omega) ((Hp_ne _ _ (by omega)).trans hc) rfl _ h0 h1) ?_
  rintro _ H2 n2 q2 s2 ⟨up,rfl,idp,p1,p2,p3⟩
  have hnt : notTup up = true:=by rcases p3 with ⟨h,_⟩ | ⟨h,_⟩ <;> rw [h] <;> rfl
  have hk2 : ∀ i,i < n → H2 i = H i:=fun i hi => (s2 i (by omega)).trans (Hp_ne _ _ (by omega))
  have hc2 : H2 c = some (.row [v,ul,ud,.int .i64 s.how] 0 true):=(hk2 c hcn).trans hc
  have hv2 : Li eNode n H2 v p:=hv.li.mv (Nat.le_refl _) hk2
  cases hch : (chainOf p x).2 with
  | false =>
   ((repeat(first|((with_reducible first|apply Wp.gs|apply Wp.cs|apply Wp.cselX|apply Wp.askT|apply Wp.iteKT|apply Wp.ikb|apply Wp.askb|apply Wp.step);case h=>((try simp(disch:=omega)only[↓reduceIte,ask_true,↓X0,X1,Nat.reduceEqDiff,Int.reduceEq,Nat.reduceAdd,Nat.reduceSub,hnt]);with_reducible first|done|exact rfl|exact bT|exact bF))|apply Wp.andS|apply Wp.orS|with_reducible apply Wp.gu|simp only[↓X3]|simp(disch:=decide)only[asks_nil,asks_in,asks_out,askB_nil,askB_in,askB_out]|with_reducible apply Wp.assoc));try(with_reducible apply Wp.cargs;case h=>((try simp(disch:=omega)only[↓reduceIte,ask_true,↓X0,X1,Nat.reduceEqDiff,Int.reduceEq,Nat.reduceAdd,Nat.reduceSub,hnt]);with_reducible exact rfl)))
   refine Wp.rta (k111 (h.mv (by omega) (hk2 c hcn) (hk2 il hil)) 1 (by decide)) ?_
   rintro _ H3 n3 q3 s3 ⟨rfl,h3⟩
   (repeat(first|((with_reducible first|apply Wp.gs|apply Wp.cs|apply Wp.cselX|apply Wp.askT|apply Wp.iteKT|apply Wp.ikb|apply Wp.askb|apply Wp.step);case h=>((try simp(disch:=omega)only[↓reduceIte,ask_true,↓X0,X1,Nat.reduceEqDiff,Int.reduceEq,Nat.reduceAdd,Nat.reduceSub]);with_reducible first|done|exact rfl|exact bT|exact bF))|apply Wp.andS|apply Wp.orS|with_reducible apply Wp.gu|simp only[↓X3]|simp(disch:=decide)only[asks_nil,asks_in,asks_out,askB_nil,askB_in,askB_out]|with_reducible apply Wp.assoc))
   exact fin _ _ _ (by omega) (fun i a b c => (s3 i (by omega) b c).trans (hk2 i a)) ⟨ul,il,.inl rfl,h3.mv (by omega) rfl rfl⟩ (bad (by omega) c4 (fun h => by rw [hch] at h; cases h.2)).symm
  | true =>
   have pair:=pair rfl hch
   generalize hL : (chainOf p x).1 = L at *
   have m0:=gi_mem (l:=L) (i:=0) (by omega) (by omega)
   have r0:=hmm _ m0
   have gl:=(p3.lst (n:=n2) p2).iAll (i:=0) (by omega) (by omega)
   have hwl : LO eInt c il n2 H2 up L:=p3.lo p2 (by omega) (by omega)
   ((repeat(first|((with_reducible first|apply Wp.gs|apply Wp.cs|apply Wp.cselX|apply Wp.askT|apply Wp.iteKT|apply Wp.ikb|apply Wp.askb|apply Wp.step);case h=>((try simp(disch:=omega)only[↓reduceIte,ask_true,↓X0,X1,Nat.reduceEqDiff,Int.reduceEq,Nat.reduceAdd,Nat.reduceSub,hnt,gl]);with_reducible first|done|exact rfl|exact bT|exact bF))|apply Wp.andS|apply Wp.orS|with_reducible apply Wp.gu|simp only[↓X3]|simp(disch:=decide)only[asks_nil,asks_in,asks_out,askB_nil,askB_in,askB_out]|with_reducible apply Wp.assoc));try(with_reducible apply Wp.cargs;case h=>((try simp(disch:=omega)only[↓reduceIte,ask_true,↓X0,X1,Nat.reduceEqDiff,Int.reduceEq,Nat.reduceAdd,Nat.reduceSub,hnt,gl]);with_reducible exact rfl)))
   refine Wp.rt (k90 (hv2.mv (by omega) (fun _ _ => rfl)) hc2 (by omega) _ r0.1 (by omega)) ?_
   intro H3 n3 q3 s3
   have hlu : lenV false up = some (.int .i64 L.length):=(p3.lst (n:=n2) p2).len
   have hEl : ∀ y ∈ L,XC 123 v p true (cExpr p k) y:=fun y hy => ih y (hmm y hy).1 (hmm y hy).2
   by_cases k4 : (gi p (gi L 0)).k = 4
   ·((repeat(first|((with_reducible first|apply Wp.gs|apply Wp.cs|apply Wp.cselX|apply Wp.askT|apply Wp.iteKT|apply Wp.ikb|apply Wp.askb|apply Wp.step);case h=>((try simp(disch:=omega)only[↓reduceIte,ask_true,↓X0,X1,Nat.reduceEqDiff,Int.reduceEq,Nat.reduceAdd,Nat.reduceSub,k4]);with_reducible first|done|exact rfl|exact bT|exact bF))|apply Wp.andS|apply Wp.orS|with_reducible apply Wp.gu|simp only[↓X3]|simp(disch:=decide)only[asks_nil,asks_in,asks_out,askB_nil,askB_in,askB_out]|with_reducible apply Wp.assoc));try(with_reducible apply Wp.cargs;case h=>((try simp(disch:=omega)only[↓reduceIte,ask_true,↓X0,X1,Nat.reduceEqDiff,Int.reduceEq,Nat.reduceAdd,Nat.reduceSub,k4]);with_reducible exact rfl)))
    refine Wp.rt (k112 _ _ _) ?_
    intro H4 n4 q4 s4
    have hk4 : ∀ i,i < n → H4 i = H i:=fun i hi => (s4 i (by omega)).trans ((s3 i (by omega)).trans (hk2 i hi))
    have hwl4 : LO eInt c il n4 H4 up L:=hwl.mv (by omega) (fun i a _ _ => (s4 i (by omega)).trans (s3 i (by omega))) (.inl rfl)
    cases hsp : special (gi p (gi L 0)).s with
    | true =>
     rw [if_pos ⟨k4,hsp⟩] at pair
     ((repeat(first|((with_reducible first|apply Wp.gs|apply Wp.cs|apply Wp.cselX|apply Wp.askT|apply Wp.iteKT|apply Wp.ikb|apply Wp.askb|apply Wp.step);case h=>((try simp(disch:=omega)only[↓reduceIte,ask_true,↓X0,X1,Nat.reduceEqDiff,Int.reduceEq,Nat.reduceAdd,Nat.reduceSub]);with_reducible first|done|exact rfl|exact bT|exact bF))|apply Wp.andS|apply Wp.orS|with_reducible apply Wp.gu|simp only[↓X3]|simp(disch:=decide)only[asks_nil,asks_in,asks_out,askB_nil,askB_in,askB_out]|with_reducible apply Wp.assoc));try(with_reducible apply Wp.cargs;case h=>((try simp(disch:=omega)only[↓reduceIte,ask_true,↓X0,X1,Nat.reduceEqDiff,Int.reduceEq,Nat.reduceAdd,Nat.reduceSub]);with_reducible exact rfl)))
     refine Wp.rta (k128 hp (Goes.expr p k) hEl (h.mv (by omega) (hk4 c hcn) (hk4 il hil)) (hv.mv (by omega) (fun i a _ _ => hk4 i a) (.inl rfl)) he (fun y hy => by have:=hmm y hy; omega) (hev.mv (by omega) (fun i a _ _ => hk4 i a) (.inl rfl)) (hwl4.mv (by omega) (fun _ _ _ _ => rfl) (.inl rfl)) (fun y hy => by have:=hmm y hy; omega) (by omega)) ?_
     rintro _ H5 n5 q5 s5 ⟨rfl,ul5,il5,i5,h5⟩
     (repeat(first|((with_reducible first|apply Wp.gs|apply Wp.cs|apply Wp.cselX|apply Wp.askT|apply Wp.iteKT|apply Wp.ikb|apply Wp.askb|apply Wp.step);case h=>((try simp(disch:=omega)only[↓reduceIte,ask_true,↓X0,X1,Nat.reduceEqDiff,Int.reduceEq,Nat.reduceAdd,Nat.reduceSub]);with_reducible first|done|exact rfl|exact bT|exact bF))|apply Wp.andS|apply Wp.orS|with_reducible apply Wp.gu|simp only[↓X3]|simp(disch:=decide)only[asks_nil,asks_in,asks_out,askB_nil,askB_in,askB_out]|with_reducible apply Wp.assoc))
     exact fin _ _ _ (by omega) (fun i a b c => (s5 i (by omega) b c).trans (hk4 i a)) ⟨ul5,il5,by omega,h5.mv (by omega) rfl rfl⟩ pair.symm
    | false =>
     rw [if_neg (by rw [hsp]; rintro ⟨_,h⟩; cases h)] at pair
     have hw1 : IntKind.i64.wrap ((L.length : Int) - 1) = (L.length : Int) - 1:=w64 (by omega)
     by_cases h5 : 5 < L.length
     ·rw [if_pos h5] at pair
      ((repeat(first|((with_reducible first|apply Wp.gs|apply Wp.cs|apply Wp.cselX|apply Wp.askT|apply Wp.iteKT|apply Wp.ikb|apply Wp.askb|apply Wp.step);case h=>((try simp(disch:=omega)only[↓reduceIte,ask_true,↓X0,X1,Nat.reduceEqDiff,Int.reduceEq,Nat.reduceAdd,Nat.reduceSub,hlu,hw1,show (4 : Int) < (L.length : Int) - 1 by omega]);with_reducible first|done|exact rfl|exact bT|exact bF))|apply Wp.andS|apply Wp.orS|with_reducible apply Wp.gu|simp only[↓X3]|simp(disch:=decide)only[asks_nil,asks_in,asks_out,askB_nil,askB_in,askB_out]|with_reducible apply Wp.assoc));try(with_reducible apply Wp.cargs;case h=>((try simp(disch:=omega)only[↓reduceIte,ask_true,↓X0,X1,Nat.reduceEqDiff,Int.reduceEq,Nat.reduceAdd,Nat.reduceSub,hlu,hw1,show (4 : Int) < (L.length : Int) - 1 by omega]);with_reducible exact rfl)))
      refine Wp.rta (k111 (h.mv (by omega) (hk4 c hcn) (hk4 il hil)) 1 (by decide)) ?_
      rintro _ H5 n5 q5 s5 ⟨rfl,h5⟩
      (repeat(first|((with_reducible first|apply Wp.gs|apply Wp.cs|apply Wp.cselX|apply Wp.askT|apply Wp.iteKT|apply Wp.ikb|apply Wp.askb|apply Wp.step);case h=>((try simp(disch:=omega)only[↓reduceIte,ask_true,↓X0,X1,Nat.reduceEqDiff,Int.reduceEq,Nat.reduceAdd,Nat.reduceSub]);with_reducible first|done|exact rfl|exact bT|exact bF))|apply Wp.andS|apply Wp.orS|with_reducible apply Wp.gu|simp only[↓X3]|simp(disch:=decide)only[asks_nil,asks_in,asks_out,askB_nil,askB_in,askB_out]|with_reducible apply Wp.assoc))
      exact fin _ _ _ (by omega) (fun i a b c => (s5 i (by omega) b c).trans (hk4 i a)) ⟨ul,il,.inl rfl,h5.mv (by omega) rfl rfl⟩ pair.symm
     ·rw [if_neg h5] at pair
      (repeat(first|((with_reducible first|apply Wp.gs|apply Wp.cs|apply Wp.cselX|apply Wp.askT|apply Wp.iteKT|apply Wp.ikb|apply Wp.askb|apply Wp.step);case h=>((try simp(disch:=omega)only[↓reduceIte,ask_true,↓X0,X1,Nat.reduceEqDiff,Int.reduceEq,Nat.reduceAdd,Nat.reduceSub,hlu,hw1,show ¬ (4 : Int) < (L.length : Int) - 1 by omega]);with_reducible first|done|exact rfl|exact bT|exact bF))|apply Wp.andS|apply Wp.orS|with_reducible apply Wp.gu|simp only[↓X3]|simp(disch:=decide)only[asks_nil,asks_in,asks_out,askB_nil,askB_in,askB_out]|with_reducible apply Wp.assoc))
      refine Wp.bind (l123 hEl (h.mv (m:=n4) (by omega) (hk4 c hcn) (hk4 il hil)) (hv.mv (by omega) (fun i a _ _ => hk4 i a) (.inl rfl)) he (fun y hy => by have:=hmm y hy; omega) (hev.mv (by omega) (fun i a _ _ => hk4 i a) (.inl rfl)) hwl4 (by omega) _ _ (by omega) (by simp [put_at,argsT_at]) (by simp [put_at,argsT_at]) (by simp [put_at]) (by simp [put_at]) (by simp [put_at]) (by simp [put_at])) ?_
      rintro ⟨oe,ot,oH,on⟩ ⟨f1,f2,rfl,⟨ul5,il5,i5,h5'⟩,e0,e7⟩
      simp only at f1 f2 h5' e0 e7
      ((repeat(first|((with_reducible first|apply Wp.gs|apply Wp.cs|apply Wp.cselX|apply Wp.askT|apply Wp.iteKT|apply Wp.ikb|apply Wp.askb|apply Wp.step);case h=>((try simp(disch:=omega)only[↓reduceIte,ask_true,↓X0,X1,Nat.reduceEqDiff,Int.reduceEq,Nat.reduceAdd,Nat.reduceSub,e0,e7,hlu,hw1,bld_ins3]);with_reducible first|done|exact rfl|exact bT|exact bF))|apply Wp.andS|apply Wp.orS|with_reducible apply Wp.gu|simp only[↓X3]|simp(disch:=decide)only[asks_nil,asks_in,asks_out,askB_nil,askB_in,askB_out]|with_reducible apply Wp.assoc));try(with_reducible apply Wp.cargs;case h=>((try simp(disch:=omega)only[↓reduceIte,ask_true,↓X0,X1,Nat.reduceEqDiff,Int.reduceEq,Nat.reduceAdd,Nat.reduceSub,e0,e7,hlu,hw1,bld_ins3]);with_reducible exact rfl)))
      refine Wp.rta (k115 (h5'.mv (by omega) rfl rfl) (insOf 7 0 ((L.length : Int) - 1))) ?_
      rintro _ H6 n6 q6 s6 ⟨rfl,ul6,il6,i6,h6⟩
      have hcn5:=h5'.cn
      (repeat(first|((with_reducible first|apply Wp.gs|apply Wp.cs|apply Wp.cselX|apply Wp.askT|apply Wp.iteKT|apply Wp.ikb|apply Wp.askb|apply Wp.step);case h=>((try simp(disch:=omega)only[↓reduceIte,ask_true,↓X0,X1,Nat.reduceEqDiff,Int.reduceEq,Nat.reduceAdd,Nat.reduceSub]);with_reducible first|done|exact rfl|exact bT|exact bF))|apply Wp.andS|apply Wp.orS|with_reducible apply Wp.gu|simp only[↓X3]|simp(disch:=decide)only[asks_nil,asks_in,asks_out,askB_nil,askB_in,askB_out]|with_reducible apply Wp.assoc))
      exact fin _ _ _ (by omega) (fun i a b c => by rw [s6 i (by omega) b (by omega),f2 i (by omega) b (by omega)]; exact hk4 i a) ⟨ul6,il6,by omega,h6.mv (by omega) rfl rfl⟩ pair.symm
   ·rw [if_neg (fun h => k4 h.1)] at pair
    have hk4 : ∀ i,i < n → H3 i = H i:=fun i hi => ((s3 i (by omega)).trans (hk2 i hi))
    have hwl4 : LO eInt c il n3 H3 up L:=hwl.mv (by omega) (fun i a _ _ => (s3 i (by omega))) (.inl rfl)
    have hw1 : IntKind.i64.wrap ((L.length : Int) - 1) = (L.length : Int) - 1:=w64 (by omega)
    by_cases h5 : 5 < L.length
    ·rw [if_pos h5] at pair
     ((repeat(first|((with_reducible first|apply Wp.gs|apply Wp.cs|apply Wp.cselX|apply Wp.askT|apply Wp.iteKT|apply Wp.ikb|apply Wp.askb|apply Wp.step);case h=>((try simp(disch:=omega)only[↓reduceIte,ask_true,↓X0,X1,Nat.reduceEqDiff,Int.reduceEq,Nat.reduceAdd,Nat.reduceSub,k4,hlu,hw1,show (4 : Int) < (L.length : Int) - 1 by omega]);with_reducible first|done|exact rfl|exact bT|exact bF))|apply Wp.andS|apply Wp.orS|with_reducible apply Wp.gu|simp only[↓X3]|simp(disch:=decide)only[asks_nil,asks_in,asks_out,askB_nil,askB_in,askB_out]|with_reducible apply Wp.assoc));try(with_reducible apply Wp.cargs;case h=>((try simp(disch:=omega)only[↓reduceIte,ask_true,↓X0,X1,Nat.reduceEqDiff,Int.reduceEq,Nat.reduceAdd,Nat.reduceSub,k4,hlu,hw1,show (4 : Int) < (L.length : Int) - 1 by omega]);with_reducible exact rfl)))
     refine Wp.rta (k111 (h.mv (by omega) (hk4 c hcn) (hk4 il hil)) 1 (by decide)) ?_
     rintro _ H5 n5 q5 s5 ⟨rfl,h5⟩
     (repeat(first|((with_reducible first|apply Wp.gs|apply Wp.cs|apply Wp.cselX|apply Wp.askT|apply Wp.iteKT|apply Wp.ikb|apply Wp.askb|apply Wp.step);case h=>((try simp(disch:=omega)only[↓reduceIte,ask_true,↓X0,X1,Nat.reduceEqDiff,Int.reduceEq,Nat.reduceAdd,Nat.reduceSub]);with_reducible first|done|exact rfl|exact bT|exact bF))|apply Wp.andS|apply Wp.orS|with_reducible apply Wp.gu|simp only[↓X3]|simp(disch:=decide)only[asks_nil,asks_in,asks_out,askB_nil,askB_in,askB_out]|with_reducible apply Wp.assoc))
     exact fin _ _ _ (by omega) (fun i a b c => (s5 i (by omega) b c).trans (hk4 i a)) ⟨ul,il,.inl rfl,h5.mv (by omega) rfl rfl⟩ pair.symm
    ·rw [if_neg h5] at pair
     (repeat(first|((with_reducible first|apply Wp.gs|apply Wp.cs|apply Wp.cselX|apply Wp.askT|apply Wp.iteKT|apply Wp.ikb|apply Wp.askb|apply Wp.step);case h=>((try simp(disch:=omega)only[↓reduceIte,ask_true,↓X0,X1,Nat.reduceEqDiff,Int.reduceEq,Nat.reduceAdd,Nat.reduceSub,k4,hlu,hw1,show ¬ (4 : Int) < (L.length : Int) - 1 by omega]);with_reducible first|done|exact rfl|exact bT|exact bF))|apply Wp.andS|apply Wp.orS|with_reducible apply Wp.gu|simp only[↓X3]|simp(disch:=decide)only[asks_nil,asks_in,asks_out,askB_nil,askB_in,askB_out]|with_reducible apply Wp.assoc))
     refine Wp.bind (l123 hEl (h.mv (m:=n3) (by omega) (hk4 c hcn) (hk4 il hil)) (hv.mv (by omega) (fun i a _ _ => hk4 i a) (.inl rfl)) he (fun y hy => by have:=hmm y hy; omega) (hev.mv (by omega) (fun i a _ _ => hk4 i a) (.inl rfl)) hwl4 (by omega) _ _ (by omega) (by simp [put_at,argsT_at]) (by simp [put_at,argsT_at]) (by simp [put_at]) (by simp [put_at]) (by simp [put_at]) (by simp [put_at])) ?_
     rintro ⟨oe,ot,oH,on⟩ ⟨f1,f2,rfl,⟨ul5,il5,i5,h5'⟩,e0,e7⟩
     simp only at f1 f2 h5' e0 e7
     ((repeat(first|((with_reducible first|apply Wp.gs|apply Wp.cs|apply Wp.cselX|apply Wp.askT|apply Wp.iteKT|apply Wp.ikb|apply Wp.askb|apply Wp.step);case h=>((try simp(disch:=omega)only[↓reduceIte,ask_true,↓X0,X1,Nat.reduceEqDiff,Int.reduceEq,Nat.reduceAdd,Nat.reduceSub,e0,e7,hlu,hw1,bld_ins3]);with_reducible first|done|exact rfl|exact bT|exact bF))|apply Wp.andS|apply Wp.orS|with_reducible apply Wp.gu|simp only[↓X3]|simp(disch:=decide)only[asks_nil,asks_in,asks_out,askB_nil,askB_in,askB_out]|with_reducible apply Wp.assoc));try(with_reducible apply Wp.cargs;case h=>((try simp(disch:=omega)only[↓reduceIte,ask_true,↓X0,X1,Nat.reduceEqDiff,Int.reduceEq,Nat.reduceAdd,Nat.reduceSub,e0,e7,hlu,hw1,bld_ins3]);with_reducible exact rfl)))
     refine Wp.rta (k115 (h5'.mv (by omega) rfl rfl) (insOf 7 0 ((L.length : Int) - 1))) ?_
     rintro _ H6 n6 q6 s6 ⟨rfl,ul6,il6,i6,h6⟩
     have hcn5:=h5'.cn
     (repeat(first|((with_reducible first|apply Wp.gs|apply Wp.cs|apply Wp.cselX|apply Wp.askT|apply Wp.iteKT|apply Wp.ikb|apply Wp.askb|apply Wp.step);case h=>((try simp(disch:=omega)only[↓reduceIte,ask_true,↓X0,X1,Nat.reduceEqDiff,Int.reduceEq,Nat.reduceAdd,Nat.reduceSub]);with_reducible first|done|exact rfl|exact bT|exact bF))|apply Wp.andS|apply Wp.orS|with_reducible apply Wp.gu|simp only[↓X3]|simp(disch:=decide)only[asks_nil,asks_in,asks_out,askB_nil,askB_in,askB_out]|with_reducible apply Wp.assoc))
     exact fin _ _ _ (by omega) (fun i a b c => by rw [s6 i (by omega) b (by omega),f2 i (by omega) b (by omega)]; exact hk4 i a) ⟨ul6,il6,by omega,h6.mv (by omega) rfl rfl⟩ pair.symm
end Go.Proofs.Ytbgkimkbngocjaa.Ax
set_option linter.unusedVariables false
set_option linter.unusedSimpArgs false
set_option maxHeartbeats 8000000
namespace Go.Proofs.Ytbgkimkbngocjaa.Ax
open Go
theorem l124 {v : Value} {p : List Nd} {E : CEx} {l : List Int} (hg : ∀ v e,Goes (E v e)) (hE : ∀ x ∈ l,XR 124 v p E x) {c il n : Nat} {H : Hp} {ul ud w ew : Value} {s : CS} {e : Env} (h : CC c il n H v ul ud s) (hv : LO eNode c il n H v p) (he : EnvOk e) (hex : ∀ x ∈ l,e.length + x.toNat ≤ 90000) (hev : EV c il n H ew e) (hw : LO eInt c il n H w l) (hl : l.length ≤ 1000000) : ∀ t n1,n ≤ n1 → t 0 = ptr c 0 → t 2 = ew → t 9 = w → t 12 = .int .i64 0 →
  Wp (Loop (S124L0 (Call Try.prog) Loop) t H n1) (fun o => n ≤ o.n ∧ Kept c il n H o.H ∧ o.e = .exit 1 ∧ NextW c il n o.n o.H v ud (l.foldl (fun s x => E x e s) s) ∧ o.t 0 = ptr c 0 ∧ o.t 9 = w):=by
 intro t n1 hn1 e0 e2 e9 e12
 have hcn:=h.cn
 have hil:=h.iln
 refine Loop_rule (fun d T H' n' => ∃ (j : Nat) (ul' : Value) (il' : Nat) (a : CS),j + d = l.length ∧ n ≤ n' ∧ Kept c il n H H' ∧ (il' = il ∨ n ≤ il') ∧ CC c il' n' H' v ul' ud a ∧ Wk a ((l.take j).foldl (fun s x => E x e s) s) ∧ T 0 = ptr c 0 ∧ T 2 = ew ∧ T 9 = w ∧ T 12 = .int .i64 j) _ ?_ l.length _ _ _ ⟨0,ul,il,s,by omega,hn1,fun _ _ _ _ => rfl,.inl rfl,h.mv (by omega) rfl rfl,Wk.refl _,e0,e2,e9,e12⟩
 rintro d T H' n' ⟨j,ul',il',a,hj,hn,s1,hi',h',hwk,e0,e2,e9,e12⟩
 unfold S124L0
 have hw':=hw.mv hn s1 hi'
 have hlen:=hw'.li.len
 by_cases hlt : (j : Int) < l.length
 ·have hlt' : j < l.length:=by omega
  have hev':=hev.mv hn s1 hi'
  have hv':=hv.mv hn s1 hi'
  have g:=hw'.li.iAll (i:=(j : Int)) (by omega) hlt
  have hmem:=gi_mem (l:=l) (i:=(j : Int)) (by omega) hlt
  have hws:=wj (j:=j) (len:=l.length) hlt' (by omega)
  have hcn':=h'.cn
  have hil':=h'.iln
  ((repeat(first|((with_reducible first|apply Wp.gs|apply Wp.cs|apply Wp.cselX|apply Wp.askT|apply Wp.iteKT|apply Wp.ikb|apply Wp.askb|apply Wp.step);case h=>((try simp(disch:=omega)only[↓reduceIte,ask_true,↓X0,X1,Nat.reduceEqDiff,Int.reduceEq,Nat.reduceAdd,Nat.reduceSub,e0,e2,e9,e12,hlen,hlt,g]);with_reducible first|done|exact rfl|exact bT|exact bF))|apply Wp.andS|apply Wp.orS|with_reducible apply Wp.gu|simp only[↓X3]|simp(disch:=decide)only[asks_nil,asks_in,asks_out,askB_nil,askB_in,askB_out]|with_reducible apply Wp.assoc));try(with_reducible apply Wp.cargs;case h=>((try simp(disch:=omega)only[↓reduceIte,ask_true,↓X0,X1,Nat.reduceEqDiff,Int.reduceEq,Nat.reduceAdd,Nat.reduceSub,e0,e2,e9,e12,hlen,hlt,g]);with_reducible exact rfl)))
  refine Wp.rta (hE _ hmem c il' _ _ ul' ud ew _ e (h'.mv (by omega) rfl rfl) (hv'.mv (by omega) (fun i a b c => rfl) (.inl rfl)) he (hex _ hmem) (hev'.mv (by omega) (fun i a b c => rfl) (.inl rfl))) ?_
  rintro _ H3 n3 q3 s3 ⟨rfl,a3,w3,ul3,il3,j1,j2⟩
  (repeat(first|((with_reducible first|apply Wp.gs|apply Wp.cs|apply Wp.cselX|apply Wp.askT|apply Wp.iteKT|apply Wp.ikb|apply Wp.askb|apply Wp.step);case h=>((try simp(disch:=omega)only[↓reduceIte,ask_true,↓X0,X1,Nat.reduceEqDiff,Int.reduceEq,Nat.reduceAdd,Nat.reduceSub,e12,hws]);with_reducible first|done|exact rfl|exact bT|exact bF))|apply Wp.andS|apply Wp.orS|with_reducible apply Wp.gu|simp only[↓X3]|simp(disch:=decide)only[asks_nil,asks_in,asks_out,askB_nil,askB_in,askB_out]|with_reducible apply Wp.assoc))
  refine Wp.pure (Nxt.go (d - 1) (by omega) ⟨j + 1,ul3,il3,a3,by omega,by omega,fun i a b c => by rw [s3 i (by omega) b (by omega)]; exact s1 i a b c,by omega,j2.mv (by omega) rfl rfl,?_,by simp [put_at,e0],by simp [put_at,e2],by simp [put_at,e9],by simp [put_at]⟩)
  rw [take_next hlt',List.foldl_append,List.foldl_cons,List.foldl_nil,← gi_nat hlt']
  exact hwk.step (hg _ _) w3
 ·((repeat(first|((with_reducible first|apply Wp.gs|apply Wp.cs|apply Wp.cselX|apply Wp.askT|apply Wp.iteKT|apply Wp.ikb|apply Wp.askb|apply Wp.step);case h=>((try simp(disch:=omega)only[↓reduceIte,ask_true,↓X0,X1,Nat.reduceEqDiff,Int.reduceEq,Nat.reduceAdd,Nat.reduceSub,e9,e12,hlen,hlt]);with_reducible first|done|exact rfl|exact bT|exact bF))|apply Wp.andS|apply Wp.orS|with_reducible apply Wp.gu|simp only[↓X3]|simp(disch:=decide)only[asks_nil,asks_in,asks_out,askB_nil,askB_in,askB_out]|with_reducible apply Wp.assoc));try(with_reducible apply Wp.cargs;case h=>((try simp(disch:=omega)only[↓reduceIte,ask_true,↓X0,X1,Nat.reduceEqDiff,Int.reduceEq,Nat.reduceAdd,Nat.reduceSub,e9,e12,hlen,hlt]);with_reducible exact rfl)))
  rw [List.take_of_length_le (by omega)] at hwk
  exact Wp.pure (Nxt.exit ⟨by simp only; omega,s1,rfl,⟨a,hwk,ul',il',hi',h'.mv (by simp only; omega) rfl rfl⟩,by simp [put_at,e0],by simp [put_at,e9]⟩)
theorem k124 {v : Value} {p : List Nd} (hp : PoolOk p) : ∀ (k : Nat) (x : Int),0 ≤ x → x < (p.length : Int) → x < k → XR 124 v p (cExpr p k) x
 | 0,x,h0,h1,hk => by omega
 | k + 1,x,h0,h1,hk => by
  intro c il n H ul ud ew s e h hv he hex hev
  have ih:=fun (y : Int) (y0 : 0 ≤ y) (y1 : y < x) => k124 (v:=v) hp k y y0 (by omega) (by omega)
  apply RtA.of
  rw [c124]; unfold S124
  have hcn:=h.cn
  have hil:=h.iln
  have hne:=h.ne
  have hc:=h.hc
  have hpl:=hp.2
  by_cases hh : s.how = 0
  case neg =>
   have e1 : cExpr p (k + 1) x e s = s:=(Goes.expr p (k + 1) x e s).1 hh
   (repeat(first|((with_reducible first|apply Wp.gs|apply Wp.cs|apply Wp.cselX|apply Wp.askT|apply Wp.iteKT|apply Wp.ikb|apply Wp.askb|apply Wp.step);case h=>((try simp(disch:=omega)only[↓reduceIte,ask_true,↓X0,X1,Nat.reduceEqDiff,Int.reduceEq,Nat.reduceAdd,Nat.reduceSub,X2,Hp_ne,Nat.reduceLeDiff,hc,hh]);with_reducible first|done|exact rfl|exact bT|exact bF))|apply Wp.andS|apply Wp.orS|with_reducible apply Wp.gu|simp only[↓X3]|simp(disch:=decide)only[asks_nil,asks_in,asks_out,askB_nil,askB_in,askB_out]|with_reducible apply Wp.assoc))
   exact Wp.pure ⟨by simp only; omega,(by intros;first|with_reducible rfl|simp(disch:=omega)only[Hp_ne,Hp_same]),rfl,s,by rw [e1]; exact Wk.refl _,ul,il,.inl rfl,h.mv (by simp only; omega) rfl rfl⟩
  have g:=hv.li.nAll (i:=x) h0 h1
  have fin : ∀ (H2 : Hp) (n2 : Nat) (S : CS),n ≤ n2 → Kept c il n H H2 → NextW c il n n2 H2 v ud S → S = cExpr p (k + 1) x e s → Wp (some (Value.tuple ⟨[]⟩,H2,n2)) (fun q => n ≤ q.2.2 ∧ (∀ i,i < n → i ≠ c → i ≠ il → q.2.1 i = H i) ∧ q.1 = .tuple ⟨[]⟩ ∧ NextW c il n q.2.2 q.2.1 v ud (cExpr p (k + 1) x e s)):=by
   intro H2 n2 S z1 z2 z3 z4
   exact Wp.pure ⟨z1,z2,rfl,by rw [← z4]; exact z3⟩
  have leaf:=cExpr_leaf (p:=p) (k:=k) (v:=x) (e:=e) hh
  have sym:=cExpr_sym (p:=p) (k:=k) (v:=x) (e:=e) hh
  have bad:=cExpr_bad (p:=p) (k:=k) (v:=x) (e:=e) hh
  have pair:=cExpr_pair (p:=p) (k:=k) (v:=x) (e:=e) hh
  have hpos:=chainOf_pos hp h0 h1
  have hcf : cFail 1 s = ⟨1,s.L,s.D⟩:=by unfold cFail; rw [if_pos hh]
  rw [hcf] at sym bad pair
  generalize cExpr p (k + 1) x e s = F at *
  generalize hx : gi p x = X at *
  obtain ⟨xk,xn,xs,xa,xb⟩:=X
  simp only [Nd.cells] at g leaf sym bad pair hpos
  -- something came up
  have nogood : ∀ (H0 : Hp) (n0 : Nat),n ≤ n0 → (∀ i,i < n → H0 i = H i) → (⟨1,s.L,s.D⟩ : CS) = F → Wp (some (Value.tuple ⟨[]⟩,H0.set c (some (.row [v,ul,ud,.int .i64 1] 0 true)),n0)) (fun q => n ≤ q.2.2 ∧ (∀ i,i < n → i ≠ c → i ≠ il → q.2.1 i = H i) ∧ q.1 = .tuple ⟨[]⟩ ∧ NextW c il n q.2.2 q.2.1 v ud F):=fun H0 n0 z1 z2 z3 =>
   fin _ _ _ z1 (fun i a b c => (Hp_ne _ _ b).trans (z2 i a)) ⟨_,Wk.refl _,ul,il,.inl rfl,h.how 1 (by decide) z1 (Hp_same _ _ _) ((Hp_ne _ _ hne).trans (z2 il hil))⟩ z3
  by_cases c1 : xk = 1
  ·subst c1
   ((repeat(first|((with_reducible first|apply Wp.gs|apply Wp.cs|apply Wp.cselX|apply Wp.askT|apply Wp.iteKT|apply Wp.ikb|apply Wp.askb|apply Wp.step);case h=>((try simp(disch:=omega)only[↓reduceIte,ask_true,↓X0,X1,Nat.reduceEqDiff,Int.reduceEq,Nat.reduceAdd,Nat.reduceSub,X2,Hp_ne,Nat.reduceLeDiff,hc,hh,g,bld_ins2]);with_reducible first|done|exact rfl|exact bT|exact bF))|apply Wp.andS|apply Wp.orS|with_reducible apply Wp.gu|simp only[↓X3]|simp(disch:=decide)only[asks_nil,asks_in,asks_out,askB_nil,askB_in,askB_out]|with_reducible apply Wp.assoc));try(with_reducible apply Wp.cargs;case h=>((try simp(disch:=omega)only[↓reduceIte,ask_true,↓X0,X1,Nat.reduceEqDiff,Int.reduceEq,Nat.reduceAdd,Nat.reduceSub,X2,Hp_ne,Nat.reduceLeDiff,hc,hh,g,bld_ins2]);with_reducible exact rfl)))
   refine Wp.rta (k117 (h.mv (by omega) (by intros;first|with_reducible rfl|simp(disch:=omega)only[Hp_ne,Hp_same]) (by intros;first|with_reducible rfl|simp(disch:=omega)only[Hp_ne,Hp_same])) (insOf 1 x 0)) ?_
   rintro _ H2 n2 q2 s2 ⟨rfl,ul2,il2,i2,h2⟩
   (repeat(first|((with_reducible first|apply Wp.gs|apply Wp.cs|apply Wp.cselX|apply Wp.askT|apply Wp.iteKT|apply Wp.ikb|apply Wp.askb|apply Wp.step);case h=>((try simp(disch:=omega)only[↓reduceIte,ask_true,↓X0,X1,Nat.reduceEqDiff,Int.reduceEq,Nat.reduceAdd,Nat.reduceSub]);with_reducible first|done|exact rfl|exact bT|exact bF))|apply Wp.andS|apply Wp.orS|with_reducible apply Wp.gu|simp only[↓X3]|simp(disch:=decide)only[asks_nil,asks_in,asks_out,askB_nil,askB_in,askB_out]|with_reducible apply Wp.assoc))
   exact fin _ _ _ (by omega) (fun i a b c => (s2 i (by omega) b c).trans (Hp_ne _ _ (by omega))) ⟨_,Wk.refl _,ul2,il2,by omega,h2.mv (by omega) rfl rfl⟩ (leaf (by omega)).symm
  by_cases c2 : xk = 2
  ·subst c2
   ((repeat(first|((with_reducible first|apply Wp.gs|apply Wp.cs|apply Wp.cselX|apply Wp.askT|apply Wp.iteKT|apply Wp.ikb|apply Wp.askb|apply Wp.step);case h=>((try simp(disch:=omega)only[↓reduceIte,ask_true,↓X0,X1,Nat.reduceEqDiff,Int.reduceEq,Nat.reduceAdd,Nat.reduceSub,X2,Hp_ne,Nat.reduceLeDiff,hc,hh,g,bld_ins2]);with_reducible first|done|exact rfl|exact bT|exact bF))|apply Wp.andS|apply Wp.orS|with_reducible apply Wp.gu|simp only[↓X3]|simp(disch:=decide)only[asks_nil,asks_in,asks_out,askB_nil,askB_in,askB_out]|with_reducible apply Wp.assoc));try(with_reducible apply Wp.cargs;case h=>((try simp(disch:=omega)only[↓reduceIte,ask_true,↓X0,X1,Nat.reduceEqDiff,Int.reduceEq,Nat.reduceAdd,Nat.reduceSub,X2,Hp_ne,Nat.reduceLeDiff,hc,hh,g,bld_ins2]);with_reducible exact rfl)))
   refine Wp.rta (k117 (h.mv (by omega) (by intros;first|with_reducible rfl|simp(disch:=omega)only[Hp_ne,Hp_same]) (by intros;first|with_reducible rfl|simp(disch:=omega)only[Hp_ne,Hp_same])) (insOf 1 x 0)) ?_
   rintro _ H2 n2 q2 s2 ⟨rfl,ul2,il2,i2,h2⟩
   (repeat(first|((with_reducible first|apply Wp.gs|apply Wp.cs|apply Wp.cselX|apply Wp.askT|apply Wp.iteKT|apply Wp.ikb|apply Wp.askb|apply Wp.step);case h=>((try simp(disch:=omega)only[↓reduceIte,ask_true,↓X0,X1,Nat.reduceEqDiff,Int.reduceEq,Nat.reduceAdd,Nat.reduceSub]);with_reducible first|done|exact rfl|exact bT|exact bF))|apply Wp.andS|apply Wp.orS|with_reducible apply Wp.gu|simp only[↓X3]|simp(disch:=decide)only[asks_nil,asks_in,asks_out,askB_nil,askB_in,askB_out]|with_reducible apply Wp.assoc))
   exact fin _ _ _ (by omega) (fun i a b c => (s2 i (by omega) b c).trans (Hp_ne _ _ (by omega))) ⟨_,Wk.refl _,ul2,il2,by omega,h2.mv (by omega) rfl rfl⟩ (leaf (by omega)).symm
  by_cases c3 : xk = 3
  ·subst c3
   ((repeat(first|((with_reducible first|apply Wp.gs|apply Wp.cs|apply Wp.cselX|apply Wp.askT|apply Wp.iteKT|apply Wp.ikb|apply Wp.askb|apply Wp.step);case h=>((try simp(disch:=omega)only[↓reduceIte,ask_true,↓X0,X1,Nat.reduceEqDiff,Int.reduceEq,Nat.reduceAdd,Nat.reduceSub,X2,Hp_ne,Nat.reduceLeDiff,hc,hh,g,bld_ins2]);with_reducible first|done|exact rfl|exact bT|exact bF))|apply Wp.andS|apply Wp.orS|with_reducible apply Wp.gu|simp only[↓X3]|simp(disch:=decide)only[asks_nil,asks_in,asks_out,askB_nil,askB_in,askB_out]|with_reducible apply Wp.assoc));try(with_reducible apply Wp.cargs;case h=>((try simp(disch:=omega)only[↓reduceIte,ask_true,↓X0,X1,Nat.reduceEqDiff,Int.reduceEq,Nat.reduceAdd,Nat.reduceSub,X2,Hp_ne,Nat.reduceLeDiff,hc,hh,g,bld_ins2]);with_reducible exact rfl)))
   refine Wp.rta (k117 (h.mv (by omega) (by intros;first|with_reducible rfl|simp(disch:=omega)only[Hp_ne,Hp_same]) (by intros;first|with_reducible rfl|simp(disch:=omega)only[Hp_ne,Hp_same])) (insOf 1 x 0)) ?_
   rintro _ H2 n2 q2 s2 ⟨rfl,ul2,il2,i2,h2⟩
   (repeat(first|((with_reducible first|apply Wp.gs|apply Wp.cs|apply Wp.cselX|apply Wp.askT|apply Wp.iteKT|apply Wp.ikb|apply Wp.askb|apply Wp.step);case h=>((try simp(disch:=omega)only[↓reduceIte,ask_true,↓X0,X1,Nat.reduceEqDiff,Int.reduceEq,Nat.reduceAdd,Nat.reduceSub]);with_reducible first|done|exact rfl|exact bT|exact bF))|apply Wp.andS|apply Wp.orS|with_reducible apply Wp.gu|simp only[↓X3]|simp(disch:=decide)only[asks_nil,asks_in,asks_out,askB_nil,askB_in,askB_out]|with_reducible apply Wp.assoc))
   exact fin _ _ _ (by omega) (fun i a b c => (s2 i (by omega) b c).trans (Hp_ne _ _ (by omega))) ⟨_,Wk.refl _,ul2,il2,by omega,h2.mv (by omega) rfl rfl⟩ (leaf (by omega)).symm
  by_cases c4 : xk = 4
  ·subst c4
   ((repeat(first|((with_reducible first|apply Wp.gs|apply Wp.cs|apply Wp.cselX|apply Wp.askT|apply Wp.iteKT|apply Wp.ikb|apply Wp.askb|apply Wp.step);case h=>((try simp(disch:=omega)only[↓reduceIte,ask_true,↓X0,X1,Nat.reduceEqDiff,Int.reduceEq,Nat.reduceAdd,Nat.reduceSub,X2,Hp_ne,Nat.reduceLeDiff,hc,hh,g]);with_reducible first|done|exact rfl|exact bT|exact bF))|apply Wp.andS|apply Wp.orS|with_reducible apply Wp.gu|simp only[↓X3]|simp(disch:=decide)only[asks_nil,asks_in,asks_out,askB_nil,askB_in,askB_out]|with_reducible apply Wp.assoc));try(with_reducible apply Wp.cargs;case h=>((try simp(disch:=omega)only[↓reduceIte,ask_true,↓X0,X1,Nat.reduceEqDiff,Int.reduceEq,Nat.reduceAdd,Nat.reduceSub,X2,Hp_ne,Nat.reduceLeDiff,hc,hh,g]);with_reducible exact rfl)))
   refine Wp.rt (k118 _ _ _) ?_
   intro H2 n2 q2 s2
   have hk2 : ∀ i,i < n → H2 i = H i:=fun i hi => (s2 i (by omega)).trans (Hp_ne _ _ (by omega))
   have hbox : H2 (n + 13) = some (.row [.int .i64 4,.int .i64 xn,.string xs,.int .i64 xa,.int .i64 xb] 0 true):=(s2 _ (by omega)).trans (Hp_same _ _ _)
   cases hsp : special xs with
   | true =>
    have sym:=sym rfl
    rw [if_pos hsp] at sym
    have hst:=h.st 1 (H':=H2) (hk2 c hcn)
    (repeat(first|((with_reducible first|apply Wp.gs|apply Wp.cs|apply Wp.cselX|apply Wp.askT|apply Wp.iteKT|apply Wp.ikb|apply Wp.askb|apply Wp.step);case h=>((try simp(disch:=omega)only[↓reduceIte,ask_true,↓X0,X1,Nat.reduceEqDiff,Int.reduceEq,Nat.reduceAdd,Nat.reduceSub,X2,Hp_ne,Nat.reduceLeDiff,hst]);with_reducible first|done|exact rfl|exact bT|exact bF))|apply Wp.andS|apply Wp.orS|with_reducible apply Wp.gu|simp only[↓X3]|simp(disch:=decide)only[asks_nil,asks_in,asks_out,askB_nil,askB_in,askB_out]|with_reducible apply Wp.assoc))
    exact nogood _ _ (by omega) hk2 sym.symm
   | false =>
    have sym:=sym rfl
    rw [if_neg (by rw [hsp]; decide)] at sym
    ((repeat(first|((with_reducible first|apply Wp.gs|apply Wp.cs|apply Wp.cselX|apply Wp.askT|apply Wp.iteKT|apply Wp.ikb|apply Wp.askb|apply Wp.step);case h=>((try simp(disch:=omega)only[↓reduceIte,ask_true,↓X0,X1,Nat.reduceEqDiff,Int.reduceEq,Nat.reduceAdd,Nat.reduceSub,X2,Hp_ne,Nat.reduceLeDiff,hbox]);with_reducible first|done|exact rfl|exact bT|exact bF))|apply Wp.andS|apply Wp.orS|with_reducible apply Wp.gu|simp only[↓X3]|simp(disch:=decide)only[asks_nil,asks_in,asks_out,askB_nil,askB_in,askB_out]|with_reducible apply Wp.assoc));try(with_reducible apply Wp.cargs;case h=>((try simp(disch:=omega)only[↓reduceIte,ask_true,↓X0,X1,Nat.reduceEqDiff,Int.reduceEq,Nat.reduceAdd,Nat.reduceSub,X2,Hp_ne,Nat.reduceLeDiff,hbox]);with_reducible exact rfl)))
    refine Wp.rt (k129 xs he (hev.mv (by omega) (fun i a _ _ => hk2 i a) (.inl rfl))) ?_
    intro H3 n3 q3 s3
    have hk3 : ∀ i,i < n → H3 i = H i:=fun i hi => (s3 i (by omega)).trans (hk2 i hi)
    have hbox3 : H3 (n + 13) = some (.row [.int .i64 4,.int .i64 xn,.string xs,.int .i64 xa,.int .i64 xb] 0 true):=(s3 _ (by omega)).trans hbox
    unfold varV
    cases hcv : cVar xs e 0 with
    | none =>
     have hvi : varIns xs e = ⟨3,0,0,xs⟩:=by unfold varIns; rw [hcv]
     rw [hvi] at sym
     simp only
     ((repeat(first|((with_reducible first|apply Wp.gs|apply Wp.cs|apply Wp.cselX|apply Wp.askT|apply Wp.iteKT|apply Wp.ikb|apply Wp.askb|apply Wp.step);case h=>((try simp(disch:=omega)only[↓reduceIte,ask_true,↓X0,X1,Nat.reduceEqDiff,Int.reduceEq,Nat.reduceAdd,Nat.reduceSub,X2,Hp_ne,Nat.reduceLeDiff,hbox3,show ¬ (0 : Int) ≤ -1 by decide,bld_insS]);with_reducible first|done|exact rfl|exact bT|exact bF))|apply Wp.andS|apply Wp.orS|with_reducible apply Wp.gu|simp only[↓X3]|simp(disch:=decide)only[asks_nil,asks_in,asks_out,askB_nil,askB_in,askB_out]|with_reducible apply Wp.assoc));try(with_reducible apply Wp.cargs;case h=>((try simp(disch:=omega)only[↓reduceIte,ask_true,↓X0,X1,Nat.reduceEqDiff,Int.reduceEq,Nat.reduceAdd,Nat.reduceSub,X2,Hp_ne,Nat.reduceLeDiff,hbox3,show ¬ (0 : Int) ≤ -1 by decide,bld_insS]);with_reducible exact rfl)))
     refine Wp.rta (k117 (h.mv (by omega) (hk3 c hcn) (hk3 il hil)) ⟨3,0,0,xs⟩) ?_
     rintro _ H4 n4 q4 s4 ⟨rfl,ul4,il4,i4,h4⟩
     (repeat(first|((with_reducible first|apply Wp.gs|apply Wp.cs|apply Wp.cselX|apply Wp.askT|apply Wp.iteKT|apply Wp.ikb|apply Wp.askb|apply Wp.step);case h=>((try simp(disch:=omega)only[↓reduceIte,ask_true,↓X0,X1,Nat.reduceEqDiff,Int.reduceEq,Nat.reduceAdd,Nat.reduceSub]);with_reducible first|done|exact rfl|exact bT|exact bF))|apply Wp.andS|apply Wp.orS|with_reducible apply Wp.gu|simp only[↓X3]|simp(disch:=decide)only[asks_nil,asks_in,asks_out,askB_nil,askB_in,askB_out]|with_reducible apply Wp.assoc))
     exact fin _ _ _ (by omega) (fun i a b c => (s4 i (by omega) b c).trans (hk3 i a)) ⟨_,Wk.refl _,ul4,il4,by omega,h4.mv (by omega) rfl rfl⟩ sym.symm
    | some ab =>
     obtain ⟨a,b⟩:=ab
     have hvi : varIns xs e = insOf 2 a b:=by unfold varIns; rw [hcv]
     rw [hvi] at sym
     simp only
     ((repeat(first|((with_reducible first|apply Wp.gs|apply Wp.cs|apply Wp.cselX|apply Wp.askT|apply Wp.iteKT|apply Wp.ikb|apply Wp.askb|apply Wp.step);case h=>((try simp(disch:=omega)only[↓reduceIte,ask_true,↓X0,X1,Nat.reduceEqDiff,Int.reduceEq,Nat.reduceAdd,Nat.reduceSub,X2,Hp_ne,Nat.reduceLeDiff,show (0 : Int) ≤ (a : Int) by omega,bld_ins]);with_reducible first|done|exact rfl|exact bT|exact bF))|apply Wp.andS|apply Wp.orS|with_reducible apply Wp.gu|simp only[↓X3]|simp(disch:=decide)only[asks_nil,asks_in,asks_out,askB_nil,askB_in,askB_out]|with_reducible apply Wp.assoc));try(with_reducible apply Wp.cargs;case h=>((try simp(disch:=omega)only[↓reduceIte,ask_true,↓X0,X1,Nat.reduceEqDiff,Int.reduceEq,Nat.reduceAdd,Nat.reduceSub,X2,Hp_ne,Nat.reduceLeDiff,show (0 : Int) ≤ (a : Int) by omega,bld_ins]);with_reducible exact rfl)))
     refine Wp.rta (k117 (h.mv (by omega) (hk3 c hcn) (hk3 il hil)) (insOf 2 a b)) ?_
     rintro _ H4 n4 q4 s4 ⟨rfl,ul4,il4,i4,h4⟩
     (repeat(first|((with_reducible first|apply Wp.gs|apply Wp.cs|apply Wp.cselX|apply Wp.askT|apply Wp.iteKT|apply Wp.ikb|apply Wp.askb|apply Wp.step);case h=>((try simp(disch:=omega)only[↓reduceIte,ask_true,↓X0,X1,Nat.reduceEqDiff,Int.reduceEq,Nat.reduceAdd,Nat.reduceSub]);with_reducible first|done|exact rfl|exact bT|exact bF))|apply Wp.andS|apply Wp.orS|with_reducible apply Wp.gu|simp only[↓X3]|simp(disch:=decide)only[asks_nil,asks_in,asks_out,askB_nil,askB_in,askB_out]|with_reducible apply Wp.assoc))
     exact fin _ _ _ (by omega) (fun i a b c => (s4 i (by omega) b c).trans (hk3 i a)) ⟨_,Wk.refl _,ul4,il4,by omega,h4.mv (by omega) rfl rfl⟩ sym.symm
  by_cases c5 : xk = 5
  case neg =>
   have hst:=h.st 1 (H':=(H.set (n + 13) (some (.row [.int .i64 xk,.int .i64 xn,.string xs,.int .i64 xa,.int .i64 xb] 0 true)))) (Hp_ne _ _ (by omega))
   (repeat(first|((with_reducible first|apply Wp.gs|apply Wp.cs|apply Wp.cselX|apply Wp.askT|apply Wp.iteKT|apply Wp.ikb|apply Wp.askb|apply Wp.step);case h=>((try simp(disch:=omega)only[↓reduceIte,ask_true,↓X0,X1,Nat.reduceEqDiff,Int.reduceEq,Nat.reduceAdd,Nat.reduceSub,X2,Hp_ne,Nat.reduceLeDiff,hc,hh,g,c1,c2,c3,c4,c5,hst]);with_reducible first|done|exact rfl|exact bT|exact bF))|apply Wp.andS|apply Wp.orS|with_reducible apply Wp.gu|simp only[↓X3]|simp(disch:=decide)only[asks_nil,asks_in,asks_out,askB_nil,askB_in,askB_out]|with_reducible apply Wp.assoc))
   exact nogood _ _ (by omega) (by intros;first|with_reducible rfl|simp(disch:=omega)only[Hp_ne,Hp_same]) (bad (by omega) c4 (fun h => c5 h.1)).symm
  subst c5
  have hmm:=chainOf_mem hp h0 h1
  have hcl:=chainOf_len h0 h1
  have hps:=hpos rfl
  ((repeat(first|((with_reducible first|apply Wp.gs|apply Wp.cs|apply Wp.cselX|apply Wp.askT|apply Wp.iteKT|apply Wp.ikb|apply Wp.askb|apply Wp.step);case h=>((try simp(disch:=omega)only[↓reduceIte,ask_true,↓X0,X1,Nat.reduceEqDiff,Int.reduceEq,Nat.reduceAdd,Nat.reduceSub,X2,Hp_ne,Nat.reduceLeDiff,hc,hh,g]);with_reducible first|done|exact rfl|exact bT|exact bF))|apply Wp.andS|apply Wp.orS|with_reducible apply Wp.gu|simp only[↓X3]|simp(disch:=decide)only[asks_nil,asks_in,asks_out,askB_nil,askB_in,askB_out]|with_reducible apply Wp.assoc));try(with_reducible apply Wp.cargs;case h=>((try simp(disch:=omega)only[↓reduceIte,ask_true,↓X0,X1,Nat.reduceEqDiff,Int.reduceEq,Nat.reduceAdd,Nat.reduceSub,X2,Hp_ne,Nat.reduceLeDiff,hc,hh,g]);with_reducible exact rfl)))
  refine Wp.rtn (k94 (hv.li.mv (by omega) (by intros;first|with_reducible rfl|simp(disch:=omega)only[Hp_ne,Hp_same])) hp _ h0 h1) ?_
  rintro _ H2 n2 q2 s2 ⟨up,rfl,hup⟩
  have hnt : notTup up = true:=by obtain ⟨_,_,_,p3⟩:=hup; rcases p3 with ⟨h,_⟩ | ⟨h,_⟩ <;> rw [h] <;> rfl
  have hk2 : ∀ i,i < n → H2 i = H i:=fun i hi => (s2 i (by omega)).trans (Hp_ne _ _ (by omega))
  have hc2 : H2 c = some (.row [v,ul,ud,.int .i64 s.how] 0 true):=(hk2 c hcn).trans hc
  by_cases hch : (chainOf p x).2 = true
  case neg =>
   have hlo : listOf p x = ([],false):=by unfold listOf; rw [if_neg hch]
   have hst:=h.st 1 (H':=H2) (hk2 c hcn)
   (repeat(first|((with_reducible first|apply Wp.gs|apply Wp.cs|apply Wp.cselX|apply Wp.askT|apply Wp.iteKT|apply Wp.ikb|apply Wp.askb|apply Wp.step);case h=>((try simp(disch:=omega)only[↓reduceIte,ask_true,↓X0,X1,Nat.reduceEqDiff,Int.reduceEq,Nat.reduceAdd,Nat.reduceSub,X2,Hp_ne,Nat.reduceLeDiff,hnt,hlo,hst]);with_reducible first|done|exact rfl|exact bT|exact bF))|apply Wp.andS|apply Wp.orS|with_reducible apply Wp.gu|simp only[↓X3]|simp(disch:=decide)only[asks_nil,asks_in,asks_out,askB_nil,askB_in,askB_out]|with_reducible apply Wp.assoc))
   exact nogood _ _ (by omega) hk2 (bad (by omega) c4 (fun h => hch h.2)).symm
  have hlo : listOf p x = ((chainOf p x).1,true):=by unfold listOf; rw [if_pos hch]
  rw [hlo] at hup
  simp only at hup
  have pair:=pair rfl hch
  obtain ⟨idp,p1,p2,p3⟩:=hup
  generalize hL : (chainOf p x).1 = L at *
  have m0:=gi_mem (l:=L) (i:=0) (by omega) (by omega)
  have r0:=hmm _ m0
  have gl:=(p3.lst (n:=n2) p2).iAll (i:=0) (by omega) (by omega)
  have g0:=(hv.li.mv (H':=H2) (Nat.le_refl _) hk2).nAll (i:=gi L 0) r0.1 (by omega)
  have hcl0 : (gi p (gi L 0)).cells = [.int .i64 (gi p (gi L 0)).k,.int .i64 (gi p (gi L 0)).n,.string (gi p (gi L 0)).s,.int .i64 (gi p (gi L 0)).a,.int .i64 (gi p (gi L 0)).b]:=rfl
  rw [hcl0] at g0
  have hlu : lenV false up = some (.int .i64 L.length):=(p3.lst (n:=n2) p2).len
  have hEl : ∀ y ∈ L,XR 124 v p (cExpr p k) y:=fun y hy => ih y (hmm y hy).1 (hmm y hy).2
  have rest : ∀ (T : Tm) (H4 : Hp) (n4 : Nat),n2 + 4 ≤ n4 → (∀ i,i < n2 → H4 i = H2 i) → ¬ 5 < L.length → T 0 = ptr c 0 → T 2 = ew → T 9 = up → T 12 = .int .i64 0 → F = cPut (insOf 7 0 ((L.length : Int) - 1)) (L.foldl (fun s x => cExpr p k x e s) s) → Wp ((Loop (S124L0 (Call Try.prog) Loop) T H4 n4).bind fun o86 => (lenV false (o86.t 9)).bind fun v93 => (binK .plain .sub v93 (.int .i64 1)).bind fun v94 => (bld [.int .i64 0,.int .i64 0,.int .i64 0,.string ⟨#[]⟩] [(0,1,.int .i64 7),(2,1,v94)]).bind fun v95 => (Call Try.prog 117 [o86.t 0,v95] o86.H (o86.n + 6)).bind fun q96 => some (Value.tuple ⟨[]⟩,q96.2.1,q96.2.2)) (fun q => n ≤ q.2.2 ∧ (∀ i,i < n → i ≠ c → i ≠ il → q.2.1 i = H i) ∧ q.1 = .tuple ⟨[]⟩ ∧ NextW c il n q.2.2 q.2.1 v ud F):=by
   intro T H4 n4 z1 z2 z3 t0 t2 t9 t12 z4
   have hk4 : ∀ i,i < n → H4 i = H i:=fun i hi => (z2 i (by omega)).trans (hk2 i hi)
   have hw1 : IntKind.i64.wrap ((L.length : Int) - 1) = (L.length : Int) - 1:=w64 (by omega)
   have hwl : LO eInt c il n4 H4 up L:=(p3.mv (z2 idp p2)).lo (by omega) (by omega) (by omega)
   refine Wp.bind (l124 (Goes.expr p k) hEl (h.mv (m:=n4) (by omega) (hk4 c hcn) (hk4 il hil)) (hv.mv (by omega) (fun i a _ _ => hk4 i a) (.inl rfl)) he (fun y hy => by have:=hmm y hy; omega) (hev.mv (by omega) (fun i a _ _ => hk4 i a) (.inl rfl)) hwl (by omega) T n4 (Nat.le_refl _) t0 t2 t9 t12) ?_
   rintro ⟨oe,ot,oH,on⟩ ⟨f1,f2,rfl,⟨a5,w5,ul5,il5,i5,h5'⟩,e0,e9⟩
   simp only at f1 f2 h5' e0 e9
   ((repeat(first|((with_reducible first|apply Wp.gs|apply Wp.cs|apply Wp.cselX|apply Wp.askT|apply Wp.iteKT|apply Wp.ikb|apply Wp.askb|apply Wp.step);case h=>((try simp(disch:=omega)only[↓reduceIte,ask_true,↓X0,X1,Nat.reduceEqDiff,Int.reduceEq,Nat.reduceAdd,Nat.reduceSub,e0,e9,hlu,hw1,bld_ins3]);with_reducible first|done|exact rfl|exact bT|exact bF))|apply Wp.andS|apply Wp.orS|with_reducible apply Wp.gu|simp only[↓X3]|simp(disch:=decide)only[asks_nil,asks_in,asks_out,askB_nil,askB_in,askB_out]|with_reducible apply Wp.assoc));try(with_reducible apply Wp.cargs;case h=>((try simp(disch:=omega)only[↓reduceIte,ask_true,↓X0,X1,Nat.reduceEqDiff,Int.reduceEq,Nat.reduceAdd,Nat.reduceSub,e0,e9,hlu,hw1,bld_ins3]);with_reducible exact rfl)))
   refine Wp.rta (k117 (h5'.mv (by omega) rfl rfl) (insOf 7 0 ((L.length : Int) - 1))) ?_
   rintro _ H6 n6 q6 s6 ⟨rfl,ul6,il6,i6,h6⟩
   have hcn5:=h5'.cn
   have w6:=w5.step (Goes.put (insOf 7 0 ((L.length : Int) - 1))) (Wk.refl _)
   (repeat(first|((with_reducible first|apply Wp.gs|apply Wp.cs|apply Wp.cselX|apply Wp.askT|apply Wp.iteKT|apply Wp.ikb|apply Wp.askb|apply Wp.step);case h=>((try simp(disch:=omega)only[↓reduceIte,ask_true,↓X0,X1,Nat.reduceEqDiff,Int.reduceEq,Nat.reduceAdd,Nat.reduceSub]);with_reducible first|done|exact rfl|exact bT|exact bF))|apply Wp.andS|apply Wp.orS|with_reducible apply Wp.gu|simp only[↓X3]|simp(disch:=decide)only[asks_nil,asks_in,asks_out,askB_nil,askB_in,askB_out]|with_reducible apply Wp.assoc))
   exact fin _ _ _ (by omega) (fun i a b c => by rw [s6 i (by omega) b (by omega),f2 i (by omega) b (by omega)]; exact hk4 i a) ⟨_,w6,ul6,il6,by omega,h6.mv (by omega) rfl rfl⟩ z4.symm
  by_cases k4 : (gi p (gi L 0)).k = 4
  ·((repeat(first|((with_reducible first|apply Wp.gs|apply Wp.cs|apply Wp.cselX|apply Wp.askT|apply Wp.iteKT|apply Wp.ikb|apply Wp.askb|apply Wp.step);case h=>((try simp(disch:=omega)only[↓reduceIte,ask_true,↓X0,X1,Nat.reduceEqDiff,Int.reduceEq,Nat.reduceAdd,Nat.reduceSub,X2,Hp_ne,Nat.reduceLeDiff,hnt,hlo,hc2,gl,g0,k4]);with_reducible first|done|exact rfl|exact bT|exact bF))|apply Wp.andS|apply Wp.orS|with_reducible apply Wp.gu|simp only[↓X3]|simp(disch:=decide)only[asks_nil,asks_in,asks_out,askB_nil,askB_in,askB_out]|with_reducible apply Wp.assoc));try(with_reducible apply Wp.cargs;case h=>((try simp(disch:=omega)only[↓reduceIte,ask_true,↓X0,X1,Nat.reduceEqDiff,Int.reduceEq,Nat.reduceAdd,Nat.reduceSub,X2,Hp_ne,Nat.reduceLeDiff,hnt,hlo,hc2,gl,g0,k4]);with_reducible exact rfl)))
   refine Wp.rt (k118 _ _ _) ?_
   intro H4 n4 q4 s4
   have hs4 : ∀ i,i < n2 → H4 i = H2 i:=fun i hi => (s4 i (by omega)).trans (Hp_ne _ _ (by omega))
   have hk4 : ∀ i,i < n → H4 i = H i:=fun i hi => (hs4 i (by omega)).trans (hk2 i hi)
   have hwl4 : LO eInt c il n4 H4 up L:=(p3.mv (hs4 idp p2)).lo (by omega) (by omega) (by omega)
   have hbox : H4 (n2 + 12) = some (.row [.int .i64 4,.int .i64 (gi p (gi L 0)).n,.string (gi p (gi L 0)).s,.int .i64 (gi p (gi L 0)).a,.int .i64 (gi p (gi L 0)).b] 0 true):=(s4 _ (by omega)).trans (Hp_same _ _ _)
   cases hsp : special (gi p (gi L 0)).s with
   | true =>
    rw [if_pos ⟨k4,hsp⟩] at pair
    ((repeat(first|((with_reducible first|apply Wp.gs|apply Wp.cs|apply Wp.cselX|apply Wp.askT|apply Wp.iteKT|apply Wp.ikb|apply Wp.askb|apply Wp.step);case h=>((try simp(disch:=omega)only[↓reduceIte,ask_true,↓X0,X1,Nat.reduceEqDiff,Int.reduceEq,Nat.reduceAdd,Nat.reduceSub,X2,Hp_ne,Nat.reduceLeDiff,hbox]);with_reducible first|done|exact rfl|exact bT|exact bF))|apply Wp.andS|apply Wp.orS|with_reducible apply Wp.gu|simp only[↓X3]|simp(disch:=decide)only[asks_nil,asks_in,asks_out,askB_nil,askB_in,askB_out]|with_reducible apply Wp.assoc));try(with_reducible apply Wp.cargs;case h=>((try simp(disch:=omega)only[↓reduceIte,ask_true,↓X0,X1,Nat.reduceEqDiff,Int.reduceEq,Nat.reduceAdd,Nat.reduceSub,X2,Hp_ne,Nat.reduceLeDiff,hbox]);with_reducible exact rfl)))
    refine Wp.rta (k130 hp (Goes.expr p k) hEl (h.mv (by omega) (hk4 c hcn) (hk4 il hil)) hh (hv.mv (by omega) (fun i a _ _ => hk4 i a) (.inl rfl)) he (fun y hy => by have:=hmm y hy; omega) (hev.mv (by omega) (fun i a _ _ => hk4 i a) (.inl rfl)) (hwl4.mv (by omega) (fun _ _ _ _ => rfl) (.inl rfl)) (fun y hy => by have:=hmm y hy; omega) (by omega)) ?_
    rintro _ H5 n5 q5 s5 ⟨rfl,a5,w5,ul5,il5,i5,h5⟩
    (repeat(first|((with_reducible first|apply Wp.gs|apply Wp.cs|apply Wp.cselX|apply Wp.askT|apply Wp.iteKT|apply Wp.ikb|apply Wp.askb|apply Wp.step);case h=>((try simp(disch:=omega)only[↓reduceIte,ask_true,↓X0,X1,Nat.reduceEqDiff,Int.reduceEq,Nat.reduceAdd,Nat.reduceSub]);with_reducible first|done|exact rfl|exact bT|exact bF))|apply Wp.andS|apply Wp.orS|with_reducible apply Wp.gu|simp only[↓X3]|simp(disch:=decide)only[asks_nil,asks_in,asks_out,askB_nil,askB_in,askB_out]|with_reducible apply Wp.assoc))
    exact fin _ _ _ (by omega) (fun i a b c => (s5 i (by omega) b c).trans (hk4 i a)) ⟨a5,w5,ul5,il5,by omega,h5.mv (by omega) rfl rfl⟩ pair.symm
   | false =>
    rw [if_neg (by rw [hsp]; rintro ⟨_,h⟩; cases h)] at pair
    by_cases h5 : 5 < L.length
    ·rw [if_pos h5] at pair
     have hst:=h.st 1 (H':=H4) (hk4 c hcn)
     (repeat(first|((with_reducible first|apply Wp.gs|apply Wp.cs|apply Wp.cselX|apply Wp.askT|apply Wp.iteKT|apply Wp.ikb|apply Wp.askb|apply Wp.step);case h=>((try simp(disch:=omega)only[↓reduceIte,ask_true,↓X0,X1,Nat.reduceEqDiff,Int.reduceEq,Nat.reduceAdd,Nat.reduceSub,X2,Hp_ne,Nat.reduceLeDiff,hlu,show (5 : Int) < (L.length : Int) by omega,hst]);with_reducible first|done|exact rfl|exact bT|exact bF))|apply Wp.andS|apply Wp.orS|with_reducible apply Wp.gu|simp only[↓X3]|simp(disch:=decide)only[asks_nil,asks_in,asks_out,askB_nil,askB_in,askB_out]|with_reducible apply Wp.assoc))
     exact nogood _ _ (by omega) hk4 pair.symm
    ·rw [if_neg h5] at pair
     (repeat(first|((with_reducible first|apply Wp.gs|apply Wp.cs|apply Wp.cselX|apply Wp.askT|apply Wp.iteKT|apply Wp.ikb|apply Wp.askb|apply Wp.step);case h=>((try simp(disch:=omega)only[↓reduceIte,ask_true,↓X0,X1,Nat.reduceEqDiff,Int.reduceEq,Nat.reduceAdd,Nat.reduceSub,hlu,show ¬ (5 : Int) < (L.length : Int) by omega]);with_reducible first|done|exact rfl|exact bT|exact bF))|apply Wp.andS|apply Wp.orS|with_reducible apply Wp.gu|simp only[↓X3]|simp(disch:=decide)only[asks_nil,asks_in,asks_out,askB_nil,askB_in,askB_out]|with_reducible apply Wp.assoc))
     exact rest _ _ _ (by omega) hs4 h5 (by simp [put_at,argsT_at]) (by simp [put_at,argsT_at]) (by simp [put_at]) (by simp [put_at]) pair
  ·rw [if_neg (fun h => k4 h.1)] at pair
   have hs4 : ∀ i,i < n2 → (H2.set (n2 + 12) (some (.row [.int .i64 (gi p (gi L 0)).k,.int .i64 (gi p (gi L 0)).n,.string (gi p (gi L 0)).s,.int .i64 (gi p (gi L 0)).a,.int .i64 (gi p (gi L 0)).b] 0 true))) i = H2 i:=fun i hi => Hp_ne _ _ (by omega)
   by_cases h5 : 5 < L.length
   ·rw [if_pos h5] at pair
    have hst:=h.st 1 (H':=H2.set (n2 + 12) (some (.row [.int .i64 (gi p (gi L 0)).k,.int .i64 (gi p (gi L 0)).n,.string (gi p (gi L 0)).s,.int .i64 (gi p (gi L 0)).a,.int .i64 (gi p (gi L 0)).b] 0 true))) ((hs4 c (by omega)).trans (hk2 c hcn))
    (repeat(first|((with_reducible first|apply Wp.gs|apply Wp.cs|apply Wp.cselX|apply Wp.askT|apply Wp.iteKT|apply Wp.ikb|apply Wp.askb|apply Wp.step);case h=>((try simp(disch:=omega)only[↓reduceIte,ask_true,↓X0,X1,Nat.reduceEqDiff,Int.reduceEq,Nat.reduceAdd,Nat.reduceSub,X2,Hp_ne,Nat.reduceLeDiff,hnt,hlo,hc2,gl,g0,k4,hlu,show (5 : Int) < (L.length : Int) by omega,hst]);with_reducible first|done|exact rfl|exact bT|exact bF))|apply Wp.andS|apply Wp.orS|with_reducible apply Wp.gu|simp only[↓X3]|simp(disch:=decide)only[asks_nil,asks_in,asks_out,askB_nil,askB_in,askB_out]|with_reducible apply Wp.assoc))
    exact nogood _ _ (by omega) (fun i hi => (hs4 i (by omega)).trans (hk2 i hi)) pair.symm
   ·rw [if_neg h5] at pair
    (repeat(first|((with_reducible first|apply Wp.gs|apply Wp.cs|apply Wp.cselX|apply Wp.askT|apply Wp.iteKT|apply Wp.ikb|apply Wp.askb|apply Wp.step);case h=>((try simp(disch:=omega)only[↓reduceIte,ask_true,↓X0,X1,Nat.reduceEqDiff,Int.reduceEq,Nat.reduceAdd,Nat.reduceSub,X2,Hp_ne,Nat.reduceLeDiff,hnt,hlo,hc2,gl,g0,k4,hlu,show ¬ (5 : Int) < (L.length : Int) by omega]);with_reducible first|done|exact rfl|exact bT|exact bF))|apply Wp.andS|apply Wp.orS|with_reducible apply Wp.gu|simp only[↓X3]|simp(disch:=decide)only[asks_nil,asks_in,asks_out,askB_nil,askB_in,askB_out]|with_reducible apply Wp.assoc))
    exact rest _ _ _ (by omega) hs4 h5 (by simp [put_at,argsT_at]) (by simp [put_at,argsT_at]) (by simp [put_at]) (by simp [put_at]) pair
end Go.Proofs.Ytbgkimkbngocjaa.Ax
set_option linter.unusedVariables false
set_option linter.unusedSimpArgs false
namespace Go.Proofs.Ytbgkimkbngocjaa.Ax
open Go
def mAcc : Nat → Int → ByteArray → ByteArray
 | 0,_,acc => acc
 | f + 1,k,acc => if 0 < k then mAcc f (k.tdiv 10) (strOf [IntKind.u8.wrap (48 + k.tmod 10)] ++ acc) else acc
def mText (k : Int) : ByteArray:=if k ≤ 0 then ⟨#[109,48]⟩ else ⟨#[109]⟩ ++ mAcc k.toNat k ⟨#[]⟩
theorem tdiv10 {k : Int} (h : 0 < k) : 0 ≤ k.tdiv 10 ∧ k.tdiv 10 < k:=by
 rw [Int.tdiv_eq_ediv_of_nonneg (by omega)]; omega
theorem tmod10 {k : Int} (h : 0 ≤ k) : 0 ≤ k.tmod 10 ∧ k.tmod 10 < 10:=by
 rw [Int.tmod_eq_emod_of_nonneg (by omega)]; omega
theorem l106 {m : Int} (hm : m ≤ 1000000000) : ∀ t H n,t 0 = .int .i64 m → t 3 = .string ⟨#[]⟩ → 0 ≤ m →
  Wp (Loop (S106L0 (Call Try.prog) Loop) t H n) (fun o => n ≤ o.n ∧ (∀ i,i < n → o.H i = H i) ∧ o.e = .exit 0 ∧ o.t 3 = .string (mAcc m.toNat m ⟨#[]⟩) ∧ (mAcc m.toNat m ⟨#[]⟩).size ≤ 1000000000):=by
 intro t H n e0 e3 hm0
 refine Loop_rule (fun d T H' n' => ∃ (k : Int) (acc : ByteArray),0 ≤ k ∧ k ≤ m ∧ k.toNat ≤ d ∧ n ≤ n' ∧ (∀ i,i < n → H' i = H i) ∧ T 0 = .int .i64 k ∧ T 3 = .string acc ∧ acc.size + d = m.toNat ∧ mAcc d k acc = mAcc m.toNat m ⟨#[]⟩) _ ?_ m.toNat t H n ⟨m,⟨#[]⟩,by omega,by omega,by omega,by omega,fun _ _ => rfl,e0,e3,by simp [ByteArray.size],rfl⟩
 rintro d T H' n' ⟨k,acc,hk0,hkm,hd,hn,s0,e0,e3,hsz,hres⟩
 unfold S106L0
 by_cases hk : 0 < k
 ·have h1:=tdiv10 hk
  have h2:=tmod10 hk0
  obtain ⟨d,rfl⟩ : ∃ d',d = d' + 1:=⟨d - 1,by omega⟩
  have w1 : IntKind.i64.wrap (48 + k.tmod 10) = 48 + k.tmod 10:=w64 (by omega)
  have w2 : IntKind.i64.wrap (k.tdiv 10) = k.tdiv 10:=w64 (by omega)
  have w3:=s_add (a:=strOf [IntKind.u8.wrap (48 + k.tmod 10)]) (b:=acc) (by rw [strOf1_size]; omega)
  ((repeat(first|((with_reducible first|apply Wp.gs|apply Wp.cs|apply Wp.cselX|apply Wp.askT|apply Wp.iteKT|apply Wp.ikb|apply Wp.askb|apply Wp.step);case h=>((try simp(disch:=omega)only[↓reduceIte,ask_true,↓X0,X1,Nat.reduceEqDiff,Int.reduceEq,Nat.reduceAdd,Nat.reduceSub,X2,Hp_ne,Nat.reduceLeDiff,e0,e3,hk,w1,w2,bsl_b,conv_b,w3]);with_reducible first|done|exact rfl|exact bT|exact bF))|apply Wp.andS|apply Wp.orS|with_reducible apply Wp.gu|simp only[↓X3]|simp(disch:=decide)only[asks_nil,asks_in,asks_out,askB_nil,askB_in,askB_out]|with_reducible apply Wp.assoc));try(with_reducible apply Wp.cargs;case h=>((try simp(disch:=omega)only[↓reduceIte,ask_true,↓X0,X1,Nat.reduceEqDiff,Int.reduceEq,Nat.reduceAdd,Nat.reduceSub,X2,Hp_ne,Nat.reduceLeDiff,e0,e3,hk,w1,w2,bsl_b,conv_b,w3]);with_reducible exact rfl)))
  rw [mAcc,if_pos hk] at hres
  exact Wp.pure (Nxt.go d (by omega) ⟨k.tdiv 10,_,by omega,by omega,by omega,by omega,(by intros;first|with_reducible rfl|simp(disch:=omega)only[Hp_ne,Hp_same,s0]),by simp [put_at],by simp [put_at],by rw [ba_app,strOf1_size]; omega,hres⟩)
 ·((repeat(first|((with_reducible first|apply Wp.gs|apply Wp.cs|apply Wp.cselX|apply Wp.askT|apply Wp.iteKT|apply Wp.ikb|apply Wp.askb|apply Wp.step);case h=>((try simp(disch:=omega)only[↓reduceIte,ask_true,↓X0,X1,Nat.reduceEqDiff,Int.reduceEq,Nat.reduceAdd,Nat.reduceSub,e0,e3,hk]);with_reducible first|done|exact rfl|exact bT|exact bF))|apply Wp.andS|apply Wp.orS|with_reducible apply Wp.gu|simp only[↓X3]|simp(disch:=decide)only[asks_nil,asks_in,asks_out,askB_nil,askB_in,askB_out]|with_reducible apply Wp.assoc));try(with_reducible apply Wp.cargs;case h=>((try simp(disch:=omega)only[↓reduceIte,ask_true,↓X0,X1,Nat.reduceEqDiff,Int.reduceEq,Nat.reduceAdd,Nat.reduceSub,e0,e3,hk]);with_reducible exact rfl)))
  have hk' : k = 0:=by omega
  have hr : mAcc d k acc = acc:=by cases d <;> simp [mAcc,hk]
  rw [hr] at hres
  exact Wp.pure (Nxt.exit ⟨by simp only; omega,s0,rfl,by simp [put_at,e3,hres],by rw [← hres]; omega⟩)
theorem k106 (k : Int) (hk : k ≤ 1000000000) (H : Hp) (n : Nat) : Rt Try.prog 106 [.int .i64 k] H n (.string (mText k)):=by
 apply Rt.mk
 rw [c106]; unfold S106 mText
 by_cases h : k ≤ 0
 ·(repeat(first|((with_reducible first|apply Wp.gs|apply Wp.cs|apply Wp.cselX|apply Wp.askT|apply Wp.iteKT|apply Wp.ikb|apply Wp.askb|apply Wp.step);case h=>((try simp(disch:=omega)only[↓reduceIte,ask_true,↓X0,X1,Nat.reduceEqDiff,Int.reduceEq,Nat.reduceAdd,Nat.reduceSub,h]);with_reducible first|done|exact rfl|exact bT|exact bF))|apply Wp.andS|apply Wp.orS|with_reducible apply Wp.gu|simp only[↓X3]|simp(disch:=decide)only[asks_nil,asks_in,asks_out,askB_nil,askB_in,askB_out]|with_reducible apply Wp.assoc))
  exact Wp.pure ⟨by simp only; omega,fun _ _ => rfl,by simp only [h,if_true]⟩
 ·(repeat(first|((with_reducible first|apply Wp.gs|apply Wp.cs|apply Wp.cselX|apply Wp.askT|apply Wp.iteKT|apply Wp.ikb|apply Wp.askb|apply Wp.step);case h=>((try simp(disch:=omega)only[↓reduceIte,ask_true,↓X0,X1,Nat.reduceEqDiff,Int.reduceEq,Nat.reduceAdd,Nat.reduceSub,h]);with_reducible first|done|exact rfl|exact bT|exact bF))|apply Wp.andS|apply Wp.orS|with_reducible apply Wp.gu|simp only[↓X3]|simp(disch:=decide)only[asks_nil,asks_in,asks_out,askB_nil,askB_in,askB_out]|with_reducible apply Wp.assoc))
  refine Wp.bind (l106 hk _ _ _ (by simp [put_at,argsT_at]) (by simp [put_at]) (by omega)) ?_
  rintro ⟨oe,ot,oH,on⟩ ⟨f1,f2,rfl,f4,f5⟩
  simp only at f1 f2 f4 f5
  have w3:=s_add (a:=⟨#[109]⟩) (b:=mAcc k.toNat k ⟨#[]⟩) (by have : (⟨#[109]⟩ : ByteArray).size = 1:=rfl; omega)
  (repeat(first|((with_reducible first|apply Wp.gs|apply Wp.cs|apply Wp.cselX|apply Wp.askT|apply Wp.iteKT|apply Wp.ikb|apply Wp.askb|apply Wp.step);case h=>((try simp(disch:=omega)only[↓reduceIte,ask_true,↓X0,X1,Nat.reduceEqDiff,Int.reduceEq,Nat.reduceAdd,Nat.reduceSub,f4,w3]);with_reducible first|done|exact rfl|exact bT|exact bF))|apply Wp.andS|apply Wp.orS|with_reducible apply Wp.gu|simp only[↓X3]|simp(disch:=decide)only[asks_nil,asks_in,asks_out,askB_nil,askB_in,askB_out]|with_reducible apply Wp.assoc))
  exact Wp.pure ⟨by simp only; omega,(by intros;first|with_reducible rfl|simp(disch:=omega)only[Hp_ne,Hp_same,f2]),by simp only [h,if_false]⟩
theorem l28 {n0 : Nat} {H0 : Hp} {v1 v2 : Value} {a b : List Int} (h1 : Li eInt n0 H0 v1 a) (h2 : Li eInt n0 H0 v2 b) (hab : a.length = b.length) (hl : a.length ≤ 1000000000) : ∀ t n,t 0 = v1 → t 1 = v2 → t 5 = .int .i64 0 →
  Wp (Loop (S28L0 (Call Try.prog) Loop) t H0 n) (fun o => n ≤ o.n ∧ o.H = H0 ∧ ((o.e = .exit 0 ∧ a = b) ∨ (o.e = .ret ∧ o.t 4 = .bool false ∧ a ≠ b))):=by
 intro t n e0 e1 e5
 refine Loop_rule (fun d t H n' => ∃ (j : Nat),j + d = a.length ∧ n ≤ n' ∧ H = H0 ∧ t 0 = v1 ∧ t 1 = v2 ∧ t 5 = .int .i64 j ∧ a.take j = b.take j) _ ?_ a.length t H0 n ⟨0,by omega,by omega,rfl,e0,e1,e5,by simp⟩
 rintro d t H n' ⟨j,hj,hn,rfl,e0,e1,e5,htk⟩
 unfold S28L0
 by_cases hlt : (j : Int) < a.length
 ·have ha : j < a.length:=by omega
  have hb : j < b.length:=by omega
  have q1:=h1.iAll (by omega) hlt
  have q2:=h2.iAll (i:=(j : Int)) (by omega) (by omega)
  have hw:=wj (j:=j) (len:=a.length) ha (by omega)
  by_cases he : gi a (j : Int) = gi b (j : Int)
  ·(repeat(first|((with_reducible first|apply Wp.gs|apply Wp.cs|apply Wp.cselX|apply Wp.askT|apply Wp.iteKT|apply Wp.ikb|apply Wp.askb|apply Wp.step);case h=>((try simp(disch:=omega)only[↓reduceIte,ask_true,↓X0,X1,Nat.reduceEqDiff,Int.reduceEq,Nat.reduceAdd,Nat.reduceSub,e0,e1,e5,h1.len,hlt,q1,q2,he,hw]);with_reducible first|done|exact rfl|exact bT|exact bF))|apply Wp.andS|apply Wp.orS|with_reducible apply Wp.gu|simp only[↓X3]|simp(disch:=decide)only[asks_nil,asks_in,asks_out,askB_nil,askB_in,askB_out]|with_reducible apply Wp.assoc))
   exact Wp.pure (Nxt.go (d - 1) (by omega) ⟨j + 1,by omega,by omega,rfl,by simp [put_at,e0],by simp [put_at,e1],by simp [put_at],by rw [take_next ha,take_next hb,htk,← gi_nat ha,← gi_nat hb,he]⟩)
  ·(repeat(first|((with_reducible first|apply Wp.gs|apply Wp.cs|apply Wp.cselX|apply Wp.askT|apply Wp.iteKT|apply Wp.ikb|apply Wp.askb|apply Wp.step);case h=>((try simp(disch:=omega)only[↓reduceIte,ask_true,↓X0,X1,Nat.reduceEqDiff,Int.reduceEq,Nat.reduceAdd,Nat.reduceSub,e0,e1,e5,h1.len,hlt,q1,q2,he,hw]);with_reducible first|done|exact rfl|exact bT|exact bF))|apply Wp.andS|apply Wp.orS|with_reducible apply Wp.gu|simp only[↓X3]|simp(disch:=decide)only[asks_nil,asks_in,asks_out,askB_nil,askB_in,askB_out]|with_reducible apply Wp.assoc))
   exact Wp.pure (Nxt.ret ⟨by simp only; omega,rfl,.inr ⟨rfl,by simp [put_at],fun h => he (by rw [h])⟩⟩)
 ·((repeat(first|((with_reducible first|apply Wp.gs|apply Wp.cs|apply Wp.cselX|apply Wp.askT|apply Wp.iteKT|apply Wp.ikb|apply Wp.askb|apply Wp.step);case h=>((try simp(disch:=omega)only[↓reduceIte,ask_true,↓X0,X1,Nat.reduceEqDiff,Int.reduceEq,Nat.reduceAdd,Nat.reduceSub,e0,e1,e5,h1.len,hlt]);with_reducible first|done|exact rfl|exact bT|exact bF))|apply Wp.andS|apply Wp.orS|with_reducible apply Wp.gu|simp only[↓X3]|simp(disch:=decide)only[asks_nil,asks_in,asks_out,askB_nil,askB_in,askB_out]|with_reducible apply Wp.assoc));try(with_reducible apply Wp.cargs;case h=>((try simp(disch:=omega)only[↓reduceIte,ask_true,↓X0,X1,Nat.reduceEqDiff,Int.reduceEq,Nat.reduceAdd,Nat.reduceSub,e0,e1,e5,h1.len,hlt]);with_reducible exact rfl)))
  rw [List.take_of_length_le (by omega),List.take_of_length_le (by omega)] at htk
  exact Wp.pure (Nxt.exit ⟨Nat.le_trans hn (Nat.le_add_right _ _),rfl,.inl ⟨rfl,htk⟩⟩)
theorem k28 {n : Nat} {H : Hp} {v1 v2 : Value} {a b : List Int} (h1 : Li eInt n H v1 a) (h2 : Li eInt n H v2 b) (hl : a.length ≤ 1000000000) : Rt Try.prog 28 [v1,v2] H n (.bool (decide (a = b))):=by
 apply Rt.mk
 rw [c28]; unfold S28
 by_cases hab : (a.length : Int) = b.length
 ·(repeat(first|((with_reducible first|apply Wp.gs|apply Wp.cs|apply Wp.cselX|apply Wp.askT|apply Wp.iteKT|apply Wp.ikb|apply Wp.askb|apply Wp.step);case h=>((try simp(disch:=omega)only[↓reduceIte,ask_true,↓X0,X1,Nat.reduceEqDiff,Int.reduceEq,Nat.reduceAdd,Nat.reduceSub,h1.len,h2.len,hab]);with_reducible first|done|exact rfl|exact bT|exact bF))|apply Wp.andS|apply Wp.orS|with_reducible apply Wp.gu|simp only[↓X3]|simp(disch:=decide)only[asks_nil,asks_in,asks_out,askB_nil,askB_in,askB_out]|with_reducible apply Wp.assoc))
  refine Wp.bind (l28 h1 h2 (by omega) hl _ _ (by simp [put_at,argsT_at]) (by simp [put_at,argsT_at]) (by simp [put_at])) ?_
  rintro ⟨oe,ot,oH,on⟩ ⟨f1,rfl,f2⟩
  simp only at f1 f2
  rcases f2 with ⟨rfl,f2⟩ | ⟨rfl,f2,f3⟩
  ·simp(disch:=omega)only[↓reduceIte,ask_true,↓X0,X1,Nat.reduceEqDiff,Int.reduceEq,Nat.reduceAdd,Nat.reduceSub]
   exact Wp.pure ⟨by simp only; omega,fun _ _ => rfl,by simp only [f2,decide_true]⟩
  ·simp(disch:=omega)only[↓reduceIte,ask_true,↓X0,X1,Nat.reduceEqDiff,Int.reduceEq,Nat.reduceAdd,Nat.reduceSub,f2]
   exact Wp.pure ⟨by simp only; omega,fun _ _ => rfl,by simp only [f3,decide_false]⟩
 ·(repeat(first|((with_reducible first|apply Wp.gs|apply Wp.cs|apply Wp.cselX|apply Wp.askT|apply Wp.iteKT|apply Wp.ikb|apply Wp.askb|apply Wp.step);case h=>((try simp(disch:=omega)only[↓reduceIte,ask_true,↓X0,X1,Nat.reduceEqDiff,Int.reduceEq,Nat.reduceAdd,Nat.reduceSub,h1.len,h2.len,hab]);with_reducible first|done|exact rfl|exact bT|exact bF))|apply Wp.andS|apply Wp.orS|with_reducible apply Wp.gu|simp only[↓X3]|simp(disch:=decide)only[asks_nil,asks_in,asks_out,askB_nil,askB_in,askB_out]|with_reducible apply Wp.assoc))
  exact Wp.pure ⟨by simp only; omega,fun _ _ => rfl,by simp only [show ¬ a = b from fun h => hab (by rw [h]),decide_false]⟩
theorem l30 {id n0 : Nat} {H0 : Hp} {l : List Int} {k : Int} (hk : 0 ≤ k ∧ k ≤ 100000000) (hl : l.length ≤ 100000000) (hid : id < n0) (h : H0 id = some (.row (l.flatMap eInt.cells) 1 true)) : ∀ t n,n0 ≤ n → t 0 = sl id 0 l.length → t 1 = .int .i64 k → t 5 = .int .i64 0 →
  Wp (Loop (S30L0 (Call Try.prog) Loop) t H0 n) (fun o => n ≤ o.n ∧ (∀ i,i < n0 → i ≠ id → o.H i = H0 i) ∧ o.e = .exit 0 ∧ o.t 1 = .int .i64 (k + l.length) ∧ o.H id = some (.row ((fam (fun i => k + (i : Int)) l.length).flatMap eInt.cells) 1 true)):=by
 intro t n hn0 e0 e1 e5
 refine Loop_rule (fun d t H n' => ∃ (j : Nat),j + d = l.length ∧ n ≤ n' ∧ (∀ i,i < n0 → i ≠ id → H i = H0 i) ∧ t 0 = sl id 0 l.length ∧ t 1 = .int .i64 (k + j) ∧ t 5 = .int .i64 j ∧ H id = some (.row ((fam (fun i => k + (i : Int)) j ++ l.drop j).flatMap eInt.cells) 1 true)) _ ?_ l.length t H0 n ⟨0,by omega,by omega,fun _ _ _ => rfl,e0,by simpa using e1,e5,by simpa [fam] using h⟩
 rintro d t H n' ⟨j,hj,hn,s0,e0,e1,e5,hH⟩
 unfold S30L0
 by_cases hlt : j < l.length
 ·have hlti : (j : Int) < l.length:=by omega
  have hw:=wj (j:=j) (len:=l.length) hlt (by omega)
  have hw2 : IntKind.i64.wrap (k + (j : Int) + 1) = k + ((j + 1 : Nat) : Int):=by rw [w64 (by omega)]; omega
  have hst:=st_el1 (E:=eInt) hH (j:=j) (by rw [fam_drop_len _ (by omega)]; exact hlt) (y:=k + (j : Int)) rfl rfl rfl
  rw [fam_set (fun i => k + (i : Int)) hlt] at hst
  have hix:=idx_sl (sz:=1) (id:=id) (k:=.i64) hlt
  rw [Nat.mul_one] at hix
  (repeat(first|((with_reducible first|apply Wp.gs|apply Wp.cs|apply Wp.cselX|apply Wp.askT|apply Wp.iteKT|apply Wp.ikb|apply Wp.askb|apply Wp.step);case h=>((try simp(disch:=omega)only[↓reduceIte,ask_true,↓X0,X1,Nat.reduceEqDiff,Int.reduceEq,Nat.reduceAdd,Nat.reduceSub,e0,e1,e5,hlti,hix,hst,hw,hw2]);with_reducible first|done|exact rfl|exact bT|exact bF))|apply Wp.andS|apply Wp.orS|with_reducible apply Wp.gu|simp only[↓X3]|simp(disch:=decide)only[asks_nil,asks_in,asks_out,askB_nil,askB_in,askB_out]|with_reducible apply Wp.assoc))
  exact Wp.pure (Nxt.go (d - 1) (by omega) ⟨j + 1,by omega,by omega,(by intros;first|with_reducible rfl|simp(disch:=omega)only[Hp_ne,Hp_same,s0]),by simp [put_at,e0],by simp [put_at],by simp [put_at],Hp_same _ _ _⟩)
 ·have hlti : ¬ (j : Int) < l.length:=by omega
  ((repeat(first|((with_reducible first|apply Wp.gs|apply Wp.cs|apply Wp.cselX|apply Wp.askT|apply Wp.iteKT|apply Wp.ikb|apply Wp.askb|apply Wp.step);case h=>((try simp(disch:=omega)only[↓reduceIte,ask_true,↓X0,X1,Nat.reduceEqDiff,Int.reduceEq,Nat.reduceAdd,Nat.reduceSub,e0,e1,e5,hlti]);with_reducible first|done|exact rfl|exact bT|exact bF))|apply Wp.andS|apply Wp.orS|with_reducible apply Wp.gu|simp only[↓X3]|simp(disch:=decide)only[asks_nil,asks_in,asks_out,askB_nil,askB_in,askB_out]|with_reducible apply Wp.assoc));try(with_reducible apply Wp.cargs;case h=>((try simp(disch:=omega)only[↓reduceIte,ask_true,↓X0,X1,Nat.reduceEqDiff,Int.reduceEq,Nat.reduceAdd,Nat.reduceSub,e0,e1,e5,hlti]);with_reducible exact rfl)))
  have hjl : j = l.length:=by omega
  subst hjl
  exact Wp.pure (Nxt.exit ⟨Nat.le_trans hn (Nat.le_add_right _ _),s0,rfl,by simp [put_at,e1],by simpa using hH⟩)
theorem k30 {id n : Nat} {H : Hp} {v : Value} {l : List Int} (h : At eInt id H v l) (hid : id < n) (k : Int) (hk : 0 ≤ k ∧ k ≤ 100000000) (hl : l.length ≤ 100000000) : RtM Try.prog 30 [v,.int .i64 k] id H n (.int .i64 (k + l.length)) (fun H' n' => At eInt id H' v (fam (fun i => k + (i : Int)) l.length)):=by
 apply RtM.of
 rw [c30]; unfold S30
 rcases h with ⟨rfl,rfl⟩ | ⟨rfl,h⟩
 ·rw [Loop_eq]
  unfold S30L0
  simp(disch:=omega)only[↓reduceIte,ask_true,↓X0,X1,Nat.reduceEqDiff,Int.reduceEq,Nat.reduceAdd,Nat.reduceSub,thenO]
  exact Wp.pure ⟨by simp only; omega,fun _ _ _ => rfl,by simp [put_at,argsT_at],.inl ⟨rfl,rfl⟩⟩
 ·refine Wp.bind (l30 hk hl hid h _ _ (by omega) (by simp [put_at,argsT_at]) (by simp [put_at,argsT_at]) (by simp [put_at])) ?_
  rintro ⟨oe,ot,oH,on⟩ ⟨f1,f2,rfl,f4,f5⟩
  simp only at f1 f2 f4 f5
  simp(disch:=omega)only[↓reduceIte,ask_true,↓X0,X1,Nat.reduceEqDiff,Int.reduceEq,Nat.reduceAdd,Nat.reduceSub,f4]
  exact Wp.pure ⟨by simp only; omega,f2,rfl,.inr ⟨by rw [fam_len],f5⟩⟩
theorem set_next {α : Type} {l : List α} {j d : Nat} {z : α} (h : j < l.length) : (l.take j ++ List.replicate (d + 1) z).set j l[j] = l.take (j + 1) ++ List.replicate d z:=by
 rw [take_next h,List.replicate_succ,List.set_append_right _ _ (by rw [List.length_take]; omega),List.length_take,Nat.min_eq_left (by omega),Nat.sub_self,List.set_cons_zero,List.append_assoc]
 rfl
theorem k25 {n : Nat} {H : Hp} {v : Value} {l : List Int} (hv : Li eInt n H v l) (hl : l.length ≤ 100000000) : RtN Try.prog 25 [v] H n (fun w H' n' => New eInt n n' H' w l):=by
 apply RtN.mk
 rw [c25]; unfold S25
 have hm:=mks_new eInt (0 : Int) (id:=n + 3) (bytes:=8) (k:=l.length) H (by decide) (by omega)
 (repeat(first|((with_reducible first|apply Wp.gs|apply Wp.cs|apply Wp.cselX|apply Wp.askT|apply Wp.iteKT|apply Wp.ikb|apply Wp.askb|apply Wp.step);case h=>((try simp(disch:=omega)only[↓reduceIte,ask_true,↓X0,X1,Nat.reduceEqDiff,Int.reduceEq,Nat.reduceAdd,Nat.reduceSub,hv.len,hm]);with_reducible first|done|exact rfl|exact bT|exact bF))|apply Wp.andS|apply Wp.orS|with_reducible apply Wp.gu|simp only[↓X3]|simp(disch:=decide)only[asks_nil,asks_in,asks_out,askB_nil,askB_in,askB_out]|with_reducible apply Wp.assoc))
 refine Wp.bind (Loop_rule (fun d t H' n' => ∃ j : Nat,j + d = l.length ∧ n + 6 ≤ n' ∧ (∀ i,i < n → H' i = H i) ∧ t 0 = v ∧ t 3 = sl (n + 3) 0 l.length ∧ t 4 = .int .i64 j ∧ H' (n + 3) = some (.row ((l.take j ++ List.replicate d (0 : Int)).flatMap eInt.cells) 1 true)) (fun o => n + 6 ≤ o.n ∧ (∀ i,i < n → o.H i = H i) ∧ o.e = .exit 0 ∧ o.t 3 = sl (n + 3) 0 l.length ∧ o.H (n + 3) = some (.row (l.flatMap eInt.cells) 1 true)) ?_ l.length _ (H.set (n + 3) (some (.row ((List.replicate l.length (0 : Int)).flatMap eInt.cells) eInt.sz true))) _ ⟨0,by omega,by omega,(by intros;first|with_reducible rfl|simp(disch:=omega)only[Hp_ne,Hp_same]),by simp [put_at,argsT_at],by simp [put_at],by simp [put_at],Hp_same _ _ _⟩) ?_
 ·rintro d t H' n' ⟨j,hj,hn,s0,e0,e3,e4,hH⟩
  unfold S25L0
  have hlen:=(hv.mv (H':=H') (Nat.le_refl _) s0).len
  by_cases hlt : j < l.length
  ·have hlti : (j : Int) < l.length:=by omega
   obtain ⟨d,rfl⟩ : ∃ d',d = d' + 1:=⟨d - 1,by omega⟩
   have hw:=wj (j:=j) (len:=l.length) hlt (by omega)
   have g:=(hv.mv (H':=H') (Nat.le_refl _) s0).iAll (i:=(j : Int)) (by omega) hlti
   rw [gi_nat hlt] at g
   have hst:=st_el1 (E:=eInt) hH (j:=j) (by simp; omega) (y:=l[j]) rfl rfl rfl
   rw [set_next hlt] at hst
   have hix:=idx_sl (sz:=1) (id:=n + 3) (k:=.i64) hlt
   rw [Nat.mul_one] at hix
   (repeat(first|((with_reducible first|apply Wp.gs|apply Wp.cs|apply Wp.cselX|apply Wp.askT|apply Wp.iteKT|apply Wp.ikb|apply Wp.askb|apply Wp.step);case h=>((try simp(disch:=omega)only[↓reduceIte,ask_true,↓X0,X1,Nat.reduceEqDiff,Int.reduceEq,Nat.reduceAdd,Nat.reduceSub,e0,e3,e4,hlen,hlti,g,hix,hst,hw]);with_reducible first|done|exact rfl|exact bT|exact bF))|apply Wp.andS|apply Wp.orS|with_reducible apply Wp.gu|simp only[↓X3]|simp(disch:=decide)only[asks_nil,asks_in,asks_out,askB_nil,askB_in,askB_out]|with_reducible apply Wp.assoc))
   exact Wp.pure (Nxt.go d (by omega) ⟨j + 1,by omega,by omega,(by intros;first|with_reducible rfl|simp(disch:=omega)only[Hp_ne,Hp_same,s0]),by simp [put_at,e0],by simp [put_at,e3],by simp [put_at],Hp_same _ _ _⟩)
  ·have hlti : ¬ (j : Int) < l.length:=by omega
   ((repeat(first|((with_reducible first|apply Wp.gs|apply Wp.cs|apply Wp.cselX|apply Wp.askT|apply Wp.iteKT|apply Wp.ikb|apply Wp.askb|apply Wp.step);case h=>((try simp(disch:=omega)only[↓reduceIte,ask_true,↓X0,X1,Nat.reduceEqDiff,Int.reduceEq,Nat.reduceAdd,Nat.reduceSub,e0,e3,e4,hlen,hlti]);with_reducible first|done|exact rfl|exact bT|exact bF))|apply Wp.andS|apply Wp.orS|with_reducible apply Wp.gu|simp only[↓X3]|simp(disch:=decide)only[asks_nil,asks_in,asks_out,askB_nil,askB_in,askB_out]|with_reducible apply Wp.assoc));try(with_reducible apply Wp.cargs;case h=>((try simp(disch:=omega)only[↓reduceIte,ask_true,↓X0,X1,Nat.reduceEqDiff,Int.reduceEq,Nat.reduceAdd,Nat.reduceSub,e0,e3,e4,hlen,hlti]);with_reducible exact rfl)))
   have hd : d = 0:=by omega
   subst hd
   rw [List.take_of_length_le (by omega)] at hH
   exact Wp.pure (Nxt.exit ⟨by simp only; omega,s0,rfl,by simp [put_at,e3],by simpa using hH⟩)
 ·rintro ⟨oe,ot,oH,on⟩ ⟨f1,f2,rfl,f4,f5⟩
  simp only at f1 f2 f4 f5
  (repeat(first|((with_reducible first|apply Wp.gs|apply Wp.cs|apply Wp.cselX|apply Wp.askT|apply Wp.iteKT|apply Wp.ikb|apply Wp.askb|apply Wp.step);case h=>((try simp(disch:=omega)only[↓reduceIte,ask_true,↓X0,X1,Nat.reduceEqDiff,Int.reduceEq,Nat.reduceAdd,Nat.reduceSub,f4]);with_reducible first|done|exact rfl|exact bT|exact bF))|apply Wp.andS|apply Wp.orS|with_reducible apply Wp.gu|simp only[↓X3]|simp(disch:=decide)only[asks_nil,asks_in,asks_out,askB_nil,askB_in,askB_out]|with_reducible apply Wp.assoc))
  exact Wp.pure ⟨by simp only; omega,f2,n + 3,by omega,by simp only; omega,.inr ⟨f4,f5⟩⟩
end Go.Proofs.Ytbgkimkbngocjaa.Ax
set_option linter.unusedVariables false
set_option linter.unusedSimpArgs false
namespace Go.Proofs.Ytbgkimkbngocjaa.Ax
open Go
def nMark (k : Int) (i : Nat) : Nd:=⟨k + 5 * i,k + 5 * i + 1,mText (k + 5 * i + 2),k + 5 * i + 3,k + 5 * i + 4⟩
theorem st_fc {α : Type} {E : Enc α} {id : Nat} {H : Hp} {l : List α} (h : H id = some (.row (l.flatMap E.cells) E.sz true)) {j f : Nat} (hj : j < l.length) (hf : f < E.sz) {y : α} {c : Value} (h1 : cell1 c = true) (hy : E.cells y = setAt (E.cells l[j]) f [c]) : st false 1 (ptr id (j * E.sz + f)) c H = some (H.set id (some (.row ((l.set j y).flatMap E.cells) E.sz true))):=by
 rw [st_c h1]; exact st_fld h hj hf hy
theorem l71 {id n0 : Nat} {H0 : Hp} {l : List Nd} {k : Int} (hk : 0 ≤ k ∧ k ≤ 100000000) (hl : l.length ≤ 10000000) (hid : id < n0) (h : H0 id = some (.row (l.flatMap eNode.cells) 5 true)) : ∀ t n,n0 ≤ n → t 0 = sl id 0 l.length → t 1 = .int .i64 k → t 5 = .int .i64 0 →
  Wp (Loop (S71L0 (Call Try.prog) Loop) t H0 n) (fun o => n ≤ o.n ∧ (∀ i,i < n0 → i ≠ id → o.H i = H0 i) ∧ o.e = .exit 0 ∧ o.t 1 = .int .i64 (k + 5 * l.length) ∧ o.H id = some (.row ((fam (nMark k) l.length).flatMap eNode.cells) 5 true)):=by
 intro t n hn0 e0 e1 e5
 refine Loop_rule (fun d t H n' => ∃ (j : Nat),j + d = l.length ∧ n ≤ n' ∧ (∀ i,i < n0 → i ≠ id → H i = H0 i) ∧ t 0 = sl id 0 l.length ∧ t 1 = .int .i64 (k + 5 * j) ∧ t 5 = .int .i64 j ∧ H id = some (.row ((fam (nMark k) j ++ l.drop j).flatMap eNode.cells) 5 true)) _ ?_ l.length t H0 n ⟨0,by omega,by omega,fun _ _ _ => rfl,e0,by simpa using e1,e5,by simpa [fam] using h⟩
 rintro d t H n' ⟨j,hj,hn,s0,e0,e1,e5,hH⟩
 unfold S71L0
 by_cases hlt : j < l.length
 ·have hlti : (j : Int) < l.length:=by omega
  have hw:=wj (j:=j) (len:=l.length) hlt (by omega)
  have w1 : IntKind.i64.wrap (k + 5 * (j : Int) + 1) = k + 5 * j + 1:=w64 (by omega)
  have w2 : IntKind.i64.wrap (k + 5 * (j : Int) + 1 + 1) = k + 5 * j + 2:=by rw [w64 (by omega)]; omega
  have w3 : IntKind.i64.wrap (k + 5 * (j : Int) + 2 + 1) = k + 5 * j + 3:=by rw [w64 (by omega)]; omega
  have w4 : IntKind.i64.wrap (k + 5 * (j : Int) + 3 + 1) = k + 5 * j + 4:=by rw [w64 (by omega)]; omega
  have w5 : IntKind.i64.wrap (k + 5 * (j : Int) + 4 + 1) = k + 5 * ((j + 1 : Nat) : Int):=by rw [w64 (by omega)]; omega
  have hset:=fam_set (nMark k) hlt
  have hjl : j < (fam (nMark k) j ++ l.drop j).length:=by rw [fam_drop_len _ (by omega)]; exact hlt
  generalize hL : fam (nMark k) j ++ l.drop j = L at *
  have hix:=idx_sl (sz:=5) (id:=id) (k:=.i64) hlt
  rcases hx : L[j] with ⟨xk,xn,xs,xa,xb⟩
  have t0 : st false 1 (ptr id (j * 5)) (.int .i64 (k + 5 * j)) H = some (H.set id (some (.row ((L.set j ⟨k + 5 * j,xn,xs,xa,xb⟩).flatMap eNode.cells) 5 true))):=st_fc (E:=eNode) hH hjl (f:=0) (by decide) (y:=⟨k + 5 * j,xn,xs,xa,xb⟩) (c:=.int .i64 (k + 5 * j)) rfl (by rw [hx]; rfl)
  have t1:=st_fc (E:=eNode) (Hp_same H id (some (.row ((L.set j ⟨k + 5 * j,xn,xs,xa,xb⟩).flatMap eNode.cells) 5 true))) (by rw [List.length_set]; exact hjl) (f:=1) (by decide) (y:=⟨k + 5 * j,k + 5 * j + 1,xs,xa,xb⟩) (c:=.int .i64 (k + 5 * j + 1)) rfl (by rw [List.getElem_set_self]; rfl)
  rw [List.set_set,Hp_set_set] at t1
  ((repeat(first|((with_reducible first|apply Wp.gs|apply Wp.cs|apply Wp.cselX|apply Wp.askT|apply Wp.iteKT|apply Wp.ikb|apply Wp.askb|apply Wp.step);case h=>((try simp(disch:=omega)only[↓reduceIte,ask_true,↓X0,X1,Nat.reduceEqDiff,Int.reduceEq,Nat.reduceAdd,Nat.reduceSub,e0,e1,e5,hlti,hix,t0,w1,t1,w2]);with_reducible first|done|exact rfl|exact bT|exact bF))|apply Wp.andS|apply Wp.orS|with_reducible apply Wp.gu|simp only[↓X3]|simp(disch:=decide)only[asks_nil,asks_in,asks_out,askB_nil,askB_in,askB_out]|with_reducible apply Wp.assoc));try(with_reducible apply Wp.cargs;case h=>((try simp(disch:=omega)only[↓reduceIte,ask_true,↓X0,X1,Nat.reduceEqDiff,Int.reduceEq,Nat.reduceAdd,Nat.reduceSub,e0,e1,e5,hlti,hix,t0,w1,t1,w2]);with_reducible exact rfl)))
  refine Wp.rt (k106 (k + 5 * j + 2) (by omega) _ _) ?_
  intro H1 n1 q1 s1
  have hH1 : H1 id = some (.row ((L.set j ⟨k + 5 * j,k + 5 * j + 1,xs,xa,xb⟩).flatMap eNode.cells) 5 true):=by simp (disch:=omega) only [s1,Hp_same]
  have t2:=st_fc (E:=eNode) hH1 (by rw [List.length_set]; exact hjl) (f:=2) (by decide) (y:=⟨k + 5 * j,k + 5 * j + 1,mText (k + 5 * j + 2),xa,xb⟩) (c:=.string (mText (k + 5 * j + 2))) rfl (by rw [List.getElem_set_self]; rfl)
  rw [List.set_set] at t2
  have t3:=st_fc (E:=eNode) (Hp_same H1 id (some (.row ((L.set j ⟨k + 5 * j,k + 5 * j + 1,mText (k + 5 * j + 2),xa,xb⟩).flatMap eNode.cells) 5 true))) (by rw [List.length_set]; exact hjl) (f:=3) (by decide) (y:=⟨k + 5 * j,k + 5 * j + 1,mText (k + 5 * j + 2),k + 5 * j + 3,xb⟩) (c:=.int .i64 (k + 5 * j + 3)) rfl (by rw [List.getElem_set_self]; rfl)
  rw [List.set_set,Hp_set_set] at t3
  have t4:=st_fc (E:=eNode) (Hp_same H1 id (some (.row ((L.set j ⟨k + 5 * j,k + 5 * j + 1,mText (k + 5 * j + 2),k + 5 * j + 3,xb⟩).flatMap eNode.cells) 5 true))) (by rw [List.length_set]; exact hjl) (f:=4) (by decide) (y:=nMark k j) (c:=.int .i64 (k + 5 * j + 4)) rfl (by rw [List.getElem_set_self]; rfl)
  rw [List.set_set,Hp_set_set,hset] at t4
  (repeat(first|((with_reducible first|apply Wp.gs|apply Wp.cs|apply Wp.cselX|apply Wp.askT|apply Wp.iteKT|apply Wp.ikb|apply Wp.askb|apply Wp.step);case h=>((try simp(disch:=omega)only[↓reduceIte,ask_true,↓X0,X1,Nat.reduceEqDiff,Int.reduceEq,Nat.reduceAdd,Nat.reduceSub,e0,e1,e5,hix,t2,w3,t3,w4,t4,w5,hw]);with_reducible first|done|exact rfl|exact bT|exact bF))|apply Wp.andS|apply Wp.orS|with_reducible apply Wp.gu|simp only[↓X3]|simp(disch:=decide)only[asks_nil,asks_in,asks_out,askB_nil,askB_in,askB_out]|with_reducible apply Wp.assoc))
  exact Wp.pure (Nxt.go (d - 1) (by omega) ⟨j + 1,by omega,by omega,(by intros;first|with_reducible rfl|simp(disch:=omega)only[Hp_ne,Hp_same,s1,s0]),by simp [put_at,e0],by simp [put_at],by simp [put_at],Hp_same _ _ _⟩)
 ·have hlti : ¬ (j : Int) < l.length:=by omega
  ((repeat(first|((with_reducible first|apply Wp.gs|apply Wp.cs|apply Wp.cselX|apply Wp.askT|apply Wp.iteKT|apply Wp.ikb|apply Wp.askb|apply Wp.step);case h=>((try simp(disch:=omega)only[↓reduceIte,ask_true,↓X0,X1,Nat.reduceEqDiff,Int.reduceEq,Nat.reduceAdd,Nat.reduceSub,e0,e1,e5,hlti]);with_reducible first|done|exact rfl|exact bT|exact bF))|apply Wp.andS|apply Wp.orS|with_reducible apply Wp.gu|simp only[↓X3]|simp(disch:=decide)only[asks_nil,asks_in,asks_out,askB_nil,askB_in,askB_out]|with_reducible apply Wp.assoc));try(with_reducible apply Wp.cargs;case h=>((try simp(disch:=omega)only[↓reduceIte,ask_true,↓X0,X1,Nat.reduceEqDiff,Int.reduceEq,Nat.reduceAdd,Nat.reduceSub,e0,e1,e5,hlti]);with_reducible exact rfl)))
  have hjl : j = l.length:=by omega
  subst hjl
  exact Wp.pure (Nxt.exit ⟨Nat.le_trans hn (Nat.le_add_right _ _),s0,rfl,by simp [put_at,e1],by simpa using hH⟩)
theorem k71 {id n : Nat} {H : Hp} {v : Value} {l : List Nd} (h : At eNode id H v l) (hid : id < n) (k : Int) (hk : 0 ≤ k ∧ k ≤ 100000000) (hl : l.length ≤ 10000000) : RtM Try.prog 71 [v,.int .i64 k] id H n (.int .i64 (k + 5 * l.length)) (fun H' n' => At eNode id H' v (fam (nMark k) l.length)):=by
 apply RtM.of
 rw [c71]; unfold S71
 rcases h with ⟨rfl,rfl⟩ | ⟨rfl,h⟩
 ·rw [Loop_eq]
  unfold S71L0
  simp(disch:=omega)only[↓reduceIte,ask_true,↓X0,X1,Nat.reduceEqDiff,Int.reduceEq,Nat.reduceAdd,Nat.reduceSub,thenO]
  exact Wp.pure ⟨by simp only; omega,fun _ _ _ => rfl,by simp [put_at,argsT_at],.inl ⟨rfl,rfl⟩⟩
 ·refine Wp.bind (l71 hk hl hid h _ _ (by omega) (by simp [put_at,argsT_at]) (by simp [put_at,argsT_at]) (by simp [put_at])) ?_
  rintro ⟨oe,ot,oH,on⟩ ⟨f1,f2,rfl,f4,f5⟩
  simp only at f1 f2 f4 f5
  simp(disch:=omega)only[↓reduceIte,ask_true,↓X0,X1,Nat.reduceEqDiff,Int.reduceEq,Nat.reduceAdd,Nat.reduceSub,f4]
  exact Wp.pure ⟨by simp only; omega,f2,rfl,.inr ⟨by rw [fam_len],f5⟩⟩
theorem k29 {id n : Nat} {H : Hp} {v : Value} {l : List Nd} (h : At eNode id H v l) (hid : id < n) (k : Int) (hk : 0 ≤ k ∧ k ≤ 100000000) (hl : l.length ≤ 10000000) : RtM Try.prog 29 [.agg ⟨[v]⟩,.int .i64 k] id H n (.int .i64 (k + 5 * l.length)) (fun H' n' => At eNode id H' v (fam (nMark k) l.length)):=by
 apply RtM.of
 rw [c29]; unfold S29
 ((repeat(first|((with_reducible first|apply Wp.gs|apply Wp.cs|apply Wp.cselX|apply Wp.askT|apply Wp.iteKT|apply Wp.ikb|apply Wp.askb|apply Wp.step);case h=>((try simp(disch:=omega)only[↓reduceIte,ask_true,↓X0,X1,Nat.reduceEqDiff,Int.reduceEq,Nat.reduceAdd,Nat.reduceSub,X2,Hp_ne,Nat.reduceLeDiff]);with_reducible first|done|exact rfl|exact bT|exact bF))|apply Wp.andS|apply Wp.orS|with_reducible apply Wp.gu|simp only[↓X3]|simp(disch:=decide)only[asks_nil,asks_in,asks_out,askB_nil,askB_in,askB_out]|with_reducible apply Wp.assoc));try(with_reducible apply Wp.cargs;case h=>((try simp(disch:=omega)only[↓reduceIte,ask_true,↓X0,X1,Nat.reduceEqDiff,Int.reduceEq,Nat.reduceAdd,Nat.reduceSub,X2,Hp_ne,Nat.reduceLeDiff]);with_reducible exact rfl)))
 refine Wp.rtm (k71 (h.mv (by intros;first|with_reducible rfl|simp(disch:=omega)only[Hp_ne,Hp_same])) (by omega) k hk hl) ?_
 intro H1 n1 q1 s1 a1
 (repeat(first|((with_reducible first|apply Wp.gs|apply Wp.cs|apply Wp.cselX|apply Wp.askT|apply Wp.iteKT|apply Wp.ikb|apply Wp.askb|apply Wp.step);case h=>((try simp(disch:=omega)only[↓reduceIte,ask_true,↓X0,X1,Nat.reduceEqDiff,Int.reduceEq,Nat.reduceAdd,Nat.reduceSub]);with_reducible first|done|exact rfl|exact bT|exact bF))|apply Wp.andS|apply Wp.orS|with_reducible apply Wp.gu|simp only[↓X3]|simp(disch:=decide)only[asks_nil,asks_in,asks_out,askB_nil,askB_in,askB_out]|with_reducible apply Wp.assoc))
 exact Wp.pure ⟨by simp only; omega,(by intros;first|with_reducible rfl|simp(disch:=omega)only[Hp_ne,Hp_same,s1]),rfl,a1⟩
theorem k107 {n : Nat} {H : Hp} {v : Value} {m : Nat} {k : Int} (hv : Li eNode n H v (fam (nMark k) m)) (hk : 0 ≤ k ∧ k ≤ 100000000) (hl : m ≤ 10000000) : Rt Try.prog 107 [v,.int .i64 k] H n (.int .i64 (k + 5 * m)):=by
 apply Rt.mk
 rw [c107]; unfold S107
 refine Wp.bind (Loop_rule (fun d t H' n' => ∃ (j : Nat),j + d = m ∧ n + 2 ≤ n' ∧ (∀ i,i < n → H' i = H i) ∧ t 0 = v ∧ t 1 = .int .i64 (k + 5 * j) ∧ t 5 = .int .i64 j) (fun o => n ≤ o.n ∧ (∀ i,i < n → o.H i = H i) ∧ o.e = .exit 0 ∧ o.t 1 = .int .i64 (k + 5 * m)) ?_ m _ H _ ⟨0,by omega,by omega,fun _ _ => rfl,by simp [put_at,argsT_at],by simp [put_at,argsT_at],by simp [put_at]⟩) ?_
 ·rintro d t H' n' ⟨j,hj,hn,s0,e0,e1,e5⟩
  unfold S107L0
  have hlen:=hv.len
  rw [fam_len] at hlen
  by_cases hlt : j < m
  ·have hlti : (j : Int) < m:=by omega
   have hw:=wj (j:=j) (len:=m) hlt (by omega)
   have w1 : IntKind.i64.wrap (k + 5 * (j : Int) + 1) = k + 5 * j + 1:=w64 (by omega)
   have w2 : IntKind.i64.wrap (k + 5 * (j : Int) + 1 + 1) = k + 5 * j + 2:=by rw [w64 (by omega)]; omega
   have w3 : IntKind.i64.wrap (k + 5 * (j : Int) + 2 + 1) = k + 5 * j + 3:=by rw [w64 (by omega)]; omega
   have w4 : IntKind.i64.wrap (k + 5 * (j : Int) + 3 + 1) = k + 5 * j + 4:=by rw [w64 (by omega)]; omega
   have w5 : IntKind.i64.wrap (k + 5 * (j : Int) + 4 + 1) = k + 5 * ((j + 1 : Nat) : Int):=by rw [w64 (by omega)]; omega
   have g:=(hv.mv (m:=n) (H':=H') (by omega) s0).nAll (i:=(j : Int)) (by omega) (by rw [fam_len]; exact hlti)
   rw [fam_gi _ hlt] at g
   simp only [nMark] at g
   ((repeat(first|((with_reducible first|apply Wp.gs|apply Wp.cs|apply Wp.cselX|apply Wp.askT|apply Wp.iteKT|apply Wp.ikb|apply Wp.askb|apply Wp.step);case h=>((try simp(disch:=omega)only[↓reduceIte,ask_true,↓X0,X1,Nat.reduceEqDiff,Int.reduceEq,Nat.reduceAdd,Nat.reduceSub,e0,e1,e5,hlen,hlti,g,w1,w2]);with_reducible first|done|exact rfl|exact bT|exact bF))|apply Wp.andS|apply Wp.orS|with_reducible apply Wp.gu|simp only[↓X3]|simp(disch:=decide)only[asks_nil,asks_in,asks_out,askB_nil,askB_in,askB_out]|with_reducible apply Wp.assoc));try(with_reducible apply Wp.cargs;case h=>((try simp(disch:=omega)only[↓reduceIte,ask_true,↓X0,X1,Nat.reduceEqDiff,Int.reduceEq,Nat.reduceAdd,Nat.reduceSub,e0,e1,e5,hlen,hlti,g,w1,w2]);with_reducible exact rfl)))
   refine Wp.rt (k106 (k + 5 * j + 2) (by omega) _ _) ?_
   intro H1 n1 q1 s1
   have g:=(hv.mv (m:=n) (H':=H1) (by omega) (by intros;first|with_reducible rfl|simp(disch:=omega)only[Hp_ne,Hp_same,s1,s0])).nAll (i:=(j : Int)) (by omega) (by rw [fam_len]; exact hlti)
   rw [fam_gi _ hlt] at g
   simp only [nMark] at g
   (repeat(first|((with_reducible first|apply Wp.gs|apply Wp.cs|apply Wp.cselX|apply Wp.askT|apply Wp.iteKT|apply Wp.ikb|apply Wp.askb|apply Wp.step);case h=>((try simp(disch:=omega)only[↓reduceIte,ask_true,↓X0,X1,Nat.reduceEqDiff,Int.reduceEq,Nat.reduceAdd,Nat.reduceSub,e0,e1,e5,hlen,hlti,g,w3,w4,w5,hw]);with_reducible first|done|exact rfl|exact bT|exact bF))|apply Wp.andS|apply Wp.orS|with_reducible apply Wp.gu|simp only[↓X3]|simp(disch:=decide)only[asks_nil,asks_in,asks_out,askB_nil,askB_in,askB_out]|with_reducible apply Wp.assoc))
   exact Wp.pure (Nxt.go (d - 1) (by omega) ⟨j + 1,by omega,by omega,(by intros;first|with_reducible rfl|simp(disch:=omega)only[Hp_ne,Hp_same,s1,s0]),by simp [put_at,e0],by simp [put_at],by simp [put_at]⟩)
  ·have hlti : ¬ (j : Int) < m:=by omega
   ((repeat(first|((with_reducible first|apply Wp.gs|apply Wp.cs|apply Wp.cselX|apply Wp.askT|apply Wp.iteKT|apply Wp.ikb|apply Wp.askb|apply Wp.step);case h=>((try simp(disch:=omega)only[↓reduceIte,ask_true,↓X0,X1,Nat.reduceEqDiff,Int.reduceEq,Nat.reduceAdd,Nat.reduceSub,e0,e1,e5,hlen,hlti]);with_reducible first|done|exact rfl|exact bT|exact bF))|apply Wp.andS|apply Wp.orS|with_reducible apply Wp.gu|simp only[↓X3]|simp(disch:=decide)only[asks_nil,asks_in,asks_out,askB_nil,askB_in,askB_out]|with_reducible apply Wp.assoc));try(with_reducible apply Wp.cargs;case h=>((try simp(disch:=omega)only[↓reduceIte,ask_true,↓X0,X1,Nat.reduceEqDiff,Int.reduceEq,Nat.reduceAdd,Nat.reduceSub,e0,e1,e5,hlen,hlti]);with_reducible exact rfl)))
   have hjl : j = m:=by omega
   subst hjl
   exact Wp.pure (Nxt.exit ⟨by simp only; omega,s0,rfl,by simp [put_at,e1]⟩)
 ·rintro ⟨oe,ot,oH,on⟩ ⟨f1,f2,rfl,f4⟩
  simp only at f1 f2 f4
  simp(disch:=omega)only[↓reduceIte,ask_true,↓X0,X1,Nat.reduceEqDiff,Int.reduceEq,Nat.reduceAdd,Nat.reduceSub,f4]
  exact Wp.pure ⟨by simp only; omega,f2,rfl⟩
theorem k74 {n : Nat} {H : Hp} {v : Value} {m : Nat} {k : Int} (hv : Li eNode n H v (fam (nMark k) m)) (hk : 0 ≤ k ∧ k ≤ 100000000) (hl : m ≤ 10000000) : Rt Try.prog 74 [.agg ⟨[v]⟩,.int .i64 k] H n (.int .i64 (k + 5 * m)):=by
 apply Rt.mk
 rw [c74]; unfold S74
 ((repeat(first|((with_reducible first|apply Wp.gs|apply Wp.cs|apply Wp.cselX|apply Wp.askT|apply Wp.iteKT|apply Wp.ikb|apply Wp.askb|apply Wp.step);case h=>((try simp(disch:=omega)only[↓reduceIte,ask_true,↓X0,X1,Nat.reduceEqDiff,Int.reduceEq,Nat.reduceAdd,Nat.reduceSub,X2,Hp_ne,Nat.reduceLeDiff]);with_reducible first|done|exact rfl|exact bT|exact bF))|apply Wp.andS|apply Wp.orS|with_reducible apply Wp.gu|simp only[↓X3]|simp(disch:=decide)only[asks_nil,asks_in,asks_out,askB_nil,askB_in,askB_out]|with_reducible apply Wp.assoc));try(with_reducible apply Wp.cargs;case h=>((try simp(disch:=omega)only[↓reduceIte,ask_true,↓X0,X1,Nat.reduceEqDiff,Int.reduceEq,Nat.reduceAdd,Nat.reduceSub,X2,Hp_ne,Nat.reduceLeDiff]);with_reducible exact rfl)))
 refine Wp.rt (k107 (hv.mv (by omega) (by intros;first|with_reducible rfl|simp(disch:=omega)only[Hp_ne,Hp_same])) hk hl) ?_
 intro H1 n1 q1 s1
 (repeat(first|((with_reducible first|apply Wp.gs|apply Wp.cs|apply Wp.cselX|apply Wp.askT|apply Wp.iteKT|apply Wp.ikb|apply Wp.askb|apply Wp.step);case h=>((try simp(disch:=omega)only[↓reduceIte,ask_true,↓X0,X1,Nat.reduceEqDiff,Int.reduceEq,Nat.reduceAdd,Nat.reduceSub,show ¬ k + 5 * (m : Int) < 0 by omega]);with_reducible first|done|exact rfl|exact bT|exact bF))|apply Wp.andS|apply Wp.orS|with_reducible apply Wp.gu|simp only[↓X3]|simp(disch:=decide)only[asks_nil,asks_in,asks_out,askB_nil,askB_in,askB_out]|with_reducible apply Wp.assoc))
 exact Wp.pure ⟨by simp only; omega,(by intros;first|with_reducible rfl|simp(disch:=omega)only[Hp_ne,Hp_same,s1]),rfl⟩
end Go.Proofs.Ytbgkimkbngocjaa.Ax
set_option linter.unusedVariables false
set_option linter.unusedSimpArgs false
set_option maxHeartbeats 4000000
namespace Go.Proofs.Ytbgkimkbngocjaa.Ax
open Go
theorem k103 (x y : Ins) (H : Hp) (n : Nat) : Rt Try.prog 103 [.agg ⟨x.cells⟩,.agg ⟨y.cells⟩] H n (.bool (decide (x = y))):=by
 apply Rt.mk
 rw [c103]; unfold S103
 have hxy : (x = y) = (x.op = y.op ∧ x.n = y.n ∧ x.i = y.i ∧ x.s = y.s):=by
  apply propext; constructor
  ·rintro rfl; exact ⟨rfl,rfl,rfl,rfl⟩
  ·rintro ⟨a,b,c,d⟩; cases x; cases y; simp_all
 by_cases h0 : x.op = y.op
 case neg =>
  (repeat(first|((with_reducible first|apply Wp.gs|apply Wp.cs|apply Wp.cselX|apply Wp.askT|apply Wp.iteKT|apply Wp.ikb|apply Wp.askb|apply Wp.step);case h=>((try simp(disch:=omega)only[↓reduceIte,ask_true,↓X0,X1,Nat.reduceEqDiff,Int.reduceEq,Nat.reduceAdd,Nat.reduceSub,X2,Hp_ne,Nat.reduceLeDiff,Ins.cells,h0]);with_reducible first|done|exact rfl|exact bT|exact bF))|apply Wp.andS|apply Wp.orS|with_reducible apply Wp.gu|simp only[↓X3]|simp(disch:=decide)only[asks_nil,asks_in,asks_out,askB_nil,askB_in,askB_out]|with_reducible apply Wp.assoc))
  exact Wp.pure ⟨by simp only; omega,(by intros;first|with_reducible rfl|simp(disch:=omega)only[Hp_ne,Hp_same]),by rw [decide_eq_false (fun h => h0 (by rw [h]))]⟩
 by_cases h1 : x.n = y.n
 case neg =>
  (repeat(first|((with_reducible first|apply Wp.gs|apply Wp.cs|apply Wp.cselX|apply Wp.askT|apply Wp.iteKT|apply Wp.ikb|apply Wp.askb|apply Wp.step);case h=>((try simp(disch:=omega)only[↓reduceIte,ask_true,↓X0,X1,Nat.reduceEqDiff,Int.reduceEq,Nat.reduceAdd,Nat.reduceSub,X2,Hp_ne,Nat.reduceLeDiff,Ins.cells,h0,h1]);with_reducible first|done|exact rfl|exact bT|exact bF))|apply Wp.andS|apply Wp.orS|with_reducible apply Wp.gu|simp only[↓X3]|simp(disch:=decide)only[asks_nil,asks_in,asks_out,askB_nil,askB_in,askB_out]|with_reducible apply Wp.assoc))
  exact Wp.pure ⟨by simp only; omega,(by intros;first|with_reducible rfl|simp(disch:=omega)only[Hp_ne,Hp_same]),by rw [decide_eq_false (fun h => h1 (by rw [h]))]⟩
 by_cases h2 : x.i = y.i
 case neg =>
  (repeat(first|((with_reducible first|apply Wp.gs|apply Wp.cs|apply Wp.cselX|apply Wp.askT|apply Wp.iteKT|apply Wp.ikb|apply Wp.askb|apply Wp.step);case h=>((try simp(disch:=omega)only[↓reduceIte,ask_true,↓X0,X1,Nat.reduceEqDiff,Int.reduceEq,Nat.reduceAdd,Nat.reduceSub,X2,Hp_ne,Nat.reduceLeDiff,Ins.cells,h0,h1,h2]);with_reducible first|done|exact rfl|exact bT|exact bF))|apply Wp.andS|apply Wp.orS|with_reducible apply Wp.gu|simp only[↓X3]|simp(disch:=decide)only[asks_nil,asks_in,asks_out,askB_nil,askB_in,askB_out]|with_reducible apply Wp.assoc))
  exact Wp.pure ⟨by simp only; omega,(by intros;first|with_reducible rfl|simp(disch:=omega)only[Hp_ne,Hp_same]),by rw [decide_eq_false (fun h => h2 (by rw [h]))]⟩
 by_cases h3 : x.s = y.s
 case neg =>
  (repeat(first|((with_reducible first|apply Wp.gs|apply Wp.cs|apply Wp.cselX|apply Wp.askT|apply Wp.iteKT|apply Wp.ikb|apply Wp.askb|apply Wp.step);case h=>((try simp(disch:=omega)only[↓reduceIte,ask_true,↓X0,X1,Nat.reduceEqDiff,Int.reduceEq,Nat.reduceAdd,Nat.reduceSub,X2,Hp_ne,Nat.reduceLeDiff,Ins.cells,h0,h1,h2,h3]);with_reducible first|done|exact rfl|exact bT|exact bF))|apply Wp.andS|apply Wp.orS|with_reducible apply Wp.gu|simp only[↓X3]|simp(disch:=decide)only[asks_nil,asks_in,asks_out,askB_nil,askB_in,askB_out]|with_reducible apply Wp.assoc))
  exact Wp.pure ⟨by simp only; omega,(by intros;first|with_reducible rfl|simp(disch:=omega)only[Hp_ne,Hp_same]),by rw [decide_eq_false (fun h => h3 (by rw [h]))]⟩
 (repeat(first|((with_reducible first|apply Wp.gs|apply Wp.cs|apply Wp.cselX|apply Wp.askT|apply Wp.iteKT|apply Wp.ikb|apply Wp.askb|apply Wp.step);case h=>((try simp(disch:=omega)only[↓reduceIte,ask_true,↓X0,X1,Nat.reduceEqDiff,Int.reduceEq,Nat.reduceAdd,Nat.reduceSub,X2,Hp_ne,Nat.reduceLeDiff,Ins.cells,h0,h1,h2,h3]);with_reducible first|done|exact rfl|exact bT|exact bF))|apply Wp.andS|apply Wp.orS|with_reducible apply Wp.gu|simp only[↓X3]|simp(disch:=decide)only[asks_nil,asks_in,asks_out,askB_nil,askB_in,askB_out]|with_reducible apply Wp.assoc))
 exact Wp.pure ⟨by simp only; omega,(by intros;first|with_reducible rfl|simp(disch:=omega)only[Hp_ne,Hp_same]),by rw [decide_eq_true (hxy ▸ ⟨h0,h1,h2,h3⟩)]⟩
theorem l68 {n0 : Nat} {H0 : Hp} {v1 v2 : Value} {a b : List Ins} (h1 : Li eIns n0 H0 v1 a) (h2 : Li eIns n0 H0 v2 b) (hab : a.length = b.length) (hl : a.length ≤ 1000000000) : ∀ t n,n0 ≤ n → t 0 = v1 → t 1 = v2 → t 5 = .int .i64 0 →
  Wp (Loop (S68L0 (Call Try.prog) Loop) t H0 n) (fun o => n ≤ o.n ∧ Same n0 H0 o.H ∧ ((o.e = .exit 0 ∧ a = b) ∨ (o.e = .ret ∧ o.t 4 = .bool false ∧ a ≠ b))):=by
 intro t n hn0 e0 e1 e5
 refine Loop_rule (fun d t H n' => ∃ (j : Nat),j + d = a.length ∧ n ≤ n' ∧ Same n0 H0 H ∧ t 0 = v1 ∧ t 1 = v2 ∧ t 5 = .int .i64 j ∧ a.take j = b.take j) _ ?_ a.length t H0 n ⟨0,by omega,by omega,Same.refl _ _,e0,e1,e5,by simp⟩
 rintro d t H n' ⟨j,hj,hn,hsm,e0,e1,e5,htk⟩
 unfold S68L0
 have g1:=h1.keep hsm (Nat.le_refl _)
 have g2:=h2.keep hsm (Nat.le_refl _)
 by_cases hlt : (j : Int) < a.length
 ·have ha : j < a.length:=by omega
  have hb : j < b.length:=by omega
  have q1:=g1.sAll (by omega) hlt
  have q2:=g2.sAll (i:=(j : Int)) (by omega) (by omega)
  have hw:=wj (j:=j) (len:=a.length) ha (by omega)
  obtain ⟨H1,n1,a1,a2,a3⟩:=k103 (gi a (j : Int)) (gi b (j : Int)) H (n' + 14)
  have s2:=hsm.trans (a2.less (show n0 ≤ n' + 14 by omega)) (Nat.le_refl _)
  by_cases he : gi a (j : Int) = gi b (j : Int)
  ·rw [decide_eq_true he] at a3
   (repeat(first|((with_reducible first|apply Wp.gs|apply Wp.cs|apply Wp.cselX|apply Wp.askT|apply Wp.iteKT|apply Wp.ikb|apply Wp.askb|apply Wp.step);case h=>((try simp(disch:=omega)only[↓reduceIte,ask_true,↓X0,X1,Nat.reduceEqDiff,Int.reduceEq,Nat.reduceAdd,Nat.reduceSub,e0,e1,e5,g1.len,hlt,q1,q2,a3,hw]);with_reducible first|done|exact rfl|exact bT|exact bF))|apply Wp.andS|apply Wp.orS|with_reducible apply Wp.gu|simp only[↓X3]|simp(disch:=decide)only[asks_nil,asks_in,asks_out,askB_nil,askB_in,askB_out]|with_reducible apply Wp.assoc))
   exact Wp.pure (Nxt.go (d - 1) (by omega) ⟨j + 1,by omega,by omega,s2,by simp [put_at,e0],by simp [put_at,e1],by simp [put_at],by rw [take_next ha,take_next hb,htk,← gi_nat ha,← gi_nat hb,he]⟩)
  ·rw [decide_eq_false he] at a3
   (repeat(first|((with_reducible first|apply Wp.gs|apply Wp.cs|apply Wp.cselX|apply Wp.askT|apply Wp.iteKT|apply Wp.ikb|apply Wp.askb|apply Wp.step);case h=>((try simp(disch:=omega)only[↓reduceIte,ask_true,↓X0,X1,Nat.reduceEqDiff,Int.reduceEq,Nat.reduceAdd,Nat.reduceSub,e0,e1,e5,g1.len,hlt,q1,q2,a3,hw]);with_reducible first|done|exact rfl|exact bT|exact bF))|apply Wp.andS|apply Wp.orS|with_reducible apply Wp.gu|simp only[↓X3]|simp(disch:=decide)only[asks_nil,asks_in,asks_out,askB_nil,askB_in,askB_out]|with_reducible apply Wp.assoc))
   exact Wp.pure (Nxt.ret ⟨by simp only; omega,s2,.inr ⟨rfl,by simp [put_at],fun h => he (by rw [h])⟩⟩)
 ·((repeat(first|((with_reducible first|apply Wp.gs|apply Wp.cs|apply Wp.cselX|apply Wp.askT|apply Wp.iteKT|apply Wp.ikb|apply Wp.askb|apply Wp.step);case h=>((try simp(disch:=omega)only[↓reduceIte,ask_true,↓X0,X1,Nat.reduceEqDiff,Int.reduceEq,Nat.reduceAdd,Nat.reduceSub,e0,e1,e5,g1.len,hlt]);with_reducible first|done|exact rfl|exact bT|exact bF))|apply Wp.andS|apply Wp.orS|with_reducible apply Wp.gu|simp only[↓X3]|simp(disch:=decide)only[asks_nil,asks_in,asks_out,askB_nil,askB_in,askB_out]|with_reducible apply Wp.assoc));try(with_reducible apply Wp.cargs;case h=>((try simp(disch:=omega)only[↓reduceIte,ask_true,↓X0,X1,Nat.reduceEqDiff,Int.reduceEq,Nat.reduceAdd,Nat.reduceSub,e0,e1,e5,g1.len,hlt]);with_reducible exact rfl)))
  rw [List.take_of_length_le (by omega),List.take_of_length_le (by omega)] at htk
  exact Wp.pure (Nxt.exit ⟨Nat.le_trans hn (Nat.le_add_right _ _),hsm,.inl ⟨rfl,htk⟩⟩)
theorem k68 {n : Nat} {H : Hp} {v1 v2 : Value} {a b : List Ins} (h1 : Li eIns n H v1 a) (h2 : Li eIns n H v2 b) (hl : a.length ≤ 1000000000) : Rt Try.prog 68 [v1,v2] H n (.bool (decide (a = b))):=by
 unfold Rt
 rw [c68]; unfold S68
 by_cases hab : (a.length : Int) = b.length
 ·simp(disch:=omega)only[↓reduceIte,ask_true,↓X0,X1,Nat.reduceEqDiff,Int.reduceEq,Nat.reduceAdd,Nat.reduceSub,h1.len,h2.len,hab]
  generalize hT : put _ _ _ = T
  obtain ⟨⟨oe,ot,oH,on⟩,f1,f2,f3,f4⟩:=l68 h1 h2 (by omega) hl T (n + 7) (by omega) (by rw [← hT]; simp [put_at,argsT_at]) (by rw [← hT]; simp [put_at,argsT_at]) (by rw [← hT]; simp [put_at])
  simp only at f2 f3 f4
  rw [f1]
  rcases f4 with ⟨rfl,f4⟩ | ⟨rfl,f4,f5⟩
  ·simp(disch:=omega)only[↓reduceIte,ask_true,↓X0,X1,Nat.reduceEqDiff,Int.reduceEq,Nat.reduceAdd,Nat.reduceSub,outOf,f4]
   exact ⟨_,_,by omega,f3,rfl⟩
  ·simp(disch:=omega)only[↓reduceIte,ask_true,↓X0,X1,Nat.reduceEqDiff,Int.reduceEq,Nat.reduceAdd,Nat.reduceSub,outOf,f4,f5]
   exact ⟨_,_,by omega,f3,rfl⟩
 ·have hne : ¬ a = b:=fun h => hab (by rw [h])
  simp(disch:=omega)only[↓reduceIte,ask_true,↓X0,X1,Nat.reduceEqDiff,Int.reduceEq,Nat.reduceAdd,Nat.reduceSub,h1.len,h2.len,hab,hne]
  exact ⟨_,_,by omega,Same.refl _ _,rfl⟩
theorem k104 (x y : Df) (H : Hp) (n : Nat) : Rt Try.prog 104 [.agg ⟨x.cells⟩,.agg ⟨y.cells⟩] H n (.bool (decide (x = y))):=by
 apply Rt.mk
 rw [c104]; unfold S104
 have hxy : (x = y) = (x.s = y.s ∧ x.at_ = y.at_ ∧ x.args = y.args):=by
  apply propext; constructor
  ·rintro rfl; exact ⟨rfl,rfl,rfl⟩
  ·rintro ⟨a,b,c⟩; cases x; cases y; simp_all
 by_cases h0 : x.s = y.s
 case neg =>
  (repeat(first|((with_reducible first|apply Wp.gs|apply Wp.cs|apply Wp.cselX|apply Wp.askT|apply Wp.iteKT|apply Wp.ikb|apply Wp.askb|apply Wp.step);case h=>((try simp(disch:=omega)only[↓reduceIte,ask_true,↓X0,X1,Nat.reduceEqDiff,Int.reduceEq,Nat.reduceAdd,Nat.reduceSub,X2,Hp_ne,Nat.reduceLeDiff,Df.cells,h0]);with_reducible first|done|exact rfl|exact bT|exact bF))|apply Wp.andS|apply Wp.orS|with_reducible apply Wp.gu|simp only[↓X3]|simp(disch:=decide)only[asks_nil,asks_in,asks_out,askB_nil,askB_in,askB_out]|with_reducible apply Wp.assoc))
  exact Wp.pure ⟨by simp only; omega,(by intros;first|with_reducible rfl|simp(disch:=omega)only[Hp_ne,Hp_same]),by rw [decide_eq_false (fun h => h0 (by rw [h]))]⟩
 by_cases h1 : x.at_ = y.at_
 case neg =>
  (repeat(first|((with_reducible first|apply Wp.gs|apply Wp.cs|apply Wp.cselX|apply Wp.askT|apply Wp.iteKT|apply Wp.ikb|apply Wp.askb|apply Wp.step);case h=>((try simp(disch:=omega)only[↓reduceIte,ask_true,↓X0,X1,Nat.reduceEqDiff,Int.reduceEq,Nat.reduceAdd,Nat.reduceSub,X2,Hp_ne,Nat.reduceLeDiff,Df.cells,h0,h1]);with_reducible first|done|exact rfl|exact bT|exact bF))|apply Wp.andS|apply Wp.orS|with_reducible apply Wp.gu|simp only[↓X3]|simp(disch:=decide)only[asks_nil,asks_in,asks_out,askB_nil,askB_in,askB_out]|with_reducible apply Wp.assoc))
  exact Wp.pure ⟨by simp only; omega,(by intros;first|with_reducible rfl|simp(disch:=omega)only[Hp_ne,Hp_same]),by rw [decide_eq_false (fun h => h1 (by rw [h]))]⟩
 by_cases h2 : x.args = y.args
 case neg =>
  (repeat(first|((with_reducible first|apply Wp.gs|apply Wp.cs|apply Wp.cselX|apply Wp.askT|apply Wp.iteKT|apply Wp.ikb|apply Wp.askb|apply Wp.step);case h=>((try simp(disch:=omega)only[↓reduceIte,ask_true,↓X0,X1,Nat.reduceEqDiff,Int.reduceEq,Nat.reduceAdd,Nat.reduceSub,X2,Hp_ne,Nat.reduceLeDiff,Df.cells,h0,h1,h2]);with_reducible first|done|exact rfl|exact bT|exact bF))|apply Wp.andS|apply Wp.orS|with_reducible apply Wp.gu|simp only[↓X3]|simp(disch:=decide)only[asks_nil,asks_in,asks_out,askB_nil,askB_in,askB_out]|with_reducible apply Wp.assoc))
  exact Wp.pure ⟨by simp only; omega,(by intros;first|with_reducible rfl|simp(disch:=omega)only[Hp_ne,Hp_same]),by rw [decide_eq_false (fun h => h2 (by rw [h]))]⟩
 (repeat(first|((with_reducible first|apply Wp.gs|apply Wp.cs|apply Wp.cselX|apply Wp.askT|apply Wp.iteKT|apply Wp.ikb|apply Wp.askb|apply Wp.step);case h=>((try simp(disch:=omega)only[↓reduceIte,ask_true,↓X0,X1,Nat.reduceEqDiff,Int.reduceEq,Nat.reduceAdd,Nat.reduceSub,X2,Hp_ne,Nat.reduceLeDiff,Df.cells,h0,h1,h2]);with_reducible first|done|exact rfl|exact bT|exact bF))|apply Wp.andS|apply Wp.orS|with_reducible apply Wp.gu|simp only[↓X3]|simp(disch:=decide)only[asks_nil,asks_in,asks_out,askB_nil,askB_in,askB_out]|with_reducible apply Wp.assoc))
 exact Wp.pure ⟨by simp only; omega,(by intros;first|with_reducible rfl|simp(disch:=omega)only[Hp_ne,Hp_same]),by rw [decide_eq_true (hxy ▸ ⟨h0,h1,h2⟩)]⟩
theorem l69 {n0 : Nat} {H0 : Hp} {v1 v2 : Value} {a b : List Df} (h1 : Li eDef n0 H0 v1 a) (h2 : Li eDef n0 H0 v2 b) (hab : a.length = b.length) (hl : a.length ≤ 1000000000) : ∀ t n,n0 ≤ n → t 0 = v1 → t 1 = v2 → t 5 = .int .i64 0 →
  Wp (Loop (S69L0 (Call Try.prog) Loop) t H0 n) (fun o => n ≤ o.n ∧ Same n0 H0 o.H ∧ ((o.e = .exit 0 ∧ a = b) ∨ (o.e = .ret ∧ o.t 4 = .bool false ∧ a ≠ b))):=by
 intro t n hn0 e0 e1 e5
 refine Loop_rule (fun d t H n' => ∃ (j : Nat),j + d = a.length ∧ n ≤ n' ∧ Same n0 H0 H ∧ t 0 = v1 ∧ t 1 = v2 ∧ t 5 = .int .i64 j ∧ a.take j = b.take j) _ ?_ a.length t H0 n ⟨0,by omega,by omega,Same.refl _ _,e0,e1,e5,by simp⟩
 rintro d t H n' ⟨j,hj,hn,hsm,e0,e1,e5,htk⟩
 unfold S69L0
 have g1:=h1.keep hsm (Nat.le_refl _)
 have g2:=h2.keep hsm (Nat.le_refl _)
 by_cases hlt : (j : Int) < a.length
 ·have ha : j < a.length:=by omega
  have hb : j < b.length:=by omega
  have q1:=g1.dAll (by omega) hlt
  have q2:=g2.dAll (i:=(j : Int)) (by omega) (by omega)
  have hw:=wj (j:=j) (len:=a.length) ha (by omega)
  obtain ⟨H1,n1,a1,a2,a3⟩:=k104 (gi a (j : Int)) (gi b (j : Int)) H (n' + 14)
  have s2:=hsm.trans (a2.less (show n0 ≤ n' + 14 by omega)) (Nat.le_refl _)
  by_cases he : gi a (j : Int) = gi b (j : Int)
  ·rw [decide_eq_true he] at a3
   (repeat(first|((with_reducible first|apply Wp.gs|apply Wp.cs|apply Wp.cselX|apply Wp.askT|apply Wp.iteKT|apply Wp.ikb|apply Wp.askb|apply Wp.step);case h=>((try simp(disch:=omega)only[↓reduceIte,ask_true,↓X0,X1,Nat.reduceEqDiff,Int.reduceEq,Nat.reduceAdd,Nat.reduceSub,e0,e1,e5,g1.len,hlt,q1,q2,a3,hw]);with_reducible first|done|exact rfl|exact bT|exact bF))|apply Wp.andS|apply Wp.orS|with_reducible apply Wp.gu|simp only[↓X3]|simp(disch:=decide)only[asks_nil,asks_in,asks_out,askB_nil,askB_in,askB_out]|with_reducible apply Wp.assoc))
   exact Wp.pure (Nxt.go (d - 1) (by omega) ⟨j + 1,by omega,by omega,s2,by simp [put_at,e0],by simp [put_at,e1],by simp [put_at],by rw [take_next ha,take_next hb,htk,← gi_nat ha,← gi_nat hb,he]⟩)
  ·rw [decide_eq_false he] at a3
   (repeat(first|((with_reducible first|apply Wp.gs|apply Wp.cs|apply Wp.cselX|apply Wp.askT|apply Wp.iteKT|apply Wp.ikb|apply Wp.askb|apply Wp.step);case h=>((try simp(disch:=omega)only[↓reduceIte,ask_true,↓X0,X1,Nat.reduceEqDiff,Int.reduceEq,Nat.reduceAdd,Nat.reduceSub,e0,e1,e5,g1.len,hlt,q1,q2,a3,hw]);with_reducible first|done|exact rfl|exact bT|exact bF))|apply Wp.andS|apply Wp.orS|with_reducible apply Wp.gu|simp only[↓X3]|simp(disch:=decide)only[asks_nil,asks_in,asks_out,askB_nil,askB_in,askB_out]|with_reducible apply Wp.assoc))
   exact Wp.pure (Nxt.ret ⟨by simp only; omega,s2,.inr ⟨rfl,by simp [put_at],fun h => he (by rw [h])⟩⟩)
 ·((repeat(first|((with_reducible first|apply Wp.gs|apply Wp.cs|apply Wp.cselX|apply Wp.askT|apply Wp.iteKT|apply Wp.ikb|apply Wp.askb|apply Wp.step);case h=>((try simp(disch:=omega)only[↓reduceIte,ask_true,↓X0,X1,Nat.reduceEqDiff,Int.reduceEq,Nat.reduceAdd,Nat.reduceSub,e0,e1,e5,g1.len,hlt]);with_reducible first|done|exact rfl|exact bT|exact bF))|apply Wp.andS|apply Wp.orS|with_reducible apply Wp.gu|simp only[↓X3]|simp(disch:=decide)only[asks_nil,asks_in,asks_out,askB_nil,askB_in,askB_out]|with_reducible apply Wp.assoc));try(with_reducible apply Wp.cargs;case h=>((try simp(disch:=omega)only[↓reduceIte,ask_true,↓X0,X1,Nat.reduceEqDiff,Int.reduceEq,Nat.reduceAdd,Nat.reduceSub,e0,e1,e5,g1.len,hlt]);with_reducible exact rfl)))
  rw [List.take_of_length_le (by omega),List.take_of_length_le (by omega)] at htk
  exact Wp.pure (Nxt.exit ⟨Nat.le_trans hn (Nat.le_add_right _ _),hsm,.inl ⟨rfl,htk⟩⟩)
theorem k69 {n : Nat} {H : Hp} {v1 v2 : Value} {a b : List Df} (h1 : Li eDef n H v1 a) (h2 : Li eDef n H v2 b) (hl : a.length ≤ 1000000000) : Rt Try.prog 69 [v1,v2] H n (.bool (decide (a = b))):=by
 unfold Rt
 rw [c69]; unfold S69
 by_cases hab : (a.length : Int) = b.length
 ·simp(disch:=omega)only[↓reduceIte,ask_true,↓X0,X1,Nat.reduceEqDiff,Int.reduceEq,Nat.reduceAdd,Nat.reduceSub,h1.len,h2.len,hab]
  generalize hT : put _ _ _ = T
  obtain ⟨⟨oe,ot,oH,on⟩,f1,f2,f3,f4⟩:=l69 h1 h2 (by omega) hl T (n + 7) (by omega) (by rw [← hT]; simp [put_at,argsT_at]) (by rw [← hT]; simp [put_at,argsT_at]) (by rw [← hT]; simp [put_at])
  simp only at f2 f3 f4
  rw [f1]
  rcases f4 with ⟨rfl,f4⟩ | ⟨rfl,f4,f5⟩
  ·simp(disch:=omega)only[↓reduceIte,ask_true,↓X0,X1,Nat.reduceEqDiff,Int.reduceEq,Nat.reduceAdd,Nat.reduceSub,outOf,f4]
   exact ⟨_,_,by omega,f3,rfl⟩
  ·simp(disch:=omega)only[↓reduceIte,ask_true,↓X0,X1,Nat.reduceEqDiff,Int.reduceEq,Nat.reduceAdd,Nat.reduceSub,outOf,f4,f5]
   exact ⟨_,_,by omega,f3,rfl⟩
 ·have hne : ¬ a = b:=fun h => hab (by rw [h])
  simp(disch:=omega)only[↓reduceIte,ask_true,↓X0,X1,Nat.reduceEqDiff,Int.reduceEq,Nat.reduceAdd,Nat.reduceSub,h1.len,h2.len,hab,hne]
  exact ⟨_,_,by omega,Same.refl _ _,rfl⟩
def New3 (lo n : Nat) (H : Hp) (u ul ud : Value) (l : List Nd) (li : List Ins) (ld : List Df) : Prop:=∃ i il id,i ≠ il ∧ i ≠ id ∧ il ≠ id ∧ lo ≤ i ∧ i < n ∧ lo ≤ il ∧ il < n ∧ lo ≤ id ∧ id < n ∧ At eNode i H u l ∧ At eIns il H ul li ∧ At eDef id H ud ld
theorem k26 {n : Nat} {H : Hp} {v vl vd w wl wd : Value} {l m : List Nd} {li mi : List Ins} {ld md : List Df} (hv : Li eNode n H v l) (hvl : Li eIns n H vl li) (hvd : Li eDef n H vd ld) (hw : Li eNode n H w m) (hwl : Li eIns n H wl mi) (hwd : Li eDef n H wd md) (hl : l.length + li.length + ld.length ≤ 1000000000) : Rt Try.prog 26 [.agg ⟨[v,vl,vd]⟩,.agg ⟨[w,wl,wd]⟩] H n (.bool (decide (l = m ∧ li = mi ∧ ld = md))):=by
 apply Rt.mk
 rw [c26]; unfold S26
 ((repeat(first|((with_reducible first|apply Wp.gs|apply Wp.cs|apply Wp.cselX|apply Wp.askT|apply Wp.iteKT|apply Wp.ikb|apply Wp.askb|apply Wp.step);case h=>((try simp(disch:=omega)only[↓reduceIte,ask_true,↓X0,X1,Nat.reduceEqDiff,Int.reduceEq,Nat.reduceAdd,Nat.reduceSub,X2,Hp_ne,Nat.reduceLeDiff]);with_reducible first|done|exact rfl|exact bT|exact bF))|apply Wp.andS|apply Wp.orS|with_reducible apply Wp.gu|simp only[↓X3]|simp(disch:=decide)only[asks_nil,asks_in,asks_out,askB_nil,askB_in,askB_out]|with_reducible apply Wp.assoc));try(with_reducible apply Wp.cargs;case h=>((try simp(disch:=omega)only[↓reduceIte,ask_true,↓X0,X1,Nat.reduceEqDiff,Int.reduceEq,Nat.reduceAdd,Nat.reduceSub,X2,Hp_ne,Nat.reduceLeDiff]);with_reducible exact rfl)))
 refine Wp.rt (k27 (hv.mv (by omega) (by intros;first|with_reducible rfl|simp(disch:=omega)only[Hp_ne,Hp_same])) (hw.mv (by omega) (by intros;first|with_reducible rfl|simp(disch:=omega)only[Hp_ne,Hp_same])) (by omega)) ?_
 intro H1 n1 q1 s1
 by_cases h1 : l = m
 case neg =>
  (repeat(first|((with_reducible first|apply Wp.gs|apply Wp.cs|apply Wp.cselX|apply Wp.askT|apply Wp.iteKT|apply Wp.ikb|apply Wp.askb|apply Wp.step);case h=>((try simp(disch:=omega)only[↓reduceIte,ask_true,↓X0,X1,Nat.reduceEqDiff,Int.reduceEq,Nat.reduceAdd,Nat.reduceSub,X2,Hp_ne,Nat.reduceLeDiff,h1]);with_reducible first|done|exact rfl|exact bT|exact bF))|apply Wp.andS|apply Wp.orS|with_reducible apply Wp.gu|simp only[↓X3]|simp(disch:=decide)only[asks_nil,asks_in,asks_out,askB_nil,askB_in,askB_out]|with_reducible apply Wp.assoc))
  exact Wp.pure ⟨by simp only; omega,(by intros;first|with_reducible rfl|simp(disch:=omega)only[Hp_ne,Hp_same,s1]),by rw [decide_eq_false (fun h => h1 h.1)]⟩
 ((repeat(first|((with_reducible first|apply Wp.gs|apply Wp.cs|apply Wp.cselX|apply Wp.askT|apply Wp.iteKT|apply Wp.ikb|apply Wp.askb|apply Wp.step);case h=>((try simp(disch:=omega)only[↓reduceIte,ask_true,↓X0,X1,Nat.reduceEqDiff,Int.reduceEq,Nat.reduceAdd,Nat.reduceSub,X2,Hp_ne,Nat.reduceLeDiff,h1,s1]);with_reducible first|done|exact rfl|exact bT|exact bF))|apply Wp.andS|apply Wp.orS|with_reducible apply Wp.gu|simp only[↓X3]|simp(disch:=decide)only[asks_nil,asks_in,asks_out,askB_nil,askB_in,askB_out]|with_reducible apply Wp.assoc));try(with_reducible apply Wp.cargs;case h=>((try simp(disch:=omega)only[↓reduceIte,ask_true,↓X0,X1,Nat.reduceEqDiff,Int.reduceEq,Nat.reduceAdd,Nat.reduceSub,X2,Hp_ne,Nat.reduceLeDiff,h1,s1]);with_reducible exact rfl)))
 refine Wp.rt (k68 (hvl.mv (by omega) (by intros;first|with_reducible rfl|simp(disch:=omega)only[Hp_ne,Hp_same,s1])) (hwl.mv (by omega) (by intros;first|with_reducible rfl|simp(disch:=omega)only[Hp_ne,Hp_same,s1])) (by omega)) ?_
 intro H2 n2 q2 s2
 by_cases h2 : li = mi
 case neg =>
  (repeat(first|((with_reducible first|apply Wp.gs|apply Wp.cs|apply Wp.cselX|apply Wp.askT|apply Wp.iteKT|apply Wp.ikb|apply Wp.askb|apply Wp.step);case h=>((try simp(disch:=omega)only[↓reduceIte,ask_true,↓X0,X1,Nat.reduceEqDiff,Int.reduceEq,Nat.reduceAdd,Nat.reduceSub,X2,Hp_ne,Nat.reduceLeDiff,h2]);with_reducible first|done|exact rfl|exact bT|exact bF))|apply Wp.andS|apply Wp.orS|with_reducible apply Wp.gu|simp only[↓X3]|simp(disch:=decide)only[asks_nil,asks_in,asks_out,askB_nil,askB_in,askB_out]|with_reducible apply Wp.assoc))
  exact Wp.pure ⟨by simp only; omega,(by intros;first|with_reducible rfl|simp(disch:=omega)only[Hp_ne,Hp_same,s1,s2]),by rw [decide_eq_false (fun h => h2 h.2.1)]⟩
 ((repeat(first|((with_reducible first|apply Wp.gs|apply Wp.cs|apply Wp.cselX|apply Wp.askT|apply Wp.iteKT|apply Wp.ikb|apply Wp.askb|apply Wp.step);case h=>((try simp(disch:=omega)only[↓reduceIte,ask_true,↓X0,X1,Nat.reduceEqDiff,Int.reduceEq,Nat.reduceAdd,Nat.reduceSub,X2,Hp_ne,Nat.reduceLeDiff,h2,s1,s2]);with_reducible first|done|exact rfl|exact bT|exact bF))|apply Wp.andS|apply Wp.orS|with_reducible apply Wp.gu|simp only[↓X3]|simp(disch:=decide)only[asks_nil,asks_in,asks_out,askB_nil,askB_in,askB_out]|with_reducible apply Wp.assoc));try(with_reducible apply Wp.cargs;case h=>((try simp(disch:=omega)only[↓reduceIte,ask_true,↓X0,X1,Nat.reduceEqDiff,Int.reduceEq,Nat.reduceAdd,Nat.reduceSub,X2,Hp_ne,Nat.reduceLeDiff,h2,s1,s2]);with_reducible exact rfl)))
 refine Wp.rt (k69 (hvd.mv (by omega) (by intros;first|with_reducible rfl|simp(disch:=omega)only[Hp_ne,Hp_same,s1,s2])) (hwd.mv (by omega) (by intros;first|with_reducible rfl|simp(disch:=omega)only[Hp_ne,Hp_same,s1,s2])) (by omega)) ?_
 intro H3 n3 q3 s3
 by_cases h3 : ld = md
 case neg =>
  (repeat(first|((with_reducible first|apply Wp.gs|apply Wp.cs|apply Wp.cselX|apply Wp.askT|apply Wp.iteKT|apply Wp.ikb|apply Wp.askb|apply Wp.step);case h=>((try simp(disch:=omega)only[↓reduceIte,ask_true,↓X0,X1,Nat.reduceEqDiff,Int.reduceEq,Nat.reduceAdd,Nat.reduceSub,X2,Hp_ne,Nat.reduceLeDiff,h3]);with_reducible first|done|exact rfl|exact bT|exact bF))|apply Wp.andS|apply Wp.orS|with_reducible apply Wp.gu|simp only[↓X3]|simp(disch:=decide)only[asks_nil,asks_in,asks_out,askB_nil,askB_in,askB_out]|with_reducible apply Wp.assoc))
  exact Wp.pure ⟨by simp only; omega,(by intros;first|with_reducible rfl|simp(disch:=omega)only[Hp_ne,Hp_same,s1,s2,s3]),by rw [decide_eq_false (fun h => h3 h.2.2)]⟩
 (repeat(first|((with_reducible first|apply Wp.gs|apply Wp.cs|apply Wp.cselX|apply Wp.askT|apply Wp.iteKT|apply Wp.ikb|apply Wp.askb|apply Wp.step);case h=>((try simp(disch:=omega)only[↓reduceIte,ask_true,↓X0,X1,Nat.reduceEqDiff,Int.reduceEq,Nat.reduceAdd,Nat.reduceSub,X2,Hp_ne,Nat.reduceLeDiff,h3]);with_reducible first|done|exact rfl|exact bT|exact bF))|apply Wp.andS|apply Wp.orS|with_reducible apply Wp.gu|simp only[↓X3]|simp(disch:=decide)only[asks_nil,asks_in,asks_out,askB_nil,askB_in,askB_out]|with_reducible apply Wp.assoc))
 exact Wp.pure ⟨by simp only; omega,(by intros;first|with_reducible rfl|simp(disch:=omega)only[Hp_ne,Hp_same,s1,s2,s3]),by rw [decide_eq_true ⟨h1,h2,h3⟩]⟩
end Go.Proofs.Ytbgkimkbngocjaa.Ax
set_option linter.unusedVariables false
set_option linter.unusedSimpArgs false
namespace Go.Proofs.Ytbgkimkbngocjaa.Ax
open Go
theorem calleeP_fn (k : Nat) (cap args : List Value) : calleeP (.func (.func k) #[] ⟨cap⟩) args = some (k,args ++ cap):=rfl
theorem k87 {n : Nat} {H : Hp} {v : Value} {l : List Int} (hv : Li eInt n H v l) (hl : l.length ≤ 1048576) (k : Nat) (cap : List Value) (p : Int → Bool) (hp : ∀ x ∈ l,∀ H' n',n ≤ n' → (∀ i,i < n → H' i = H i) → Rt Try.prog k (.int .i64 x :: cap) H' n' (.bool (p x))) : Rt Try.prog 87 [v,.func (.func k) #[] ⟨cap⟩] H n (.int .i64 (match l.findIdx? p with | some k => (k : Int) | none => -1)):=by
 apply Rt.mk
 rw [c87]; unfold S87
 (repeat(first|((with_reducible first|apply Wp.gs|apply Wp.cs|apply Wp.cselX|apply Wp.askT|apply Wp.iteKT|apply Wp.ikb|apply Wp.askb|apply Wp.step);case h=>((try simp(disch:=omega)only[↓reduceIte,ask_true,↓X0,X1,Nat.reduceEqDiff,Int.reduceEq,Nat.reduceAdd,Nat.reduceSub,hv.len]);with_reducible first|done|exact rfl|exact bT|exact bF))|apply Wp.andS|apply Wp.orS|with_reducible apply Wp.gu|simp only[↓X3]|simp(disch:=decide)only[asks_nil,asks_in,asks_out,askB_nil,askB_in,askB_out]|with_reducible apply Wp.assoc))
 refine Wp.bind (Loop_rule (fun d t H' n' => ∃ j : Nat,j + d = l.length ∧ n ≤ n' ∧ (∀ i,i < n → H' i = H i) ∧ t 0 = v ∧ t 1 = .func (.func k) #[] ⟨cap⟩ ∧ t 7 = .int .i64 l.length ∧ t 8 = .int .i64 j ∧ ∀ q (hq : q < l.length),q < j → p l[q] = false) (fun o => n ≤ o.n ∧ (∀ i,i < n → o.H i = H i) ∧ ((o.e = .exit 0 ∧ l.findIdx? p = none) ∨ (o.e = .ret ∧ ∃ j : Nat,o.t 4 = .int .i64 j ∧ l.findIdx? p = some j))) ?_ l.length _ H _ ⟨0,by omega,by omega,fun _ _ => rfl,by simp [put_at,argsT_at],by simp [put_at,argsT_at],by simp [put_at],by simp [put_at],by omega⟩) ?_
 ·rintro d t H' n' ⟨j,hj,hn,s0,e0,e1,e7,e8,hno⟩
  unfold S87L0
  by_cases hlt : j < l.length
  ·have hlti : (j : Int) < l.length:=by omega
   have hw:=wj (j:=j) (len:=l.length) hlt (by omega)
   have g:=(hv.mv (Nat.le_refl _) s0).iAll (i:=(j : Int)) (by omega) hlti
   rw [gi_nat hlt] at g
   ((repeat(first|((with_reducible first|apply Wp.gs|apply Wp.cs|apply Wp.cselX|apply Wp.askT|apply Wp.iteKT|apply Wp.ikb|apply Wp.askb|apply Wp.step);case h=>((try simp(disch:=omega)only[↓reduceIte,ask_true,↓X0,X1,Nat.reduceEqDiff,Int.reduceEq,Nat.reduceAdd,Nat.reduceSub,e0,e1,e7,e8,hlti,g,calleeP_fn]);with_reducible first|done|exact rfl|exact bT|exact bF))|apply Wp.andS|apply Wp.orS|with_reducible apply Wp.gu|simp only[↓X3]|simp(disch:=decide)only[asks_nil,asks_in,asks_out,askB_nil,askB_in,askB_out]|with_reducible apply Wp.assoc));try(with_reducible apply Wp.cargs;case h=>((try simp(disch:=omega)only[↓reduceIte,ask_true,↓X0,X1,Nat.reduceEqDiff,Int.reduceEq,Nat.reduceAdd,Nat.reduceSub,e0,e1,e7,e8,hlti,g,calleeP_fn]);with_reducible exact rfl)))
   refine Wp.rt (hp l[j] (List.getElem_mem hlt) H' (n' + 9) (by omega) s0) ?_
   intro H1 n1 q1 s1
   by_cases hpj : p l[j] = true
   ·(repeat(first|((with_reducible first|apply Wp.gs|apply Wp.cs|apply Wp.cselX|apply Wp.askT|apply Wp.iteKT|apply Wp.ikb|apply Wp.askb|apply Wp.step);case h=>((try simp(disch:=omega)only[↓reduceIte,ask_true,↓X0,X1,Nat.reduceEqDiff,Int.reduceEq,Nat.reduceAdd,Nat.reduceSub,hpj]);with_reducible first|done|exact rfl|exact bT|exact bF))|apply Wp.andS|apply Wp.orS|with_reducible apply Wp.gu|simp only[↓X3]|simp(disch:=decide)only[asks_nil,asks_in,asks_out,askB_nil,askB_in,askB_out]|with_reducible apply Wp.assoc))
    refine Wp.pure (Nxt.ret ⟨by simp only; omega,(by intros;first|with_reducible rfl|simp(disch:=omega)only[Hp_ne,Hp_same,s1,s0]),.inr ⟨rfl,j,by simp [put_at,e8],?_⟩⟩)
    exact List.findIdx?_eq_some_iff_getElem.2 ⟨hlt,hpj,fun q hq => by have:=hno q (by omega) hq; simp [this]⟩
   ·have hpj' : p l[j] = false:=by simpa using hpj
    (repeat(first|((with_reducible first|apply Wp.gs|apply Wp.cs|apply Wp.cselX|apply Wp.askT|apply Wp.iteKT|apply Wp.ikb|apply Wp.askb|apply Wp.step);case h=>((try simp(disch:=omega)only[↓reduceIte,ask_true,↓X0,X1,Nat.reduceEqDiff,Int.reduceEq,Nat.reduceAdd,Nat.reduceSub,hpj',e8,hw]);with_reducible first|done|exact rfl|exact bT|exact bF))|apply Wp.andS|apply Wp.orS|with_reducible apply Wp.gu|simp only[↓X3]|simp(disch:=decide)only[asks_nil,asks_in,asks_out,askB_nil,askB_in,askB_out]|with_reducible apply Wp.assoc))
    refine Wp.pure (Nxt.go (d - 1) (by omega) ⟨j + 1,by omega,by omega,(by intros;first|with_reducible rfl|simp(disch:=omega)only[Hp_ne,Hp_same,s1,s0]),by simp [put_at,e0],by simp [put_at,e1],by simp [put_at,e7],by simp [put_at],fun q hq hqj => ?_⟩)
    by_cases hqe : q = j
    ·subst hqe; exact hpj'
    ·exact hno q hq (by omega)
  ·have hlti : ¬ (j : Int) < l.length:=by omega
   (repeat(first|((with_reducible first|apply Wp.gs|apply Wp.cs|apply Wp.cselX|apply Wp.askT|apply Wp.iteKT|apply Wp.ikb|apply Wp.askb|apply Wp.step);case h=>((try simp(disch:=omega)only[↓reduceIte,ask_true,↓X0,X1,Nat.reduceEqDiff,Int.reduceEq,Nat.reduceAdd,Nat.reduceSub,e7,e8,hlti]);with_reducible first|done|exact rfl|exact bT|exact bF))|apply Wp.andS|apply Wp.orS|with_reducible apply Wp.gu|simp only[↓X3]|simp(disch:=decide)only[asks_nil,asks_in,asks_out,askB_nil,askB_in,askB_out]|with_reducible apply Wp.assoc))
   refine Wp.pure (Nxt.exit ⟨by simp only; omega,s0,.inl ⟨rfl,?_⟩⟩)
   refine List.findIdx?_eq_none_iff.2 fun x hx => ?_
   obtain ⟨q,hq,rfl⟩:=List.mem_iff_getElem.1 hx
   exact hno q hq (by omega)
 ·rintro ⟨oe,ot,oH,on⟩ ⟨f1,f2,f3⟩
  simp only at f1 f2 f3
  rcases f3 with ⟨rfl,f4⟩ | ⟨rfl,j,f4,f5⟩
  ·simp(disch:=omega)only[↓reduceIte,ask_true,↓X0,X1,Nat.reduceEqDiff,Int.reduceEq,Nat.reduceAdd,Nat.reduceSub]
   exact Wp.pure ⟨by simp only; omega,f2,by simp only [f4]⟩
  ·simp(disch:=omega)only[↓reduceIte,ask_true,↓X0,X1,Nat.reduceEqDiff,Int.reduceEq,Nat.reduceAdd,Nat.reduceSub,f4]
   exact Wp.pure ⟨by simp only; omega,f2,by simp only [f5]⟩
theorem k43 {n : Nat} {H : Hp} {v : Value} {l : List Int} (hv : Li eInt n H v l) (hl : l.length ≤ 1048576) (k : Nat) (cap : List Value) (p : Int → Bool) (hp : ∀ x ∈ l,∀ H' n',n ≤ n' → (∀ i,i < n → H' i = H i) → Rt Try.prog k (.int .i64 x :: cap) H' n' (.bool (p x))) : Rt Try.prog 43 [v,.func (.func k) #[] ⟨cap⟩] H n (.bool (l.any p)):=by
 apply Rt.mk
 rw [c43]; unfold S43
 refine Wp.rt (k87 (hv.mv (by omega) (by intros;first|with_reducible rfl|simp(disch:=omega)only[Hp_ne,Hp_same])) hl k cap p (fun x hx H' n' hn hs => hp x hx H' n' (by omega) fun i hi => hs i (by omega))) ?_
 intro H1 n1 q1 s1
 cases h : l.findIdx? p with
 | none =>
  have : l.any p = false:=by
   rw [List.any_eq_false]
   intro x hx
   have:=List.findIdx?_eq_none_iff.1 h x hx
   simp [this]
  (repeat(first|((with_reducible first|apply Wp.gs|apply Wp.cs|apply Wp.cselX|apply Wp.askT|apply Wp.iteKT|apply Wp.ikb|apply Wp.askb|apply Wp.step);case h=>((try simp(disch:=omega)only[↓reduceIte,ask_true,↓X0,X1,Nat.reduceEqDiff,Int.reduceEq,Nat.reduceAdd,Nat.reduceSub,(show ¬ (0 : Int) ≤ -1 by decide)]);with_reducible first|done|exact rfl|exact bT|exact bF))|apply Wp.andS|apply Wp.orS|with_reducible apply Wp.gu|simp only[↓X3]|simp(disch:=decide)only[asks_nil,asks_in,asks_out,askB_nil,askB_in,askB_out]|with_reducible apply Wp.assoc))
  exact Wp.pure ⟨by simp only; omega,(by intros;first|with_reducible rfl|simp(disch:=omega)only[Hp_ne,Hp_same,s1]),by rw [this]⟩
 | some j =>
  obtain ⟨hj,hpj,_⟩:=List.findIdx?_eq_some_iff_getElem.1 h
  have : l.any p = true:=List.any_eq_true.2 ⟨l[j],List.getElem_mem hj,hpj⟩
  (repeat(first|((with_reducible first|apply Wp.gs|apply Wp.cs|apply Wp.cselX|apply Wp.askT|apply Wp.iteKT|apply Wp.ikb|apply Wp.askb|apply Wp.step);case h=>((try simp(disch:=omega)only[↓reduceIte,ask_true,↓X0,X1,Nat.reduceEqDiff,Int.reduceEq,Nat.reduceAdd,Nat.reduceSub,(show (0 : Int) ≤ (j : Int) by omega)]);with_reducible first|done|exact rfl|exact bT|exact bF))|apply Wp.andS|apply Wp.orS|with_reducible apply Wp.gu|simp only[↓X3]|simp(disch:=decide)only[asks_nil,asks_in,asks_out,askB_nil,askB_in,askB_out]|with_reducible apply Wp.assoc))
  exact Wp.pure ⟨by simp only; omega,(by intros;first|with_reducible rfl|simp(disch:=omega)only[Hp_ne,Hp_same,s1]),by rw [this]⟩
end Go.Proofs.Ytbgkimkbngocjaa.Ax
