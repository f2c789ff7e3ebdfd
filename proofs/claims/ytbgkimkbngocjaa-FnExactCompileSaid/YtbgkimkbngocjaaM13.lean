/- What the law needs: laws of the abstract machine, and contracts of functions. -/
import Derived.Test.YtbgkimkbngocjaaM12
import Derived.Test.YtbgkimkbngocjaaM9
set_option linter.unusedVariables false
set_option linter.unusedSimpArgs false
set_option maxHeartbeats 8000000
namespace Go.Proofs.Ytbgkimkbngocjaa.Ax
open Go
theorem bsl_zi (id : Nat) (H : Hp) : bsl id 1 0 [.int .i64 0] [] H = some (sl id 0 0,H.set id (some (.row [] 1 true))):=bsl_zn id _ 1 H rfl
theorem bsl_zs (id : Nat) (H : Hp) : bsl id 1 0 [.string ⟨#[]⟩] [] H = some (sl id 0 0,H.set id (some (.row [] 1 true))):=bsl_zn id _ 1 H rfl
theorem DC.how {c il idd n : Nat} {H : Hp} {v ul ud : Value} {s : CS} (h : DC c il idd n H v ul ud s) (x : Int) (hx : 0 ≤ x ∧ x ≤ 3) {n' : Nat} {H' : Hp} (hn : n ≤ n') (hc : H' c = some (.row [v,ul,ud,.int .i64 x] 0 true)) (hi : H' il = H il) (hd : H' idd = H idd) : DC c il idd n' H' v ul ud ⟨x,s.L,s.D⟩ :=
 ⟨h.cc.how x hx hn hc hi,h.ad.mv hd,by have:=h.dn; omega,h.nc,h.ni⟩
theorem k51 {v : Value} {p : List Nd} (hp : PoolOk p) {E : CEx} (hg : ∀ v e,Goes (E v e)) (hE : ∀ y : Int,0 ≤ y → y < (p.length : Int) → XR 124 v p E y) {c il idd n : Nat} {H : Hp} {ul ud : Value} {s : CS} (h : DC c il idd n H v ul ud s) (hh : s.how = 0) (hv : LO eNode c il n H v p) (hvd : Off idd v) (x : Int) (h0 : 0 ≤ x) (h1 : x < (p.length : Int)) (hD : s.D.length ≤ 1048576) : RtM3 Try.prog 51 [ptr c 0,.int .i64 x] c il idd H n (.tuple ⟨[]⟩) (fun H' n' => NextW3 c il idd n n' H' v (cTop E p x s)):=by
 apply RtM3.of
 rw [c51]; unfold S51
 rw [show (⟨#[109,97,105,110]⟩ : ByteArray) = wMain from rfl,show (⟨#[100,101,102,105,110,101]⟩ : ByteArray) = wDefine from rfl]
 have hcc:=h.cc
 have hdn:=h.dn
 have hnc:=h.nc
 have hni:=h.ni
 have hcn:=hcc.cn
 have hil:=hcc.iln
 have hne:=hcc.ne
 have hc:=hcc.hc
 have hpl:=hp.2
 have hs0 : s = ⟨0,s.L,s.D⟩:=by cases s; simp only at hh; subst hh; rfl
 have nodef : ¬ ((gi p x).k = 5 ∧ (chainOf p x).2 = true ∧ (gi p (gi (chainOf p x).1 0)).k = 4 ∧ (gi p (gi (chainOf p x).1 0)).s = wDefine) → cTop E p x s = cDefine E wMain [] [x] s:=fun hn => by
  unfold cTop isDefine; rw [decide_eq_false hn]; rfl
 have isdef : ((gi p x).k = 5 ∧ (chainOf p x).2 = true ∧ (gi p (gi (chainOf p x).1 0)).k = 4 ∧ (gi p (gi (chainOf p x).1 0)).s = wDefine) → cTop E p x s = cDefn E p (chainOf p x).1 s:=fun hn => by
  unfold cTop isDefine; rw [decide_eq_true hn]; rfl
 generalize cTop E p x s = F at *
 have main : ∀ (m : Nat) (H0 : Hp),n ≤ m → (∀ i,i < n → H0 i = H i) → F = cDefine E wMain [] [x] s → Wp ((bsl (m + 1) 1 0 [.string ⟨#[]⟩] [] H0).bind fun p45 => (bsl (m + 3) 1 1 [.int .i64 0] [(0,1,.int .i64 x)] p45.2).bind fun p46 => (Call Try.prog 95 [ptr c 0,.string wMain,p45.1,p46.1] p46.2 (m + 5)).bind fun q47 => some (Value.tuple ⟨[]⟩,q47.2.1,q47.2.2)) (fun q => n ≤ q.2.2 ∧ (∀ i,i < n → i ≠ c → i ≠ il → i ≠ idd → q.2.1 i = H i) ∧ q.1 = .tuple ⟨[]⟩ ∧ NextW3 c il idd n q.2.2 q.2.1 v F):=by
  intro m H0 z1 z2 z3
  ((repeat(first|((with_reducible first|apply Wp.gs|apply Wp.cs|apply Wp.cselX|apply Wp.askT|apply Wp.iteKT|apply Wp.ikb|apply Wp.askb|apply Wp.step);case h=>((try simp(disch:=omega)only[↓reduceIte,ask_true,↓X0,X1,Nat.reduceEqDiff,Int.reduceEq,Nat.reduceAdd,Nat.reduceSub,bsl_zs,bsl_i]);with_reducible first|done|exact rfl|exact bT|exact bF))|apply Wp.andS|apply Wp.orS|with_reducible apply Wp.gu|simp only[↓X3]|simp(disch:=decide)only[asks_nil,asks_in,asks_out,askB_nil,askB_in,askB_out]|with_reducible apply Wp.assoc));try(with_reducible apply Wp.cargs;case h=>((try simp(disch:=omega)only[↓reduceIte,ask_true,↓X0,X1,Nat.reduceEqDiff,Int.reduceEq,Nat.reduceAdd,Nat.reduceSub,bsl_zs,bsl_i]);with_reducible exact rfl)))
  generalize hG : Hp.set _ (m + 3) _ = G
  have hk : ∀ i,i < n → G i = H i:=fun i hi => by rw [← hG]; simp (disch:=omega) only [Hp_ne,z2]
  have hN : At eStr (m + 1) G (sl (m + 1) 0 0) []:=.inr ⟨rfl,by rw [← hG]; simp (disch:=omega) only [Hp_ne,Hp_same]; rfl⟩
  have hR : At eInt (m + 3) G (sl (m + 3) 0 1) [x]:=.inr ⟨rfl,by rw [← hG]; exact Hp_same _ _ _⟩
  refine Wp.rtm3 (k95 hg (l:=[x]) (fun y hy => by simp at hy; rw [hy]; exact hE x h0 h1) (h.mv (by omega) (hk c hcn) (hk il hil) (hk idd hdn)) (hv.mv (by omega) (fun i a _ _ => hk i a) (.inl rfl)) hvd (fun y hy => by simp at hy; omega) (names:=[]) (by simp) (hN.lo (by omega) (by omega) (by omega)) (fun i o a k e => (by cases e; omega)) (hR.lo (by omega) (by omega) (by omega)) (fun i o a k e => (by cases e; omega)) (by simp) hD) ?_
  rintro H2 n2 q2 s2 ⟨a2,w2,ul2,il2,ud2,idd2,i2,j2,h2⟩
  rw [if_pos hh] at w2
  (repeat(first|((with_reducible first|apply Wp.gs|apply Wp.cs|apply Wp.cselX|apply Wp.askT|apply Wp.iteKT|apply Wp.ikb|apply Wp.askb|apply Wp.step);case h=>((try simp(disch:=omega)only[↓reduceIte,ask_true,↓X0,X1,Nat.reduceEqDiff,Int.reduceEq,Nat.reduceAdd,Nat.reduceSub]);with_reducible first|done|exact rfl|exact bT|exact bF))|apply Wp.andS|apply Wp.orS|with_reducible apply Wp.gu|simp only[↓X3]|simp(disch:=decide)only[asks_nil,asks_in,asks_out,askB_nil,askB_in,askB_out]|with_reducible apply Wp.assoc))
  refine Wp.pure ⟨by simp only; omega,fun i a b c d => (s2 i (by omega) b c d).trans (hk i a),rfl,a2,?_,ul2,il2,ud2,idd2,by omega,by omega,h2.mv (by simp only; omega) rfl rfl rfl⟩
  rw [z3]; exact w2
 have bad : ∀ (H0 : Hp) (m : Nat),n ≤ m → (∀ i,i < n → H0 i = H i) → F = cFail 1 s → Wp (some (Value.tuple ⟨[]⟩,H0.set c (some (.row [v,ul,ud,.int .i64 1] 0 true)),m)) (fun q => n ≤ q.2.2 ∧ (∀ i,i < n → i ≠ c → i ≠ il → i ≠ idd → q.2.1 i = H i) ∧ q.1 = .tuple ⟨[]⟩ ∧ NextW3 c il idd n q.2.2 q.2.1 v F):=by
  intro H0 m z1 z2 z3
  have e2 : cFail 1 s = ⟨1,s.L,s.D⟩:=by unfold cFail; rw [if_pos hh]
  refine Wp.pure ⟨z1,fun i a b _ _ => (Hp_ne _ _ b).trans (z2 i a),rfl,⟨1,s.L,s.D⟩,by rw [z3,e2]; exact Wk.refl _,ul,il,ud,idd,.inl rfl,.inl rfl,h.how 1 (by decide) z1 (Hp_same _ _ _) ((Hp_ne _ _ hne).trans (z2 il hil)) ((Hp_ne _ _ hnc).trans (z2 idd hdn))⟩
 have g:=(hv.li.mv (H':=H.set n (some (.row [] 1 true))) (Nat.le_refl _) (by intros;first|with_reducible rfl|simp(disch:=omega)only[Hp_ne,Hp_same])).nAll (i:=x) h0 h1
 by_cases k5 : (gi p x).k = 5
 case neg =>
  (repeat(first|((with_reducible first|apply Wp.gs|apply Wp.cs|apply Wp.cselX|apply Wp.askT|apply Wp.iteKT|apply Wp.ikb|apply Wp.askb|apply Wp.step);case h=>((try simp(disch:=omega)only[↓reduceIte,ask_true,↓X0,X1,Nat.reduceEqDiff,Int.reduceEq,Nat.reduceAdd,Nat.reduceSub,X2,Hp_ne,Nat.reduceLeDiff,bsl_zi,hc,g,k5]);with_reducible first|done|exact rfl|exact bT|exact bF))|apply Wp.andS|apply Wp.orS|with_reducible apply Wp.gu|simp only[↓X3]|simp(disch:=decide)only[asks_nil,asks_in,asks_out,askB_nil,askB_in,askB_out]|with_reducible apply Wp.assoc))
  exact main _ _ (by omega) (by intros;first|with_reducible rfl|simp(disch:=omega)only[Hp_ne,Hp_same]) (nodef (fun h => k5 h.1))
 have hpos:=chainOf_pos hp h0 h1 k5
 have hmm:=chainOf_mem hp h0 h1
 have hcl:=chainOf_len h0 h1
 ((repeat(first|((with_reducible first|apply Wp.gs|apply Wp.cs|apply Wp.cselX|apply Wp.askT|apply Wp.iteKT|apply Wp.ikb|apply Wp.askb|apply Wp.step);case h=>((try simp(disch:=omega)only[↓reduceIte,ask_true,↓X0,X1,Nat.reduceEqDiff,Int.reduceEq,Nat.reduceAdd,Nat.reduceSub,X2,Hp_ne,Nat.reduceLeDiff,bsl_zi,hc,g,k5]);with_reducible first|done|exact rfl|exact bT|exact bF))|apply Wp.andS|apply Wp.orS|with_reducible apply Wp.gu|simp only[↓X3]|simp(disch:=decide)only[asks_nil,asks_in,asks_out,askB_nil,askB_in,askB_out]|with_reducible apply Wp.assoc));try(with_reducible apply Wp.cargs;case h=>((try simp(disch:=omega)only[↓reduceIte,ask_true,↓X0,X1,Nat.reduceEqDiff,Int.reduceEq,Nat.reduceAdd,Nat.reduceSub,X2,Hp_ne,Nat.reduceLeDiff,bsl_zi,hc,g,k5]);with_reducible exact rfl)))
 refine Wp.rtn (k94 (hv.li.mv (by omega) (by intros;first|with_reducible rfl|simp(disch:=omega)only[Hp_ne,Hp_same])) hp _ h0 h1) ?_
 rintro _ H2 n2 q2 s2 ⟨up,rfl,hup⟩
 have hk2 : ∀ i,i < n → H2 i = H i:=fun i hi => (s2 i (by omega)).trans (Hp_ne _ _ (by omega))
 have hc2 : H2 c = some (.row [v,ul,ud,.int .i64 s.how] 0 true):=(hk2 c hcn).trans hc
 by_cases hch : (chainOf p x).2 = true
 case neg =>
  have hlo : listOf p x = ([],false):=by unfold listOf; rw [if_neg hch]
  (repeat(first|((with_reducible first|apply Wp.gs|apply Wp.cs|apply Wp.cselX|apply Wp.askT|apply Wp.iteKT|apply Wp.ikb|apply Wp.askb|apply Wp.step);case h=>((try simp(disch:=omega)only[↓reduceIte,ask_true,↓X0,X1,Nat.reduceEqDiff,Int.reduceEq,Nat.reduceAdd,Nat.reduceSub,X2,Hp_ne,Nat.reduceLeDiff,hlo]);with_reducible first|done|exact rfl|exact bT|exact bF))|apply Wp.andS|apply Wp.orS|with_reducible apply Wp.gu|simp only[↓X3]|simp(disch:=decide)only[asks_nil,asks_in,asks_out,askB_nil,askB_in,askB_out]|with_reducible apply Wp.assoc))
  exact main _ _ (by omega) hk2 (nodef (fun h => hch h.2.1))
 have hlo : listOf p x = ((chainOf p x).1,true):=by unfold listOf; rw [if_pos hch]
 rw [hlo] at hup
 simp only at hup
 obtain ⟨idp,p1,p2,p3⟩:=hup
 generalize hL : (chainOf p x).1 = L at *
 have m0:=gi_mem (l:=L) (i:=0) (by omega) (by omega)
 have r0:=hmm _ m0
 have gl:=(p3.lst (n:=n2) p2).iAll (i:=0) (by omega) (by omega)
 have hv2 : Li eNode n H2 v p:=hv.li.mv (Nat.le_refl _) hk2
 have g0:=hv2.nAll (i:=gi L 0) r0.1 (by omega)
 have hlu : lenV false up = some (.int .i64 L.length):=(p3.lst (n:=n2) p2).len
 by_cases k4 : (gi p (gi L 0)).k = 4
 case neg =>
  (repeat(first|((with_reducible first|apply Wp.gs|apply Wp.cs|apply Wp.cselX|apply Wp.askT|apply Wp.iteKT|apply Wp.ikb|apply Wp.askb|apply Wp.step);case h=>((try simp(disch:=omega)only[↓reduceIte,ask_true,↓X0,X1,Nat.reduceEqDiff,Int.reduceEq,Nat.reduceAdd,Nat.reduceSub,X2,Hp_ne,Nat.reduceLeDiff,hlo,hc2,gl,g0,k4]);with_reducible first|done|exact rfl|exact bT|exact bF))|apply Wp.andS|apply Wp.orS|with_reducible apply Wp.gu|simp only[↓X3]|simp(disch:=decide)only[asks_nil,asks_in,asks_out,askB_nil,askB_in,askB_out]|with_reducible apply Wp.assoc))
  exact main _ _ (by omega) hk2 (nodef (fun h => k4 h.2.2.1))
 by_cases hd : (gi p (gi L 0)).s = wDefine
 case neg =>
  (repeat(first|((with_reducible first|apply Wp.gs|apply Wp.cs|apply Wp.cselX|apply Wp.askT|apply Wp.iteKT|apply Wp.ikb|apply Wp.askb|apply Wp.step);case h=>((try simp(disch:=omega)only[↓reduceIte,ask_true,↓X0,X1,Nat.reduceEqDiff,Int.reduceEq,Nat.reduceAdd,Nat.reduceSub,X2,Hp_ne,Nat.reduceLeDiff,hlo,hc2,gl,g0,k4,hd]);with_reducible first|done|exact rfl|exact bT|exact bF))|apply Wp.andS|apply Wp.orS|with_reducible apply Wp.gu|simp only[↓X3]|simp(disch:=decide)only[asks_nil,asks_in,asks_out,askB_nil,askB_in,askB_out]|with_reducible apply Wp.assoc))
  exact main _ _ (by omega) hk2 (nodef (fun h => hd h.2.2.2))
 have hF:=isdef ⟨k5,hch,k4,hd⟩
 unfold cDefn at hF
 clear main nodef isdef
 by_cases h3 : (L.length : Int) < 3
 ·have hst:=hcc.st 1 (H':=H2) (hk2 c hcn)
  (repeat(first|((with_reducible first|apply Wp.gs|apply Wp.cs|apply Wp.cselX|apply Wp.askT|apply Wp.iteKT|apply Wp.ikb|apply Wp.askb|apply Wp.step);case h=>((try simp(disch:=omega)only[↓reduceIte,ask_true,↓X0,X1,Nat.reduceEqDiff,Int.reduceEq,Nat.reduceAdd,Nat.reduceSub,X2,Hp_ne,Nat.reduceLeDiff,hlo,hc2,gl,g0,k4,hd,eq_self.{1},hlu,h3,hst]);with_reducible first|done|exact rfl|exact bT|exact bF))|apply Wp.andS|apply Wp.orS|with_reducible apply Wp.gu|simp only[↓X3]|simp(disch:=decide)only[asks_nil,asks_in,asks_out,askB_nil,askB_in,askB_out]|with_reducible apply Wp.assoc))
  exact bad _ _ (by omega) hk2 (by rw [hF,if_neg (by omega)])
 have m1:=gi_mem (l:=L) (i:=1) (by omega) (by omega)
 have r1:=hmm _ m1
 have gl1:=(p3.lst (n:=n2) p2).iAll (i:=1) (by omega) (by omega)
 have g1:=hv2.nAll (i:=gi L 1) r1.1 (by omega)
 by_cases k51 : (gi p (gi L 1)).k = 5
 case neg =>
  have hst:=hcc.st 1 (H':=H2) (hk2 c hcn)
  (repeat(first|((with_reducible first|apply Wp.gs|apply Wp.cs|apply Wp.cselX|apply Wp.askT|apply Wp.iteKT|apply Wp.ikb|apply Wp.askb|apply Wp.step);case h=>((try simp(disch:=omega)only[↓reduceIte,ask_true,↓X0,X1,Nat.reduceEqDiff,Int.reduceEq,Nat.reduceAdd,Nat.reduceSub,X2,Hp_ne,Nat.reduceLeDiff,hlo,hc2,gl,g0,k4,hd,eq_self.{1},hlu,h3,gl1,g1,k51,hst]);with_reducible first|done|exact rfl|exact bT|exact bF))|apply Wp.andS|apply Wp.orS|with_reducible apply Wp.gu|simp only[↓X3]|simp(disch:=decide)only[asks_nil,asks_in,asks_out,askB_nil,askB_in,askB_out]|with_reducible apply Wp.assoc))
  exact bad _ _ (by omega) hk2 (by rw [hF,if_neg]; rintro ⟨_,h,_⟩; exact k51 h)
 ((repeat(first|((with_reducible first|apply Wp.gs|apply Wp.cs|apply Wp.cselX|apply Wp.askT|apply Wp.iteKT|apply Wp.ikb|apply Wp.askb|apply Wp.step);case h=>((try simp(disch:=omega)only[↓reduceIte,ask_true,↓X0,X1,Nat.reduceEqDiff,Int.reduceEq,Nat.reduceAdd,Nat.reduceSub,X2,Hp_ne,Nat.reduceLeDiff,hlo,hc2,gl,g0,k4,hd,eq_self.{1},hlu,h3,gl1,g1,k51]);with_reducible first|done|exact rfl|exact bT|exact bF))|apply Wp.andS|apply Wp.orS|with_reducible apply Wp.gu|simp only[↓X3]|simp(disch:=decide)only[asks_nil,asks_in,asks_out,askB_nil,askB_in,askB_out]|with_reducible apply Wp.assoc));try(with_reducible apply Wp.cargs;case h=>((try simp(disch:=omega)only[↓reduceIte,ask_true,↓X0,X1,Nat.reduceEqDiff,Int.reduceEq,Nat.reduceAdd,Nat.reduceSub,X2,Hp_ne,Nat.reduceLeDiff,hlo,hc2,gl,g0,k4,hd,eq_self.{1},hlu,h3,gl1,g1,k51]);with_reducible exact rfl)))
 refine Wp.rtn (k94 (hv2.mv (by omega) (by intros;first|with_reducible rfl|simp(disch:=omega)only[Hp_ne,Hp_same])) hp _ r1.1 (by omega)) ?_
 rintro _ H3 n3 q3 s3 ⟨uq,rfl,huq⟩
 have hk3 : ∀ i,i < n → H3 i = H i:=fun i hi => (s3 i (by omega)).trans (hk2 i hi)
 have hc3 : H3 c = some (.row [v,ul,ud,.int .i64 s.how] 0 true):=(hk3 c hcn).trans hc
 by_cases hch1 : (chainOf p (gi L 1)).2 = true
 case neg =>
  have hlo1 : listOf p (gi L 1) = ([],false):=by unfold listOf; rw [if_neg hch1]
  have hst:=hcc.st 1 (H':=H3) (hk3 c hcn)
  (repeat(first|((with_reducible first|apply Wp.gs|apply Wp.cs|apply Wp.cselX|apply Wp.askT|apply Wp.iteKT|apply Wp.ikb|apply Wp.askb|apply Wp.step);case h=>((try simp(disch:=omega)only[↓reduceIte,ask_true,↓X0,X1,Nat.reduceEqDiff,Int.reduceEq,Nat.reduceAdd,Nat.reduceSub,X2,Hp_ne,Nat.reduceLeDiff,hlo1,hst]);with_reducible first|done|exact rfl|exact bT|exact bF))|apply Wp.andS|apply Wp.orS|with_reducible apply Wp.gu|simp only[↓X3]|simp(disch:=decide)only[asks_nil,asks_in,asks_out,askB_nil,askB_in,askB_out]|with_reducible apply Wp.assoc))
  exact bad _ _ (by omega) hk3 (by rw [hF,if_neg]; rintro ⟨_,_,h⟩; exact hch1 h)
 have hlo1 : listOf p (gi L 1) = ((chainOf p (gi L 1)).1,true):=by unfold listOf; rw [if_pos hch1]
 rw [hlo1] at huq
 simp only at huq
 rw [if_pos ⟨by omega,k51,hch1⟩] at hF
 have hpos1:=chainOf_pos hp r1.1 (by omega) k51
 have hmm1:=chainOf_mem hp r1.1 (by omega)
 have hcl1:=chainOf_len r1.1 (show gi L 1 < (p.length : Int) by omega)
 obtain ⟨idq,t1,t2,t3⟩:=huq
 generalize hQ : (chainOf p (gi L 1)).1 = Q at *
 have mq:=gi_mem (l:=Q) (i:=0) (by omega) (by omega)
 have rq:=hmm1 _ mq
 have gq:=(t3.lst (n:=n3) t2).iAll (i:=0) (by omega) (by omega)
 ((repeat(first|((with_reducible first|apply Wp.gs|apply Wp.cs|apply Wp.cselX|apply Wp.askT|apply Wp.iteKT|apply Wp.ikb|apply Wp.askb|apply Wp.step);case h=>((try simp(disch:=omega)only[↓reduceIte,ask_true,↓X0,X1,Nat.reduceEqDiff,Int.reduceEq,Nat.reduceAdd,Nat.reduceSub,X2,Hp_ne,Nat.reduceLeDiff,hlo1,gq]);with_reducible first|done|exact rfl|exact bT|exact bF))|apply Wp.andS|apply Wp.orS|with_reducible apply Wp.gu|simp only[↓X3]|simp(disch:=decide)only[asks_nil,asks_in,asks_out,askB_nil,askB_in,askB_out]|with_reducible apply Wp.assoc));try(with_reducible apply Wp.cargs;case h=>((try simp(disch:=omega)only[↓reduceIte,ask_true,↓X0,X1,Nat.reduceEqDiff,Int.reduceEq,Nat.reduceAdd,Nat.reduceSub,X2,Hp_ne,Nat.reduceLeDiff,hlo1,gq]);with_reducible exact rfl)))
 refine Wp.rt (k96 (hv2.mv (by omega) (fun i hi => s3 i (by omega))) hc3 (by omega) _ rq.1 (by omega)) ?_
 intro H4 n4 q4 s4
 have hk4 : ∀ i,i < n → H4 i = H i:=fun i hi => (s4 i (by omega)).trans (hk3 i hi)
 cases hiv : isVar (gi p (gi Q 0)) with
 | false =>
  have hst:=hcc.st 1 (H':=H4) (hk4 c hcn)
  (repeat(first|((with_reducible first|apply Wp.gs|apply Wp.cs|apply Wp.cselX|apply Wp.askT|apply Wp.iteKT|apply Wp.ikb|apply Wp.askb|apply Wp.step);case h=>((try simp(disch:=omega)only[↓reduceIte,ask_true,↓X0,X1,Nat.reduceEqDiff,Int.reduceEq,Nat.reduceAdd,Nat.reduceSub,X2,Hp_ne,Nat.reduceLeDiff,hst]);with_reducible first|done|exact rfl|exact bT|exact bF))|apply Wp.andS|apply Wp.orS|with_reducible apply Wp.gu|simp only[↓X3]|simp(disch:=decide)only[asks_nil,asks_in,asks_out,askB_nil,askB_in,askB_out]|with_reducible apply Wp.assoc))
  exact bad _ _ (by omega) hk4 (by rw [hF,if_neg (by rw [hiv]; decide)])
 | true =>
  rw [if_pos hiv] at hF
  have t3' : At eInt idq H4 uq Q:=t3.mv (s4 idq (by omega))
  have p3' : At eInt idp H4 up L:=p3.mv (by rw [s4 idp (by omega),s3 idp (by omega)])
  obtain ⟨w1,hs1,hw1⟩:=(t3'.lo (c:=c) (il:=il) (n:=n4) (by omega) (by omega) (by omega)).tail (by decide) 1 (by omega)
  have hs1' : sliceV 1 uq (some (.int .i64 1)) none = some w1:=hs1
  have hLO:=p3'.lo (c:=c) (il:=il) (n:=n4) (by omega) (by omega) (by omega)
  have hLd : Off idd up:=fun i o a k e => by rcases p3 with ⟨h,_⟩ | ⟨h,_⟩ <;> rw [h] at e <;> cases e; omega
  obtain ⟨w2,hs2,hw2⟩:=hLO.tail (by decide) 2 (by omega)
  have hs2' : sliceV 1 up (some (.int .i64 2)) none = some w2:=hs2
  ((repeat(first|((with_reducible first|apply Wp.gs|apply Wp.cs|apply Wp.cselX|apply Wp.askT|apply Wp.iteKT|apply Wp.ikb|apply Wp.askb|apply Wp.step);case h=>((try simp(disch:=omega)only[↓reduceIte,ask_true,↓X0,X1,Nat.reduceEqDiff,Int.reduceEq,Nat.reduceAdd,Nat.reduceSub,hs1']);with_reducible first|done|exact rfl|exact bT|exact bF))|apply Wp.andS|apply Wp.orS|with_reducible apply Wp.gu|simp only[↓X3]|simp(disch:=decide)only[asks_nil,asks_in,asks_out,askB_nil,askB_in,askB_out]|with_reducible apply Wp.assoc));try(with_reducible apply Wp.cargs;case h=>((try simp(disch:=omega)only[↓reduceIte,ask_true,↓X0,X1,Nat.reduceEqDiff,Int.reduceEq,Nat.reduceAdd,Nat.reduceSub,hs1']);with_reducible exact rfl)))
  refine Wp.rta (k97 (l:=Q.drop 1) (hcc.mv (by omega) (hk4 c hcn) (hk4 il hil)) hh (hv.mv (by omega) (fun i a _ _ => hk4 i a) (.inl rfl)) (hw1.mv (by omega) (fun _ _ _ _ => rfl) (.inl rfl)) (fun x hx => by have:=hmm1 x (List.mem_of_mem_drop hx); omega) (by rw [List.length_drop]; omega)) ?_
  rintro un H5 n5 q5 s5 ⟨ns,hun,hnl,hnn,h5⟩
  have hk5 : Kept c il n H H5:=fun i a b c => (s5 i (by omega) b c).trans (hk4 i a)
  have hDC5 : DC c il idd n5 H5 v ul ud ⟨(cNames p (Q.drop 1)).2,s.L,s.D⟩:=⟨h5,h.ad.mv (by rw [s5 idd (by omega) hnc hni]; exact hk4 idd hdn),by omega,hnc,hni⟩
  ((repeat(first|((with_reducible first|apply Wp.gs|apply Wp.cs|apply Wp.cselX|apply Wp.askT|apply Wp.iteKT|apply Wp.ikb|apply Wp.askb|apply Wp.step);case h=>((try simp(disch:=omega)only[↓reduceIte,ask_true,↓X0,X1,Nat.reduceEqDiff,Int.reduceEq,Nat.reduceAdd,Nat.reduceSub,hs2']);with_reducible first|done|exact rfl|exact bT|exact bF))|apply Wp.andS|apply Wp.orS|with_reducible apply Wp.gu|simp only[↓X3]|simp(disch:=decide)only[asks_nil,asks_in,asks_out,askB_nil,askB_in,askB_out]|with_reducible apply Wp.assoc));try(with_reducible apply Wp.cargs;case h=>((try simp(disch:=omega)only[↓reduceIte,ask_true,↓X0,X1,Nat.reduceEqDiff,Int.reduceEq,Nat.reduceAdd,Nat.reduceSub,hs2']);with_reducible exact rfl)))
  refine Wp.rtm3 (k95 hg (l:=L.drop 2) (fun y hy => hE y (hmm y (List.mem_of_mem_drop hy)).1 (by have:=hmm y (List.mem_of_mem_drop hy); omega)) (hDC5.mv (by omega) rfl rfl rfl) (hv.mv (by omega) hk5 (.inl rfl)) hvd (fun y hy => by have:=hmm y (List.mem_of_mem_drop hy); omega) hnl ((hun.lo (by omega) (by omega)).mv (by omega) (fun _ _ _ _ => rfl) (.inl rfl)) (LO.off (c:=c) (il:=il) hun (by omega)) (hw2.mv (by omega) (fun i a b c => s5 i (by omega) b c) (.inl rfl)) (sliceV_off hs2 hLd) (by rw [List.length_drop]; omega) hD) ?_
  rintro H6 n6 q6 s6 ⟨a6,w6,ul6,il6,ud6,idd6,i6,j6,h6⟩
  (repeat(first|((with_reducible first|apply Wp.gs|apply Wp.cs|apply Wp.cselX|apply Wp.askT|apply Wp.iteKT|apply Wp.ikb|apply Wp.askb|apply Wp.step);case h=>((try simp(disch:=omega)only[↓reduceIte,ask_true,↓X0,X1,Nat.reduceEqDiff,Int.reduceEq,Nat.reduceAdd,Nat.reduceSub]);with_reducible first|done|exact rfl|exact bT|exact bF))|apply Wp.andS|apply Wp.orS|with_reducible apply Wp.gu|simp only[↓X3]|simp(disch:=decide)only[asks_nil,asks_in,asks_out,askB_nil,askB_in,askB_out]|with_reducible apply Wp.assoc))
  refine Wp.pure ⟨by simp only; omega,fun i a b c d => (s6 i (by omega) b c d).trans (hk5 i a b c),rfl,a6,?_,ul6,il6,ud6,idd6,by omega,by omega,h6.mv (by simp only; omega) rfl rfl rfl⟩
  rw [hF]
  by_cases hn0 : (cNames p (Q.drop 1)).2 = 0
  ·rw [if_pos hn0] at w6 ⊢
   rw [hn0,← hs0] at w6
   rw [← hnn hn0]; exact w6
  ·rw [if_neg hn0] at w6 ⊢
   have e2 : cFail (cNames p (Q.drop 1)).2 s = ⟨(cNames p (Q.drop 1)).2,s.L,s.D⟩:=by unfold cFail; rw [if_pos hh]
   rw [e2]; exact w6
end Go.Proofs.Ytbgkimkbngocjaa.Ax
set_option linter.unusedVariables false
set_option linter.unusedSimpArgs false
set_option maxHeartbeats 8000000
namespace Go.Proofs.Ytbgkimkbngocjaa.Ax
open Go
theorem cAll_small {p : List Nd} (hp : PoolOk p) : ∀ (l : List Int) (j : Nat) (s : CS),inPool p l → Small s → Small (cAll p l j s).1
 | [],j,s,_,hs => hs
 | v :: l,j,s,hr,hs => by
  have h1:=Keeps.top hp (hr v List.mem_cons_self).1 (hr v List.mem_cons_self).2 p.length s hs
  rw [cAll]
  split
  ·exact cAll_small hp l (j + 1) _ (fun y hy => hr y (List.mem_cons_of_mem _ hy)) h1
  ·exact h1
theorem cAll_D (p : List Nd) : ∀ (l : List Int) (j : Nat) (s : CS),(cAll p l j s).1.D.length ≤ s.D.length + l.length
 | [],j,s => by simp [cAll]
 | v :: l,j,s => by
  have h1:=cTop_D (Goes.expr p p.length) p v s
  rw [cAll,List.length_cons]
  split
  ·have:=cAll_D p l (j + 1) (cTop (cExpr p p.length) p v s); omega
  ·simp only; omega
theorem bld_4 (u : Value) (h : cell1 u = true) : bld [nilS,nilS,nilS,.int .i64 0] [(0,3,.agg ⟨[u,nilS,nilS]⟩)] = some (.agg ⟨[u,nilS,nilS,.int .i64 0]⟩):=rfl
theorem bld_31 (u : Value) : bld [nilS,nilS,nilS] [(0,1,.agg ⟨[u]⟩)] = some (.agg ⟨[u,nilS,nilS]⟩):=rfl
theorem k9 {n : Nat} {H : Hp} {v w : Value} {p : List Nd} {l : List Int} (hv : Li eNode n H v p) (hs : ∀ x ∈ p,x.s.size ≤ 1048576) (hpl : p.length ≤ 1048576) (hw : Li eInt n H w l) (hl : l.length ≤ 1048576) : RtN Try.prog 9 [.agg ⟨[v]⟩,w] H n (fun r H' n' => CompRes n n' H' r (compAns p l)):=by
 apply RtN.mk
 rw [c9]; unfold S9
 ((repeat(first|((with_reducible first|apply Wp.gs|apply Wp.cs|apply Wp.cselX|apply Wp.askT|apply Wp.iteKT|apply Wp.ikb|apply Wp.askb|apply Wp.step);case h=>((try simp(disch:=omega)only[↓reduceIte,ask_true,↓X0,X1,Nat.reduceEqDiff,Int.reduceEq,Nat.reduceAdd,Nat.reduceSub,X2,Hp_ne,Nat.reduceLeDiff]);with_reducible first|done|exact rfl|exact bT|exact bF))|apply Wp.andS|apply Wp.orS|with_reducible apply Wp.gu|simp only[↓X3]|simp(disch:=decide)only[asks_nil,asks_in,asks_out,askB_nil,askB_in,askB_out]|with_reducible apply Wp.assoc));try(with_reducible apply Wp.cargs;case h=>((try simp(disch:=omega)only[↓reduceIte,ask_true,↓X0,X1,Nat.reduceEqDiff,Int.reduceEq,Nat.reduceAdd,Nat.reduceSub,X2,Hp_ne,Nat.reduceLeDiff]);with_reducible exact rfl)))
 refine Wp.rt (k42 (hv.mv (by omega) (by intros;first|with_reducible rfl|simp(disch:=omega)only[Hp_ne,Hp_same])) hs hpl) ?_
 intro H1 n1 q1 s1
 by_cases hp : PoolOk p
 case neg =>
  (repeat(first|((with_reducible first|apply Wp.gs|apply Wp.cs|apply Wp.cselX|apply Wp.askT|apply Wp.iteKT|apply Wp.ikb|apply Wp.askb|apply Wp.step);case h=>((try simp(disch:=omega)only[↓reduceIte,ask_true,↓X0,X1,Nat.reduceEqDiff,Int.reduceEq,Nat.reduceAdd,Nat.reduceSub,X2,Hp_ne,Nat.reduceLeDiff,hp,s1,bld_3n,ldA_r,rowAgg_row]);with_reducible first|done|exact rfl|exact bT|exact bF))|apply Wp.andS|apply Wp.orS|with_reducible apply Wp.gu|simp only[↓X3]|simp(disch:=decide)only[asks_nil,asks_in,asks_out,askB_nil,askB_in,askB_out]|with_reducible apply Wp.assoc))
  exact Wp.pure ⟨by simp only; omega,(by intros;first|with_reducible rfl|simp(disch:=omega)only[Hp_ne,Hp_same,s1]),by rw [compAns_bad (fun h => hp h.1)]; exact CompRes.none (by simp only; omega) 3 0⟩
 have hp2:=hp.2
 ((repeat(first|((with_reducible first|apply Wp.gs|apply Wp.cs|apply Wp.cselX|apply Wp.askT|apply Wp.iteKT|apply Wp.ikb|apply Wp.askb|apply Wp.step);case h=>((try simp(disch:=omega)only[↓reduceIte,ask_true,↓X0,X1,Nat.reduceEqDiff,Int.reduceEq,Nat.reduceAdd,Nat.reduceSub,X2,Hp_ne,Nat.reduceLeDiff,hp,s1,List.all_cons.{0},ptrV]);with_reducible first|done|exact rfl|exact bT|exact bF))|apply Wp.andS|apply Wp.orS|with_reducible apply Wp.gu|simp only[↓X3]|simp(disch:=decide)only[asks_nil,asks_in,asks_out,askB_nil,askB_in,askB_out]|with_reducible apply Wp.assoc));try(with_reducible apply Wp.cargs;case h=>((try simp(disch:=omega)only[↓reduceIte,ask_true,↓X0,X1,Nat.reduceEqDiff,Int.reduceEq,Nat.reduceAdd,Nat.reduceSub,X2,Hp_ne,Nat.reduceLeDiff,hp,s1,List.all_cons.{0},ptrV]);with_reducible exact rfl)))
 refine Wp.rt (k43 (hw.mv (by omega) (by intros;first|with_reducible rfl|simp(disch:=omega)only[Hp_ne,Hp_same,s1])) hl _ _ (fun x => !decide (0 ≤ x ∧ x < (p.length : Int))) ?_) ?_
 ·intro x hx H' n' hn' hs'
  exact k44 (hv.mv (by omega) (by intros;first|with_reducible rfl|simp(disch:=omega)only[Hp_ne,Hp_same,hs',s1])) hpl (by simp (disch:=omega) only [hs',Hp_ne,Hp_same,s1]) x
 intro H2 n2 q2 s2
 by_cases hr : inPool p l
 case neg =>
  have hany : l.any (fun x => !decide (0 ≤ x ∧ x < (p.length : Int))) = true:=by
   rw [List.any_eq_true]
   unfold inPool at hr
   simp only [Classical.not_forall] at hr
   obtain ⟨x,hx,h⟩:=hr
   exact ⟨x,hx,by rw [decide_eq_false h]; rfl⟩
  (repeat(first|((with_reducible first|apply Wp.gs|apply Wp.cs|apply Wp.cselX|apply Wp.askT|apply Wp.iteKT|apply Wp.ikb|apply Wp.askb|apply Wp.step);case h=>((try simp(disch:=omega)only[↓reduceIte,ask_true,↓X0,X1,Nat.reduceEqDiff,Int.reduceEq,Nat.reduceAdd,Nat.reduceSub,X2,Hp_ne,Nat.reduceLeDiff,hany,s2,s1,bld_3n,ldA_r,rowAgg_row]);with_reducible first|done|exact rfl|exact bT|exact bF))|apply Wp.andS|apply Wp.orS|with_reducible apply Wp.gu|simp only[↓X3]|simp(disch:=decide)only[asks_nil,asks_in,asks_out,askB_nil,askB_in,askB_out]|with_reducible apply Wp.assoc))
  exact Wp.pure ⟨by simp only; omega,(by intros;first|with_reducible rfl|simp(disch:=omega)only[Hp_ne,Hp_same,s2,s1]),by rw [compAns_bad (fun h => hr h.2)]; exact CompRes.none (by simp only; omega) 3 0⟩
 have hany : l.any (fun x => !decide (0 ≤ x ∧ x < (p.length : Int))) = false:=by
  rw [List.any_eq_false]; intro x hx; simpa using hr x hx
 ((repeat(first|((with_reducible first|apply Wp.gs|apply Wp.cs|apply Wp.cselX|apply Wp.askT|apply Wp.iteKT|apply Wp.ikb|apply Wp.askb|apply Wp.step);case h=>((try simp(disch:=omega)only[↓reduceIte,ask_true,↓X0,X1,Nat.reduceEqDiff,Int.reduceEq,Nat.reduceAdd,Nat.reduceSub,X2,Hp_ne,Nat.reduceLeDiff,hany,s2,s1]);with_reducible first|done|exact rfl|exact bT|exact bF))|apply Wp.andS|apply Wp.orS|with_reducible apply Wp.gu|simp only[↓X3]|simp(disch:=decide)only[asks_nil,asks_in,asks_out,askB_nil,askB_in,askB_out]|with_reducible apply Wp.assoc));try(with_reducible apply Wp.cargs;case h=>((try simp(disch:=omega)only[↓reduceIte,ask_true,↓X0,X1,Nat.reduceEqDiff,Int.reduceEq,Nat.reduceAdd,Nat.reduceSub,X2,Hp_ne,Nat.reduceLeDiff,hany,s2,s1]);with_reducible exact rfl)))
 refine Wp.rtn (k46 (hv.mv (by omega) (by intros;first|with_reducible rfl|simp(disch:=omega)only[Hp_ne,Hp_same,s2,s1])) (by omega)) ?_
 rintro _ H3 n3 q3 s3 ⟨u,rfl,id,i1,i2,i3⟩
 ((repeat(first|((with_reducible first|apply Wp.gs|apply Wp.cs|apply Wp.cselX|apply Wp.askT|apply Wp.iteKT|apply Wp.ikb|apply Wp.askb|apply Wp.step);case h=>((try simp(disch:=omega)only[↓reduceIte,ask_true,↓X0,X1,Nat.reduceEqDiff,Int.reduceEq,Nat.reduceAdd,Nat.reduceSub,X2,Hp_ne,Nat.reduceLeDiff,bld_31,bld_4 u i3.cell,hw.len]);with_reducible first|done|exact rfl|exact bT|exact bF))|apply Wp.andS|apply Wp.orS|with_reducible apply Wp.gu|simp only[↓X3]|simp(disch:=decide)only[asks_nil,asks_in,asks_out,askB_nil,askB_in,askB_out]|with_reducible apply Wp.assoc));try(with_reducible apply Wp.cargs;case h=>((try simp(disch:=omega)only[↓reduceIte,ask_true,↓X0,X1,Nat.reduceEqDiff,Int.reduceEq,Nat.reduceAdd,Nat.reduceSub,X2,Hp_ne,Nat.reduceLeDiff,bld_31,bld_4 u i3.cell,hw.len]);with_reducible exact rfl)))
 generalize hG : H3.set (n2 + 4) _ = G
 have hGs : ∀ i,i ≠ n2 + 4 → G i = H3 i:=fun i hi => by rw [← hG]; exact Hp_ne _ _ hi
 have hk : ∀ i,i < n2 + 4 → G i = H2 i:=fun i hi => by rw [hGs i (by omega)]; exact s3 i (by omega)
 have hid : At eNode id G u p:=i3.mv (hGs id (by omega))
 have hb : G (n + 1) = some (.row [nilS,nilS,nilS] 0 true):=by rw [hk _ (by omega)]; simp (disch:=omega) only [s2,s1,Hp_same]
 have hDC : DC (n2 + 4) (n2 + 5) (n2 + 3) (n3 + 3) G u nilS nilS ⟨0,[],[]⟩:=⟨⟨by rw [← hG]; exact Hp_same _ _ _,At.nil,by omega,by omega,by omega,by simp,⟨Int.le_refl 0,by show (0 : Int) ≤ 3; decide⟩⟩,At.nil,by omega,by omega,by omega⟩
 have hwG : Li eInt n G w l:=hw.mv (Nat.le_refl _) (fun i hi => by rw [hk i (by omega),s2 i (by omega),s1 i (by omega)]; simp (disch:=omega) only [Hp_ne])
 refine Wp.bind (l9 hp hr hl (b:=n + 1) (w:=w) hDC (hid.lo (by omega) (by omega) (by omega)) (fun i o a k e => by rcases hid with ⟨h,_⟩ | ⟨h,_⟩ <;> rw [h] at e <;> cases e; omega) ⟨hwG.mv (by omega) (fun _ _ => rfl),hwG.off (by omega),hwG.off (by omega)⟩ (hwG.off (by omega)) (by omega) (by omega) (by omega) (by omega) _ (by simp [put_at]) (by simp [put_at]) (by simp [put_at,argsT_at]) (by simp [put_at]) (by simp [put_at]) (by simp [put_at,argsT_at]) hb) ?_
 rintro ⟨oe,ot,oH,on⟩ ⟨f1,f2,f3,f4,f5⟩
 simp only at f1 f2 f3 f4 f5
 have hkn : ∀ i,i < n → oH i = H i:=fun i hi => by
  rw [f2 i (by omega) (by omega) (by omega) (by omega) (by omega),hk i (by omega),s2 i (by omega),s1 i (by omega)]; simp (disch:=omega) only [Hp_ne]
 have hD:=cAll_D p l 0 ⟨0,[],[]⟩
 have hSm:=cAll_small hp l 0 ⟨0,[],[]⟩ hr ⟨fun x hx => by simp at hx,fun x hx => by simp at hx⟩
 have hyes:=fun h0 h3 => compAns_y (p:=p) (l:=l) ⟨hp,hr⟩ h0 h3
 have hno:=fun h0 h3 => compAns_n (p:=p) (l:=l) ⟨hp,hr⟩ h0 h3
 have hthree:=fun h0 => compAns_3 (p:=p) (l:=l) ⟨hp,hr⟩ h0
 have herr:=fun h0 h3 => compAns_e (p:=p) (l:=l) ⟨hp,hr⟩ h0 h3
 generalize hQ : cAll p l 0 ⟨0,[],[]⟩ = Q at *
 obtain ⟨S,at_⟩:=Q
 simp only at f5 hD hSm hyes hno hthree herr
 rcases f5 with ⟨rfl,e1,e7,h0,ul,il,ud,idd,j1,j2,hdc⟩ | ⟨rfl,h0,e5,e6⟩
 ·have hc:=hdc.cc.hc
  have hcn:=hdc.cc.cn
  have hil:=hdc.cc.iln
  have hdn:=hdc.dn
  have hpid : At eNode id oH u p:=hid.mv (f2 id (by omega) (by omega) (by omega) (by omega) (by omega))
  have hLl:=hdc.cc.len
  ((repeat(first|((with_reducible first|apply Wp.gs|apply Wp.cs|apply Wp.cselX|apply Wp.askT|apply Wp.iteKT|apply Wp.ikb|apply Wp.askb|apply Wp.step);case h=>((try simp(disch:=omega)only[↓reduceIte,ask_true,↓X0,X1,Nat.reduceEqDiff,Int.reduceEq,Nat.reduceAdd,Nat.reduceSub,X2,Hp_ne,Nat.reduceLeDiff,e7,hc]);with_reducible first|done|exact rfl|exact bT|exact bF))|apply Wp.andS|apply Wp.orS|with_reducible apply Wp.gu|simp only[↓X3]|simp(disch:=decide)only[asks_nil,asks_in,asks_out,askB_nil,askB_in,askB_out]|with_reducible apply Wp.assoc));try(with_reducible apply Wp.cargs;case h=>((try simp(disch:=omega)only[↓reduceIte,ask_true,↓X0,X1,Nat.reduceEqDiff,Int.reduceEq,Nat.reduceAdd,Nat.reduceSub,X2,Hp_ne,Nat.reduceLeDiff,e7,hc]);with_reducible exact rfl)))
  refine Wp.rt (k12 ((hpid.lst (by omega)).mv (by omega) (fun _ _ => rfl)) ((hdc.cc.al.lst hil).mv (by omega) (fun _ _ => rfl)) ((hdc.ad.lst hdn).mv (by omega) (fun _ _ => rfl)) hs hSm.1 hSm.2 hpl (by omega) (by simp at hD; omega)) ?_
  intro H5 n5 q5 s5
  have hb5 : H5 (n + 1) = some (.row [nilS,nilS,nilS] 0 true):=by rw [s5 _ (by omega)]; exact f3
  have hc5 : H5 (n2 + 4) = some (.row [u,ul,ud,.int .i64 S.how] 0 true):=by rw [s5 _ (by omega)]; exact hc
  by_cases hco : CodeOk p S.L S.D
  ·rw [hyes h0 hco]
   have hst : st true 3 (ptr (n + 1) 0) (.agg ⟨[u,ul,ud]⟩) H5 = some (H5.set (n + 1) (some (.row [u,ul,ud] 0 true))):=by
    rw [st_agg,stv_box hb5]; rfl
   (repeat(first|((with_reducible first|apply Wp.gs|apply Wp.cs|apply Wp.cselX|apply Wp.askT|apply Wp.iteKT|apply Wp.ikb|apply Wp.askb|apply Wp.step);case h=>((try simp(disch:=omega)only[↓reduceIte,ask_true,↓X0,X1,Nat.reduceEqDiff,Int.reduceEq,Nat.reduceAdd,Nat.reduceSub,X2,Hp_ne,Nat.reduceLeDiff,hco,e1,e7,f4,hc5,hst,hwG.len]);with_reducible first|done|exact rfl|exact bT|exact bF))|apply Wp.andS|apply Wp.orS|with_reducible apply Wp.gu|simp only[↓X3]|simp(disch:=decide)only[asks_nil,asks_in,asks_out,askB_nil,askB_in,askB_out]|with_reducible apply Wp.assoc))
   refine Wp.pure ⟨by simp only; omega,(by intros;first|with_reducible rfl|simp(disch:=omega)only[Hp_ne,Hp_same,s5,hkn]),u,ul,ud,rfl,id,il,idd,?_,?_,?_,by omega,by simp only; omega,?_,by simp only; omega,?_,by simp only; omega,?_,?_,?_⟩
   ·omega
   ·omega
   ·exact Ne.symm hdc.ni
   ·omega
   ·omega
   ·exact hpid.mv ((Hp_ne _ _ (by omega)).trans (s5 _ (by omega)))
   ·exact hdc.cc.al.mv ((Hp_ne _ _ (by omega)).trans (s5 _ (by omega)))
   ·exact hdc.ad.mv ((Hp_ne _ _ (by omega)).trans (s5 _ (by omega)))
  ·rw [hno h0 hco]
   (repeat(first|((with_reducible first|apply Wp.gs|apply Wp.cs|apply Wp.cselX|apply Wp.askT|apply Wp.iteKT|apply Wp.ikb|apply Wp.askb|apply Wp.step);case h=>((try simp(disch:=omega)only[↓reduceIte,ask_true,↓X0,X1,Nat.reduceEqDiff,Int.reduceEq,Nat.reduceAdd,Nat.reduceSub,X2,Hp_ne,Nat.reduceLeDiff,hco,f4,bld_3n,hb5,ldA_r,rowAgg_row]);with_reducible first|done|exact rfl|exact bT|exact bF))|apply Wp.andS|apply Wp.orS|with_reducible apply Wp.gu|simp only[↓X3]|simp(disch:=decide)only[asks_nil,asks_in,asks_out,askB_nil,askB_in,askB_out]|with_reducible apply Wp.assoc))
   exact Wp.pure ⟨by simp only; omega,(by intros;first|with_reducible rfl|simp(disch:=omega)only[Hp_ne,Hp_same,s5,hkn]),CompRes.none (by simp only; omega) 3 0⟩
 ·simp(disch:=omega)only[↓reduceIte,ask_true,↓X0,X1,Nat.reduceEqDiff,Int.reduceEq,Nat.reduceAdd,Nat.reduceSub,f4,e5,e6,ldA_r,f3,rowAgg_row,List.length_cons,List.length_nil,Nat.reduceLeDiff,List.drop_zero,List.take_succ_cons,List.take_zero]
  by_cases h3 : S.how = 3
  ·rw [hthree h3]
   rw [h3,if_pos rfl]
   exact Wp.pure ⟨by simp only; omega,hkn,CompRes.none (by simp only; omega) 3 0⟩
  ·rw [herr h0 h3,if_neg h3]
   exact Wp.pure ⟨by simp only; omega,hkn,CompRes.none (by simp only; omega) _ _⟩
end Go.Proofs.Ytbgkimkbngocjaa.Ax
set_option linter.unusedVariables false
set_option linter.unusedSimpArgs false
set_option maxHeartbeats 8000000
namespace Go.Proofs.Ytbgkimkbngocjaa.Ax
open Go
theorem l110 {v : Value} {p : List Nd} (hp : PoolOk p) {l : List Int} (hr : inPool p l) (hl : l.length ≤ 1048576) {c il0 idd0 b n0 : Nat} {H0 : Hp} {w : Value} (hD0 : DC c il0 idd0 n0 H0 v nilS nilS ⟨0,[],[]⟩) (hv : LO eNode c il0 n0 H0 v p) (hvd : Off idd0 v) (hw : LO eInt c il0 n0 H0 w l) (hwd : Off idd0 w) (hb : b < n0) (hbc : b ≠ c) (hbi : b ≠ il0) (hbd : b ≠ idd0) : ∀ t n1,n0 ≤ n1 → t 4 = ptr b 0 → t 8 = ptr c 0 → t 9 = .int .i64 0 → t 1 = w → H0 b = some (.row [nilS,nilS,nilS] 0 true) →
  Wp (Loop (S10L1 (Call Try.prog) Loop) t H0 n1) (fun o => n0 ≤ o.n ∧ (∀ i,i < n0 → i ≠ c → i ≠ il0 → i ≠ idd0 → i ≠ b → o.H i = H0 i) ∧ o.H b = some (.row [nilS,nilS,nilS] 0 true) ∧ o.t 4 = ptr b 0 ∧ ((o.e = .exit 2 ∧ o.t 1 = w ∧ o.t 8 = ptr c 0 ∧ (cAll p l 0 ⟨0,[],[]⟩).1.how = 0 ∧ ∃ ul il ud idd,(il = il0 ∨ n0 ≤ il) ∧ (idd = idd0 ∨ n0 ≤ idd) ∧ DC c il idd o.n o.H v ul ud (cAll p l 0 ⟨0,[],[]⟩).1) ∨ (o.e = .ret ∧ (cAll p l 0 ⟨0,[],[]⟩).1.how ≠ 0 ∧ o.t 5 = .int .i64 (cAll p l 0 ⟨0,[],[]⟩).1.how ∧ o.t 6 = .int .i64 (if (cAll p l 0 ⟨0,[],[]⟩).1.how = 3 then 0 else (cAll p l 0 ⟨0,[],[]⟩).2)))):=by
 intro t n1 hn1 e4 e8 e9 e1 hb0
 have hcn0:=hD0.cc.cn
 have hil0:=hD0.cc.iln
 have hdn0:=hD0.dn
 refine Loop_rule (fun d T H' n' => ∃ (j : Nat) (ul : Value) (il : Nat) (ud : Value) (idd : Nat) (s : CS),j + d = l.length ∧ n0 ≤ n' ∧ (∀ i,i < n0 → i ≠ c → i ≠ il0 → i ≠ idd0 → H' i = H0 i) ∧ (il = il0 ∨ n0 ≤ il) ∧ (idd = idd0 ∨ n0 ≤ idd) ∧ DC c il idd n' H' v ul ud s ∧ s.how = 0 ∧ s.D.length ≤ j ∧ cAll p l 0 ⟨0,[],[]⟩ = cAll p (l.drop j) j s ∧ T 1 = w ∧ T 4 = ptr b 0 ∧ T 8 = ptr c 0 ∧ T 9 = .int .i64 j) _ ?_ l.length t H0 n1 ⟨0,nilS,il0,nilS,idd0,⟨0,[],[]⟩,by omega,by omega,fun _ _ _ _ _ => rfl,.inl rfl,.inl rfl,hD0.mv (by omega) rfl rfl rfl,rfl,by simp,by simp,e1,e4,e8,e9⟩
 rintro d T H' n' ⟨j,ul,il,ud,idd,s,hj,hn,s1,hil,hidd,hDC,h0,hDl,hall,e1,e4,e8,e9⟩
 unfold S10L1
 have hbH : H' b = some (.row [nilS,nilS,nilS] 0 true):=by rw [s1 b hb hbc hbi hbd]; exact hb0
 have hkeep : ∀ {α : Type} {E : Enc α} {w : Value} {l : List α},LO E c il0 n0 H0 w l → Off idd0 w → LO E c il n' H' w l ∧ Off idd w:=by
  intro α E w l hL hO
  refine ⟨⟨(hL.li.keep' fun i o a k e => s1 i (hL.li.2 i o a k e) (hL.oc i o a k e) (hL.oi i o a k e) (hO i o a k e)).up hn,hL.oc,?_⟩,?_⟩
  ·rcases hil with rfl | h
   ·exact hL.oi
   ·exact hL.li.off h
  ·rcases hidd with rfl | h
   ·exact hO
   ·exact hL.li.off h
 obtain ⟨hw',hwd'⟩:=hkeep hw hwd
 obtain ⟨hv',hvd'⟩:=hkeep hv hvd
 have hcn:=hDC.cc.cn
 have hiln:=hDC.cc.iln
 have hdn:=hDC.dn
 have hlen:=hw'.li.len
 by_cases hlt : (j : Int) < l.length
 ·have hlt' : j < l.length:=by omega
  have g:=hw'.li.iAll (i:=(j : Int)) (by omega) hlt
  have hmem:=gi_mem (l:=l) (i:=(j : Int)) (by omega) hlt
  have hrj:=hr _ hmem
  have hws:=wj (j:=j) (len:=l.length) hlt' (by omega)
  have hdr : l.drop j = gi l (j : Int) :: l.drop (j + 1):=by rw [gi_nat hlt']; exact List.drop_eq_getElem_cons hlt'
  rw [hdr,cAll] at hall
  ((repeat(first|((with_reducible first|apply Wp.gs|apply Wp.cs|apply Wp.cselX|apply Wp.askT|apply Wp.iteKT|apply Wp.ikb|apply Wp.askb|apply Wp.step);case h=>((try simp(disch:=omega)only[↓reduceIte,ask_true,↓X0,X1,Nat.reduceEqDiff,Int.reduceEq,Nat.reduceAdd,Nat.reduceSub,e1,e8,e9,hlen,hlt,g]);with_reducible first|done|exact rfl|exact bT|exact bF))|apply Wp.andS|apply Wp.orS|with_reducible apply Wp.gu|simp only[↓X3]|simp(disch:=decide)only[asks_nil,asks_in,asks_out,askB_nil,askB_in,askB_out]|with_reducible apply Wp.assoc));try(with_reducible apply Wp.cargs;case h=>((try simp(disch:=omega)only[↓reduceIte,ask_true,↓X0,X1,Nat.reduceEqDiff,Int.reduceEq,Nat.reduceAdd,Nat.reduceSub,e1,e8,e9,hlen,hlt,g]);with_reducible exact rfl)))
  refine Wp.rtm3 (k51 hp (Goes.expr p p.length) (fun y y0 y1 => k124 hp p.length y y0 y1 y1) (hDC.mv (by omega) rfl rfl rfl) h0 (hv'.mv (by omega) (fun _ _ _ _ => rfl) (.inl rfl)) hvd' _ hrj.1 hrj.2 (by omega)) ?_
  rintro H2 n2 q2 s2 ⟨A,wA,ul2,il2,ud2,idd2,i2,j2,h2⟩
  have hDt:=cTop_D (Goes.expr p p.length) p (gi l (j : Int)) s
  generalize hS : cTop (cExpr p p.length) p (gi l (j : Int)) s = S at *
  have hc2:=h2.cc.hc
  have hr2:=h2.cc.hr
  rw [wA.1] at hc2 hr2
  have hb2 : H2 b = some (.row [nilS,nilS,nilS] 0 true):=by rw [s2 b (by omega) hbc (by omega) (by omega)]; exact hbH
  have hk2 : ∀ i,i < n0 → i ≠ c → i ≠ il0 → i ≠ idd0 → H2 i = H0 i:=fun i a b c d => by rw [s2 i (by omega) b (by omega) (by omega)]; exact s1 i a b c d
  by_cases hS0 : S.how = 0
  ·rw [if_pos hS0] at hall
   have hA:=wA.2 hS0
   subst hA
   (repeat(first|((with_reducible first|apply Wp.gs|apply Wp.cs|apply Wp.cselX|apply Wp.askT|apply Wp.iteKT|apply Wp.ikb|apply Wp.askb|apply Wp.step);case h=>((try simp(disch:=omega)only[↓reduceIte,ask_true,↓X0,X1,Nat.reduceEqDiff,Int.reduceEq,Nat.reduceAdd,Nat.reduceSub,X2,Hp_ne,Nat.reduceLeDiff,e1,e4,e8,e9,hc2,hS0,show ¬ (0 : Int) = 3 by decide,hws]);with_reducible first|done|exact rfl|exact bT|exact bF))|apply Wp.andS|apply Wp.orS|with_reducible apply Wp.gu|simp only[↓X3]|simp(disch:=decide)only[asks_nil,asks_in,asks_out,askB_nil,askB_in,askB_out]|with_reducible apply Wp.assoc))
   exact Wp.pure (Nxt.go (d - 1) (by omega) ⟨j + 1,ul2,il2,ud2,idd2,A,by omega,by omega,hk2,by omega,by omega,h2.mv (by omega) rfl rfl rfl,hS0,by omega,hall,by simp [put_at,e1],by simp [put_at,e4],by simp [put_at,e8],by simp [put_at]⟩)
  ·rw [if_neg hS0] at hall
   have hst : st true 3 (ptr b 0) (.agg ⟨[nilS,nilS,nilS]⟩) H2 = some (H2.set b (some (.row [nilS,nilS,nilS] 0 true))):=by
    rw [st_agg,stv_box hb2]; rfl
   have hfr : ∀ i,i < n0 → i ≠ c → i ≠ il0 → i ≠ idd0 → i ≠ b → (H2.set b (some (.row [nilS,nilS,nilS] 0 true))) i = H0 i:=fun i a b c d e => by rw [Hp_ne _ _ e]; exact hk2 i a b c d
   have hcb : (H2.set b (some (.row [nilS,nilS,nilS] 0 true))) c = some (.row [v,ul2,ud2,.int .i64 S.how] 0 true):=(Hp_ne _ _ (Ne.symm hbc)).trans hc2
   by_cases hS3 : S.how = 3
   ·(repeat(first|((with_reducible first|apply Wp.gs|apply Wp.cs|apply Wp.cselX|apply Wp.askT|apply Wp.iteKT|apply Wp.ikb|apply Wp.askb|apply Wp.step);case h=>((try simp(disch:=omega)only[↓reduceIte,ask_true,↓X0,X1,Nat.reduceEqDiff,Int.reduceEq,Nat.reduceAdd,Nat.reduceSub,X2,Hp_ne,Nat.reduceLeDiff,e1,e4,e8,e9,hc2,hS3,bld_3n,hst]);with_reducible first|done|exact rfl|exact bT|exact bF))|apply Wp.andS|apply Wp.orS|with_reducible apply Wp.gu|simp only[↓X3]|simp(disch:=decide)only[asks_nil,asks_in,asks_out,askB_nil,askB_in,askB_out]|with_reducible apply Wp.assoc))
    exact Wp.pure (Nxt.ret ⟨by simp only; omega,hfr,Hp_same _ _ _,by simp [put_at,e4],.inr ⟨rfl,by rw [hall]; exact hS0,by rw [hall]; simp [put_at,hS3],by rw [hall]; simp [put_at,hS3]⟩⟩)
   ·(repeat(first|((with_reducible first|apply Wp.gs|apply Wp.cs|apply Wp.cselX|apply Wp.askT|apply Wp.iteKT|apply Wp.ikb|apply Wp.askb|apply Wp.step);case h=>((try simp(disch:=omega)only[↓reduceIte,ask_true,↓X0,X1,Nat.reduceEqDiff,Int.reduceEq,Nat.reduceAdd,Nat.reduceSub,X2,Hp_ne,Nat.reduceLeDiff,e1,e4,e8,e9,hc2,hS0,hS3,bld_3n,hst,hcb]);with_reducible first|done|exact rfl|exact bT|exact bF))|apply Wp.andS|apply Wp.orS|with_reducible apply Wp.gu|simp only[↓X3]|simp(disch:=decide)only[asks_nil,asks_in,asks_out,askB_nil,askB_in,askB_out]|with_reducible apply Wp.assoc))
    exact Wp.pure (Nxt.ret ⟨by simp only; omega,hfr,Hp_same _ _ _,by simp [put_at,e4],.inr ⟨rfl,by rw [hall]; exact hS0,by rw [hall]; simp [put_at],by rw [hall]; simp [put_at,hS3,e9]⟩⟩)
 ·((repeat(first|((with_reducible first|apply Wp.gs|apply Wp.cs|apply Wp.cselX|apply Wp.askT|apply Wp.iteKT|apply Wp.ikb|apply Wp.askb|apply Wp.step);case h=>((try simp(disch:=omega)only[↓reduceIte,ask_true,↓X0,X1,Nat.reduceEqDiff,Int.reduceEq,Nat.reduceAdd,Nat.reduceSub,e1,e9,hlen,hlt]);with_reducible first|done|exact rfl|exact bT|exact bF))|apply Wp.andS|apply Wp.orS|with_reducible apply Wp.gu|simp only[↓X3]|simp(disch:=decide)only[asks_nil,asks_in,asks_out,askB_nil,askB_in,askB_out]|with_reducible apply Wp.assoc));try(with_reducible apply Wp.cargs;case h=>((try simp(disch:=omega)only[↓reduceIte,ask_true,↓X0,X1,Nat.reduceEqDiff,Int.reduceEq,Nat.reduceAdd,Nat.reduceSub,e1,e9,hlen,hlt]);with_reducible exact rfl)))
  rw [List.drop_eq_nil_of_le (by omega),cAll] at hall
  exact Wp.pure (Nxt.exit ⟨by simp only; omega,fun i a b c d _ => s1 i a b c d,hbH,by simp [put_at,e4],.inl ⟨rfl,by simp [put_at,e1],by simp [put_at,e8],by rw [hall]; exact h0,ul,il,ud,idd,hil,hidd,by rw [hall]; exact hDC.mv (by simp only; omega) rfl rfl rfl⟩⟩)
theorem bld_41 (u : Value) : bld [nilS,nilS,nilS,.int .i64 0] [(0,1,.agg ⟨[u]⟩)] = some (.agg ⟨[u,nilS,nilS,.int .i64 0]⟩):=rfl
theorem k10 {n : Nat} {H : Hp} {v w : Value} {p : List Nd} {l : List Int} (hv : Li eNode n H v p) (hs : ∀ x ∈ p,x.s.size ≤ 1048576) (hpl : p.length ≤ 1048576) (hw : Li eInt n H w l) (hl : l.length ≤ 1048576) : RtN Try.prog 10 [.agg ⟨[v]⟩,w] H n (fun r H' n' => CompRes n n' H' r (compAns p l)):=by
 apply RtN.mk
 rw [c10]; unfold S10
 ((repeat(first|((with_reducible first|apply Wp.gs|apply Wp.cs|apply Wp.cselX|apply Wp.askT|apply Wp.iteKT|apply Wp.ikb|apply Wp.askb|apply Wp.step);case h=>((try simp(disch:=omega)only[↓reduceIte,ask_true,↓X0,X1,Nat.reduceEqDiff,Int.reduceEq,Nat.reduceAdd,Nat.reduceSub,X2,Hp_ne,Nat.reduceLeDiff]);with_reducible first|done|exact rfl|exact bT|exact bF))|apply Wp.andS|apply Wp.orS|with_reducible apply Wp.gu|simp only[↓X3]|simp(disch:=decide)only[asks_nil,asks_in,asks_out,askB_nil,askB_in,askB_out]|with_reducible apply Wp.assoc));try(with_reducible apply Wp.cargs;case h=>((try simp(disch:=omega)only[↓reduceIte,ask_true,↓X0,X1,Nat.reduceEqDiff,Int.reduceEq,Nat.reduceAdd,Nat.reduceSub,X2,Hp_ne,Nat.reduceLeDiff]);with_reducible exact rfl)))
 refine Wp.rt (k48 (hv.mv (by omega) (by intros;first|with_reducible rfl|simp(disch:=omega)only[Hp_ne,Hp_same])) hs hpl) ?_
 intro H1 n1 q1 s1
 by_cases hp : PoolOk p
 case neg =>
  (repeat(first|((with_reducible first|apply Wp.gs|apply Wp.cs|apply Wp.cselX|apply Wp.askT|apply Wp.iteKT|apply Wp.ikb|apply Wp.askb|apply Wp.step);case h=>((try simp(disch:=omega)only[↓reduceIte,ask_true,↓X0,X1,Nat.reduceEqDiff,Int.reduceEq,Nat.reduceAdd,Nat.reduceSub,X2,Hp_ne,Nat.reduceLeDiff,hp,s1,bld_3n,ldA_r,rowAgg_row]);with_reducible first|done|exact rfl|exact bT|exact bF))|apply Wp.andS|apply Wp.orS|with_reducible apply Wp.gu|simp only[↓X3]|simp(disch:=decide)only[asks_nil,asks_in,asks_out,askB_nil,askB_in,askB_out]|with_reducible apply Wp.assoc))
  exact Wp.pure ⟨by simp only; omega,(by intros;first|with_reducible rfl|simp(disch:=omega)only[Hp_ne,Hp_same,s1]),by rw [compAns_bad (fun h => hp h.1)]; exact CompRes.none (by simp only; omega) 3 0⟩
 have hp2:=hp.2
 ((repeat(first|((with_reducible first|apply Wp.gs|apply Wp.cs|apply Wp.cselX|apply Wp.askT|apply Wp.iteKT|apply Wp.ikb|apply Wp.askb|apply Wp.step);case h=>((try simp(disch:=omega)only[↓reduceIte,ask_true,↓X0,X1,Nat.reduceEqDiff,Int.reduceEq,Nat.reduceAdd,Nat.reduceSub,X2,Hp_ne,Nat.reduceLeDiff,hp,s1]);with_reducible first|done|exact rfl|exact bT|exact bF))|apply Wp.andS|apply Wp.orS|with_reducible apply Wp.gu|simp only[↓X3]|simp(disch:=decide)only[asks_nil,asks_in,asks_out,askB_nil,askB_in,askB_out]|with_reducible apply Wp.assoc));try(with_reducible apply Wp.cargs;case h=>((try simp(disch:=omega)only[↓reduceIte,ask_true,↓X0,X1,Nat.reduceEqDiff,Int.reduceEq,Nat.reduceAdd,Nat.reduceSub,X2,Hp_ne,Nat.reduceLeDiff,hp,s1]);with_reducible exact rfl)))
 have hb1 : H1 (n + 1) = some (.row [nilS,nilS,nilS] 0 true):=by simp (disch:=omega) only [s1,Hp_same]
 have hp1 : H1 n = some (.row [v] 0 true):=by simp (disch:=omega) only [s1,Hp_ne,Hp_same]
 have hk1 : ∀ i,i < n → H1 i = H i:=(by intros;first|with_reducible rfl|simp(disch:=omega)only[Hp_ne,Hp_same,s1])
 refine Wp.bind (Loop_rule (fun d T H' n' => ∃ j : Nat,j + d = l.length ∧ n1 + 1 ≤ n' ∧ (∀ i,i < n1 → H' i = H1 i) ∧ T 1 = w ∧ T 2 = ptr n 0 ∧ T 4 = ptr (n + 1) 0 ∧ T 7 = .int .i64 j ∧ ∀ y ∈ l.take j,0 ≤ y ∧ y < (p.length : Int)) (fun o => n1 + 1 ≤ o.n ∧ o.t 4 = ptr (n + 1) 0 ∧ ((o.e = .exit 0 ∧ (∀ i,i < n1 → o.H i = H1 i) ∧ o.t 1 = w ∧ o.t 2 = ptr n 0 ∧ inPool p l) ∨ (o.e = .ret ∧ (∀ i,i < n → o.H i = H i) ∧ o.H (n + 1) = some (.row [nilS,nilS,nilS] 0 true) ∧ ¬ inPool p l ∧ o.t 5 = .int .i64 3 ∧ o.t 6 = .int .i64 0))) ?_ l.length _ _ _ ⟨0,by omega,by omega,fun _ _ => rfl,by simp [put_at,argsT_at],by simp [put_at],by simp [put_at],by simp [put_at],by simp⟩) ?_
 ·rintro d T H' n' ⟨j,hj,hn,t1,e1,e2,e4,e7,hin⟩
  unfold S10L0
  have hw' : Li eInt n H' w l:=hw.mv (Nat.le_refl _) (fun i hi => (t1 i (by omega)).trans (hk1 i hi))
  have hp' : H' n = some (.row [v] 0 true):=(t1 n (by omega)).trans hp1
  have hb' : H' (n + 1) = some (.row [nilS,nilS,nilS] 0 true):=(t1 _ (by omega)).trans hb1
  have hlen:=hw'.len
  by_cases hlt : (j : Int) < l.length
  ·have hlt' : j < l.length:=by omega
   have g:=hw'.iAll (i:=(j : Int)) (by omega) hlt
   have hws:=wj (j:=j) (len:=l.length) hlt' (by omega)
   ((repeat(first|((with_reducible first|apply Wp.gs|apply Wp.cs|apply Wp.cselX|apply Wp.askT|apply Wp.iteKT|apply Wp.ikb|apply Wp.askb|apply Wp.step);case h=>((try simp(disch:=omega)only[↓reduceIte,ask_true,↓X0,X1,Nat.reduceEqDiff,Int.reduceEq,Nat.reduceAdd,Nat.reduceSub,X2,Hp_ne,Nat.reduceLeDiff,e1,e2,e4,e7,hlen,hlt,hp',g]);with_reducible first|done|exact rfl|exact bT|exact bF))|apply Wp.andS|apply Wp.orS|with_reducible apply Wp.gu|simp only[↓X3]|simp(disch:=decide)only[asks_nil,asks_in,asks_out,askB_nil,askB_in,askB_out]|with_reducible apply Wp.assoc));try(with_reducible apply Wp.cargs;case h=>((try simp(disch:=omega)only[↓reduceIte,ask_true,↓X0,X1,Nat.reduceEqDiff,Int.reduceEq,Nat.reduceAdd,Nat.reduceSub,X2,Hp_ne,Nat.reduceLeDiff,e1,e2,e4,e7,hlen,hlt,hp',g]);with_reducible exact rfl)))
   refine Wp.rt (k49 (hv.mv (by omega) (fun i hi => (t1 i (by omega)).trans (hk1 i hi))) hpl _) ?_
   intro H2 n2 q2 t2
   have hb2 : H2 (n + 1) = some (.row [nilS,nilS,nilS] 0 true):=(t2 _ (by omega)).trans hb'
   by_cases hx : 0 ≤ gi l (j : Int) ∧ gi l (j : Int) < (p.length : Int)
   ·(repeat(first|((with_reducible first|apply Wp.gs|apply Wp.cs|apply Wp.cselX|apply Wp.askT|apply Wp.iteKT|apply Wp.ikb|apply Wp.askb|apply Wp.step);case h=>((try simp(disch:=omega)only[↓reduceIte,ask_true,↓X0,X1,Nat.reduceEqDiff,Int.reduceEq,Nat.reduceAdd,Nat.reduceSub,X2,Hp_ne,Nat.reduceLeDiff,hx.1,hx.2,e7,hws]);with_reducible first|done|exact rfl|exact bT|exact bF))|apply Wp.andS|apply Wp.orS|with_reducible apply Wp.gu|simp only[↓X3]|simp(disch:=decide)only[asks_nil,asks_in,asks_out,askB_nil,askB_in,askB_out]|with_reducible apply Wp.assoc))
    refine Wp.pure (Nxt.go (d - 1) (by omega) ⟨j + 1,by omega,by omega,fun i hi => (t2 i (by omega)).trans (t1 i hi),by simp [put_at,e1],by simp [put_at,e2],by simp [put_at,e4],by simp [put_at],fun y hy => ?_⟩)
    rcases mem_take_next hlt' hy with h | h
    ·exact hin y h
    ·rw [h]; exact hx
   ·have hst : st true 3 (ptr (n + 1) 0) (.agg ⟨[nilS,nilS,nilS]⟩) H2 = some (H2.set (n + 1) (some (.row [nilS,nilS,nilS] 0 true))):=by
     rw [st_agg,stv_box hb2]; rfl
    (repeat(first|((with_reducible first|apply Wp.gs|apply Wp.cs|apply Wp.cselX|apply Wp.askT|apply Wp.iteKT|apply Wp.ikb|apply Wp.askb|apply Wp.step);case h=>((try simp(disch:=omega)only[↓reduceIte,ask_true,↓X0,X1,Nat.reduceEqDiff,Int.reduceEq,Nat.reduceAdd,Nat.reduceSub,X2,Hp_ne,Nat.reduceLeDiff,hx,bld_3n,e4,hst]);with_reducible first|done|exact rfl|exact bT|exact bF))|apply Wp.andS|apply Wp.orS|with_reducible apply Wp.gu|simp only[↓X3]|simp(disch:=decide)only[asks_nil,asks_in,asks_out,askB_nil,askB_in,askB_out]|with_reducible apply Wp.assoc))
    exact Wp.pure (Nxt.ret ⟨by simp only; omega,by simp [put_at,e4],.inr ⟨rfl,fun i hi => by show (H2.set _ _) i = H i; rw [Hp_ne _ _ (by omega),t2 i (by omega),t1 i (by omega)]; exact hk1 i hi,Hp_same _ _ _,fun h => hx (h _ (gi_mem (by omega) hlt)),by simp [put_at],by simp [put_at]⟩⟩)
  ·((repeat(first|((with_reducible first|apply Wp.gs|apply Wp.cs|apply Wp.cselX|apply Wp.askT|apply Wp.iteKT|apply Wp.ikb|apply Wp.askb|apply Wp.step);case h=>((try simp(disch:=omega)only[↓reduceIte,ask_true,↓X0,X1,Nat.reduceEqDiff,Int.reduceEq,Nat.reduceAdd,Nat.reduceSub,e1,e7,hlen,hlt]);with_reducible first|done|exact rfl|exact bT|exact bF))|apply Wp.andS|apply Wp.orS|with_reducible apply Wp.gu|simp only[↓X3]|simp(disch:=decide)only[asks_nil,asks_in,asks_out,askB_nil,askB_in,askB_out]|with_reducible apply Wp.assoc));try(with_reducible apply Wp.cargs;case h=>((try simp(disch:=omega)only[↓reduceIte,ask_true,↓X0,X1,Nat.reduceEqDiff,Int.reduceEq,Nat.reduceAdd,Nat.reduceSub,e1,e7,hlen,hlt]);with_reducible exact rfl)))
   rw [List.take_of_length_le (by omega)] at hin
   exact Wp.pure (Nxt.exit ⟨by simp only; omega,by simp [put_at,e4],.inl ⟨rfl,t1,by simp [put_at,e1],by simp [put_at,e2],hin⟩⟩)
 rintro ⟨oe,ot,oH,on⟩ ⟨f1,f4,f5⟩
 simp only at f1 f4 f5
 rcases f5 with ⟨rfl,f5,e1,e2,hr⟩ | ⟨rfl,f5,f6,hr,e5,e6⟩
 case inr =>
  simp(disch:=omega)only[↓reduceIte,ask_true,↓X0,X1,Nat.reduceEqDiff,Int.reduceEq,Nat.reduceAdd,Nat.reduceSub,f4,e5,e6,ldA_r,f6,rowAgg_row,List.length_cons,List.length_nil,Nat.reduceLeDiff,List.drop_zero,List.take_succ_cons,List.take_zero]
  exact Wp.pure ⟨by simp only; omega,f5,by rw [compAns_bad (fun h => hr h.2)]; exact CompRes.none (by simp only; omega) 3 0⟩
 have hpo : oH n = some (.row [v] 0 true):=(f5 n (by omega)).trans hp1
 have hbo : oH (n + 1) = some (.row [nilS,nilS,nilS] 0 true):=(f5 _ (by omega)).trans hb1
 have hko : ∀ i,i < n → oH i = H i:=fun i hi => (f5 i (by omega)).trans (hk1 i hi)
 ((repeat(first|((with_reducible first|apply Wp.gs|apply Wp.cs|apply Wp.cselX|apply Wp.askT|apply Wp.iteKT|apply Wp.ikb|apply Wp.askb|apply Wp.step);case h=>((try simp(disch:=omega)only[↓reduceIte,ask_true,↓X0,X1,Nat.reduceEqDiff,Int.reduceEq,Nat.reduceAdd,Nat.reduceSub,X2,Hp_ne,Nat.reduceLeDiff,e2,hpo]);with_reducible first|done|exact rfl|exact bT|exact bF))|apply Wp.andS|apply Wp.orS|with_reducible apply Wp.gu|simp only[↓X3]|simp(disch:=decide)only[asks_nil,asks_in,asks_out,askB_nil,askB_in,askB_out]|with_reducible apply Wp.assoc));try(with_reducible apply Wp.cargs;case h=>((try simp(disch:=omega)only[↓reduceIte,ask_true,↓X0,X1,Nat.reduceEqDiff,Int.reduceEq,Nat.reduceAdd,Nat.reduceSub,X2,Hp_ne,Nat.reduceLeDiff,e2,hpo]);with_reducible exact rfl)))
 refine Wp.rtn (k50 (hv.mv (by omega) hko) (by omega)) ?_
 rintro _ H3 n3 q3 s3 ⟨u,rfl,id,i1,i2,i3⟩
 ((repeat(first|((with_reducible first|apply Wp.gs|apply Wp.cs|apply Wp.cselX|apply Wp.askT|apply Wp.iteKT|apply Wp.ikb|apply Wp.askb|apply Wp.step);case h=>((try simp(disch:=omega)only[↓reduceIte,ask_true,↓X0,X1,Nat.reduceEqDiff,Int.reduceEq,Nat.reduceAdd,Nat.reduceSub,X2,Hp_ne,Nat.reduceLeDiff,bld_41]);with_reducible first|done|exact rfl|exact bT|exact bF))|apply Wp.andS|apply Wp.orS|with_reducible apply Wp.gu|simp only[↓X3]|simp(disch:=decide)only[asks_nil,asks_in,asks_out,askB_nil,askB_in,askB_out]|with_reducible apply Wp.assoc));try(with_reducible apply Wp.cargs;case h=>((try simp(disch:=omega)only[↓reduceIte,ask_true,↓X0,X1,Nat.reduceEqDiff,Int.reduceEq,Nat.reduceAdd,Nat.reduceSub,X2,Hp_ne,Nat.reduceLeDiff,bld_41]);with_reducible exact rfl)))
 generalize hG : H3.set (on + 3) _ = G
 have hGs : ∀ i,i ≠ on + 3 → G i = H3 i:=fun i hi => by rw [← hG]; exact Hp_ne _ _ hi
 have hk : ∀ i,i < on + 3 → G i = oH i:=fun i hi => by rw [hGs i (by omega)]; exact s3 i (by omega)
 have hid : At eNode id G u p:=i3.mv (hGs id (by omega))
 have hb : G (n + 1) = some (.row [nilS,nilS,nilS] 0 true):=by rw [hk _ (by omega)]; exact hbo
 have hDC : DC (on + 3) (on + 4) (on + 2) (n3 + 1) G u nilS nilS ⟨0,[],[]⟩:=⟨⟨by rw [← hG]; exact Hp_same _ _ _,At.nil,by omega,by omega,by omega,by simp,⟨Int.le_refl 0,by show (0 : Int) ≤ 3; decide⟩⟩,At.nil,by omega,by omega,by omega⟩
 have hwG : Li eInt n G w l:=hw.mv (Nat.le_refl _) (fun i hi => by rw [hk i (by omega)]; exact hko i hi)
 refine Wp.bind (l110 hp hr hl (b:=n + 1) (w:=w) hDC (hid.lo (by omega) (by omega) (by omega)) (fun i o a k e => by rcases hid with ⟨h,_⟩ | ⟨h,_⟩ <;> rw [h] at e <;> cases e; omega) ⟨hwG.mv (by omega) (fun _ _ => rfl),hwG.off (by omega),hwG.off (by omega)⟩ (hwG.off (by omega)) (by omega) (by omega) (by omega) (by omega) _ _ (Nat.le_refl _) (by simp [put_at,f4]) (by simp [put_at]) (by simp [put_at]) (by simp [put_at,e1]) hb) ?_
 rintro ⟨pe,pt,pH,pn⟩ ⟨f1',f2,f3,f4',f5'⟩
 simp only at f1' f2 f3 f4' f5'
 have hkn : ∀ i,i < n → pH i = H i:=fun i hi => by
  rw [f2 i (by omega) (by omega) (by omega) (by omega) (by omega),hk i (by omega)]; exact hko i hi
 have hD:=cAll_D p l 0 ⟨0,[],[]⟩
 have hSm:=cAll_small hp l 0 ⟨0,[],[]⟩ hr ⟨fun x hx => by simp at hx,fun x hx => by simp at hx⟩
 have hyes:=fun h0 h3 => compAns_y (p:=p) (l:=l) ⟨hp,hr⟩ h0 h3
 have hno:=fun h0 h3 => compAns_n (p:=p) (l:=l) ⟨hp,hr⟩ h0 h3
 have hthree:=fun h0 => compAns_3 (p:=p) (l:=l) ⟨hp,hr⟩ h0
 have herr:=fun h0 h3 => compAns_e (p:=p) (l:=l) ⟨hp,hr⟩ h0 h3
 generalize hQ : cAll p l 0 ⟨0,[],[]⟩ = Q at *
 obtain ⟨S,at_⟩:=Q
 simp only at f5' hD hSm hyes hno hthree herr
 rcases f5' with ⟨rfl,e1',e8,h0,ul,il,ud,idd,j1,j2,hdc⟩ | ⟨rfl,h0,e5,e6⟩
 ·have hc:=hdc.cc.hc
  have hcn:=hdc.cc.cn
  have hil:=hdc.cc.iln
  have hdn:=hdc.dn
  have hpid : At eNode id pH u p:=hid.mv (f2 id (by omega) (by omega) (by omega) (by omega) (by omega))
  have hLl:=hdc.cc.len
  have v1:=vcells1 hdc.cc.al.cell
  have v2:=vcells1 hdc.ad.cell
  ((repeat(first|((with_reducible first|apply Wp.gs|apply Wp.cs|apply Wp.cselX|apply Wp.askT|apply Wp.iteKT|apply Wp.ikb|apply Wp.askb|apply Wp.step);case h=>((try simp(disch:=omega)only[↓reduceIte,ask_true,↓X0,X1,Nat.reduceEqDiff,Int.reduceEq,Nat.reduceAdd,Nat.reduceSub,X2,Hp_ne,Nat.reduceLeDiff,e8,hc,v1,v2]);with_reducible first|done|exact rfl|exact bT|exact bF))|apply Wp.andS|apply Wp.orS|with_reducible apply Wp.gu|simp only[↓X3]|simp(disch:=decide)only[asks_nil,asks_in,asks_out,askB_nil,askB_in,askB_out]|with_reducible apply Wp.assoc));try(with_reducible apply Wp.cargs;case h=>((try simp(disch:=omega)only[↓reduceIte,ask_true,↓X0,X1,Nat.reduceEqDiff,Int.reduceEq,Nat.reduceAdd,Nat.reduceSub,X2,Hp_ne,Nat.reduceLeDiff,e8,hc,v1,v2]);with_reducible exact rfl)))
  refine Wp.rt (k14 ((hpid.lst (n:=pn) (by omega)).mv (by omega) (by intros;first|with_reducible rfl|simp(disch:=omega)only[Hp_ne,Hp_same])) ((hdc.cc.al.lst hil).mv (by omega) (by intros;first|with_reducible rfl|simp(disch:=omega)only[Hp_ne,Hp_same])) ((hdc.ad.lst hdn).mv (by omega) (by intros;first|with_reducible rfl|simp(disch:=omega)only[Hp_ne,Hp_same])) hs hSm.1 hSm.2 hpl (by omega) (by simp at hD; omega)) ?_
  intro H5 n5 q5 s5
  have hb5 : H5 (n + 1) = some (.row [nilS,nilS,nilS] 0 true):=by rw [s5 _ (by omega),Hp_ne _ _ (by omega)]; exact f3
  have hx5 : H5 (pn + 13) = some (.row [u,ul,ud] 0 true):=by rw [s5 _ (by omega)]; exact Hp_same _ _ _
  have hk5 : ∀ i,i < pn → H5 i = pH i:=fun i hi => (s5 i (by omega)).trans (Hp_ne _ _ (by omega))
  by_cases hco : CodeOk p S.L S.D
  ·rw [hyes h0 hco]
   have hst : st true 3 (ptr (n + 1) 0) (.agg ⟨[u,ul,ud]⟩) H5 = some (H5.set (n + 1) (some (.row [u,ul,ud] 0 true))):=by
    rw [st_agg,stv_box hb5]; rfl
   (repeat(first|((with_reducible first|apply Wp.gs|apply Wp.cs|apply Wp.cselX|apply Wp.askT|apply Wp.iteKT|apply Wp.ikb|apply Wp.askb|apply Wp.step);case h=>((try simp(disch:=omega)only[↓reduceIte,ask_true,↓X0,X1,Nat.reduceEqDiff,Int.reduceEq,Nat.reduceAdd,Nat.reduceSub,X2,Hp_ne,Nat.reduceLeDiff,hco,e1',f4',hx5,hst,hwG.len]);with_reducible first|done|exact rfl|exact bT|exact bF))|apply Wp.andS|apply Wp.orS|with_reducible apply Wp.gu|simp only[↓X3]|simp(disch:=decide)only[asks_nil,asks_in,asks_out,askB_nil,askB_in,askB_out]|with_reducible apply Wp.assoc))
   refine Wp.pure ⟨by simp only; omega,(by intros;first|with_reducible rfl|simp(disch:=omega)only[Hp_ne,Hp_same,hk5,hkn]),u,ul,ud,rfl,id,il,idd,?_,?_,?_,by omega,by simp only; omega,?_,by simp only; omega,?_,by simp only; omega,?_,?_,?_⟩
   ·omega
   ·omega
   ·exact Ne.symm hdc.ni
   ·omega
   ·omega
   ·exact hpid.mv ((Hp_ne _ _ (by omega)).trans (hk5 _ (by omega)))
   ·exact hdc.cc.al.mv ((Hp_ne _ _ (by omega)).trans (hk5 _ (by omega)))
   ·exact hdc.ad.mv ((Hp_ne _ _ (by omega)).trans (hk5 _ (by omega)))
  ·rw [hno h0 hco]
   (repeat(first|((with_reducible first|apply Wp.gs|apply Wp.cs|apply Wp.cselX|apply Wp.askT|apply Wp.iteKT|apply Wp.ikb|apply Wp.askb|apply Wp.step);case h=>((try simp(disch:=omega)only[↓reduceIte,ask_true,↓X0,X1,Nat.reduceEqDiff,Int.reduceEq,Nat.reduceAdd,Nat.reduceSub,X2,Hp_ne,Nat.reduceLeDiff,hco,f4',bld_3n,hb5,ldA_r,rowAgg_row]);with_reducible first|done|exact rfl|exact bT|exact bF))|apply Wp.andS|apply Wp.orS|with_reducible apply Wp.gu|simp only[↓X3]|simp(disch:=decide)only[asks_nil,asks_in,asks_out,askB_nil,askB_in,askB_out]|with_reducible apply Wp.assoc))
   exact Wp.pure ⟨by simp only; omega,(by intros;first|with_reducible rfl|simp(disch:=omega)only[Hp_ne,Hp_same,hk5,hkn]),CompRes.none (by simp only; omega) 3 0⟩
 ·simp(disch:=omega)only[↓reduceIte,ask_true,↓X0,X1,Nat.reduceEqDiff,Int.reduceEq,Nat.reduceAdd,Nat.reduceSub,f4',e5,e6,ldA_r,f3,rowAgg_row,List.length_cons,List.length_nil,Nat.reduceLeDiff,List.drop_zero,List.take_succ_cons,List.take_zero]
  by_cases h3 : S.how = 3
  ·rw [hthree h3]
   rw [h3,if_pos rfl]
   exact Wp.pure ⟨by simp only; omega,hkn,CompRes.none (by simp only; omega) 3 0⟩
  ·rw [herr h0 h3,if_neg h3]
   exact Wp.pure ⟨by simp only; omega,hkn,CompRes.none (by simp only; omega) _ _⟩
theorem compAns_len (p : List Nd) (l : List Int) : (compAns p l).p.length ≤ 1048576 ∧ (compAns p l).L.length ≤ 1048576 ∧ (compAns p l).D.length ≤ 1048576:=by
 unfold compAns
 repeat' split
 all_goals first
  | (rename_i h; have h1:=h.1.2; have h2:=h.2.1; have h3:=h.2.2.1; simp only; omega)
  | simp
end Go.Proofs.Ytbgkimkbngocjaa.Ax
set_option linter.unusedVariables false
set_option linter.unusedSimpArgs false
set_option maxHeartbeats 4000000
namespace Go.Proofs.Ytbgkimkbngocjaa.Ax
open Go
theorem k75 {n : Nat} {H : Hp} {v : Value} {m : Nat} {k : Int} (hv : Li eIns n H v (fam (iMark k) m)) (hk : 0 ≤ k ∧ k ≤ 100000000) (hl : m ≤ 10000000) : Rt Try.prog 75 [v,.int .i64 k] H n (.int .i64 (k + 4 * m)):=by
 apply Rt.mk
 rw [c75]; unfold S75
 refine Wp.bind (Loop_rule (fun d t H' n' => ∃ (j : Nat),j + d = m ∧ n + 2 ≤ n' ∧ (∀ i,i < n → H' i = H i) ∧ t 0 = v ∧ t 1 = .int .i64 (k + 4 * j) ∧ t 5 = .int .i64 j) (fun o => n ≤ o.n ∧ (∀ i,i < n → o.H i = H i) ∧ o.e = .exit 0 ∧ o.t 1 = .int .i64 (k + 4 * m)) ?_ m _ H _ ⟨0,by omega,by omega,fun _ _ => rfl,by simp [put_at,argsT_at],by simp [put_at,argsT_at],by simp [put_at]⟩) ?_
 ·rintro d t H' n' ⟨j,hj,hn,s0,e0,e1,e5⟩
  unfold S75L0
  have hlen:=hv.len
  rw [fam_len] at hlen
  by_cases hlt : j < m
  ·have hlti : (j : Int) < m:=by omega
   have hw:=wj (j:=j) (len:=m) hlt (by omega)
   have w1 : IntKind.i64.wrap (k + 4 * (j : Int) + 1) = k + 4 * j + 1:=w64 (by omega)
   have w2 : IntKind.i64.wrap (k + 4 * (j : Int) + 1 + 1) = k + 4 * j + 2:=by rw [w64 (by omega)]; omega
   have w3 : IntKind.i64.wrap (k + 4 * (j : Int) + 2 + 1) = k + 4 * j + 3:=by rw [w64 (by omega)]; omega
   have w4 : IntKind.i64.wrap (k + 4 * (j : Int) + 3 + 1) = k + 4 * ((j + 1 : Nat) : Int):=by rw [w64 (by omega)]; omega
   have g:=(hv.mv (m:=n) (H':=H') (by omega) s0).sAll (i:=(j : Int)) (by omega) (by rw [fam_len]; exact hlti)
   rw [fam_gi _ hlt] at g
   simp only [iMark] at g
   ((repeat(first|((with_reducible first|apply Wp.gs|apply Wp.cs|apply Wp.cselX|apply Wp.askT|apply Wp.iteKT|apply Wp.ikb|apply Wp.askb|apply Wp.step);case h=>((try simp(disch:=omega)only[↓reduceIte,ask_true,↓X0,X1,Nat.reduceEqDiff,Int.reduceEq,Nat.reduceAdd,Nat.reduceSub,e0,e1,e5,hlen,hlti,g,w1,w2,w3]);with_reducible first|done|exact rfl|exact bT|exact bF))|apply Wp.andS|apply Wp.orS|with_reducible apply Wp.gu|simp only[↓X3]|simp(disch:=decide)only[asks_nil,asks_in,asks_out,askB_nil,askB_in,askB_out]|with_reducible apply Wp.assoc));try(with_reducible apply Wp.cargs;case h=>((try simp(disch:=omega)only[↓reduceIte,ask_true,↓X0,X1,Nat.reduceEqDiff,Int.reduceEq,Nat.reduceAdd,Nat.reduceSub,e0,e1,e5,hlen,hlti,g,w1,w2,w3]);with_reducible exact rfl)))
   refine Wp.rt (k106 (k + 4 * j + 3) (by omega) _ _) ?_
   intro H1 n1 q1 s1
   have g:=(hv.mv (m:=n) (H':=H1) (by omega) (by intros;first|with_reducible rfl|simp(disch:=omega)only[Hp_ne,Hp_same,s1,s0])).sAll (i:=(j : Int)) (by omega) (by rw [fam_len]; exact hlti)
   rw [fam_gi _ hlt] at g
   simp only [iMark] at g
   (repeat(first|((with_reducible first|apply Wp.gs|apply Wp.cs|apply Wp.cselX|apply Wp.askT|apply Wp.iteKT|apply Wp.ikb|apply Wp.askb|apply Wp.step);case h=>((try simp(disch:=omega)only[↓reduceIte,ask_true,↓X0,X1,Nat.reduceEqDiff,Int.reduceEq,Nat.reduceAdd,Nat.reduceSub,e0,e1,e5,hlen,hlti,g,w4,hw]);with_reducible first|done|exact rfl|exact bT|exact bF))|apply Wp.andS|apply Wp.orS|with_reducible apply Wp.gu|simp only[↓X3]|simp(disch:=decide)only[asks_nil,asks_in,asks_out,askB_nil,askB_in,askB_out]|with_reducible apply Wp.assoc))
   exact Wp.pure (Nxt.go (d - 1) (by omega) ⟨j + 1,by omega,by omega,(by intros;first|with_reducible rfl|simp(disch:=omega)only[Hp_ne,Hp_same,s1,s0]),by simp [put_at,e0],by simp [put_at],by simp [put_at]⟩)
  ·have hlti : ¬ (j : Int) < m:=by omega
   ((repeat(first|((with_reducible first|apply Wp.gs|apply Wp.cs|apply Wp.cselX|apply Wp.askT|apply Wp.iteKT|apply Wp.ikb|apply Wp.askb|apply Wp.step);case h=>((try simp(disch:=omega)only[↓reduceIte,ask_true,↓X0,X1,Nat.reduceEqDiff,Int.reduceEq,Nat.reduceAdd,Nat.reduceSub,e0,e1,e5,hlen,hlti]);with_reducible first|done|exact rfl|exact bT|exact bF))|apply Wp.andS|apply Wp.orS|with_reducible apply Wp.gu|simp only[↓X3]|simp(disch:=decide)only[asks_nil,asks_in,asks_out,askB_nil,askB_in,askB_out]|with_reducible apply Wp.assoc));try(with_reducible apply Wp.cargs;case h=>((try simp(disch:=omega)only[↓reduceIte,ask_true,↓X0,X1,Nat.reduceEqDiff,Int.reduceEq,Nat.reduceAdd,Nat.reduceSub,e0,e1,e5,hlen,hlti]);with_reducible exact rfl)))
   have hjl : j = m:=by omega
   subst hjl
   exact Wp.pure (Nxt.exit ⟨by simp only; omega,s0,rfl,by simp [put_at,e1]⟩)
 ·rintro ⟨oe,ot,oH,on⟩ ⟨f1,f2,rfl,f4⟩
  simp only at f1 f2 f4
  simp(disch:=omega)only[↓reduceIte,ask_true,↓X0,X1,Nat.reduceEqDiff,Int.reduceEq,Nat.reduceAdd,Nat.reduceSub,f4]
  exact Wp.pure ⟨by simp only; omega,f2,rfl⟩
theorem k76 {n : Nat} {H : Hp} {v : Value} {m : Nat} {k : Int} (hv : Li eDef n H v (fam (dMark k) m)) (hk : 0 ≤ k ∧ k ≤ 100000000) (hl : m ≤ 10000000) : Rt Try.prog 76 [v,.int .i64 k] H n (.int .i64 (k + 3 * m)):=by
 apply Rt.mk
 rw [c76]; unfold S76
 refine Wp.bind (Loop_rule (fun d t H' n' => ∃ (j : Nat),j + d = m ∧ n + 2 ≤ n' ∧ (∀ i,i < n → H' i = H i) ∧ t 0 = v ∧ t 1 = .int .i64 (k + 3 * j) ∧ t 5 = .int .i64 j) (fun o => n ≤ o.n ∧ (∀ i,i < n → o.H i = H i) ∧ o.e = .exit 0 ∧ o.t 1 = .int .i64 (k + 3 * m)) ?_ m _ H _ ⟨0,by omega,by omega,fun _ _ => rfl,by simp [put_at,argsT_at],by simp [put_at,argsT_at],by simp [put_at]⟩) ?_
 ·rintro d t H' n' ⟨j,hj,hn,s0,e0,e1,e5⟩
  unfold S76L0
  have hlen:=hv.len
  rw [fam_len] at hlen
  by_cases hlt : j < m
  ·have hlti : (j : Int) < m:=by omega
   have hw:=wj (j:=j) (len:=m) hlt (by omega)
   have w1 : IntKind.i64.wrap (k + 3 * (j : Int) + 1) = k + 3 * j + 1:=w64 (by omega)
   have w2 : IntKind.i64.wrap (k + 3 * (j : Int) + 1 + 1) = k + 3 * j + 2:=by rw [w64 (by omega)]; omega
   have w3 : IntKind.i64.wrap (k + 3 * (j : Int) + 2 + 1) = k + 3 * ((j + 1 : Nat) : Int):=by rw [w64 (by omega)]; omega
   have g:=(hv.mv (m:=n) (H':=H') (by omega) s0).dAll (i:=(j : Int)) (by omega) (by rw [fam_len]; exact hlti)
   rw [fam_gi _ hlt] at g
   simp only [dMark] at g
   ((repeat(first|((with_reducible first|apply Wp.gs|apply Wp.cs|apply Wp.cselX|apply Wp.askT|apply Wp.iteKT|apply Wp.ikb|apply Wp.askb|apply Wp.step);case h=>((try simp(disch:=omega)only[↓reduceIte,ask_true,↓X0,X1,Nat.reduceEqDiff,Int.reduceEq,Nat.reduceAdd,Nat.reduceSub,e0,e1,e5,hlen,hlti,g]);with_reducible first|done|exact rfl|exact bT|exact bF))|apply Wp.andS|apply Wp.orS|with_reducible apply Wp.gu|simp only[↓X3]|simp(disch:=decide)only[asks_nil,asks_in,asks_out,askB_nil,askB_in,askB_out]|with_reducible apply Wp.assoc));try(with_reducible apply Wp.cargs;case h=>((try simp(disch:=omega)only[↓reduceIte,ask_true,↓X0,X1,Nat.reduceEqDiff,Int.reduceEq,Nat.reduceAdd,Nat.reduceSub,e0,e1,e5,hlen,hlti,g]);with_reducible exact rfl)))
   refine Wp.rt (k106 (k + 3 * j) (by omega) _ _) ?_
   intro H1 n1 q1 s1
   have g:=(hv.mv (m:=n) (H':=H1) (by omega) (by intros;first|with_reducible rfl|simp(disch:=omega)only[Hp_ne,Hp_same,s1,s0])).dAll (i:=(j : Int)) (by omega) (by rw [fam_len]; exact hlti)
   rw [fam_gi _ hlt] at g
   simp only [dMark] at g
   (repeat(first|((with_reducible first|apply Wp.gs|apply Wp.cs|apply Wp.cselX|apply Wp.askT|apply Wp.iteKT|apply Wp.ikb|apply Wp.askb|apply Wp.step);case h=>((try simp(disch:=omega)only[↓reduceIte,ask_true,↓X0,X1,Nat.reduceEqDiff,Int.reduceEq,Nat.reduceAdd,Nat.reduceSub,e0,e1,e5,hlen,hlti,g,w1,w2,w3,hw]);with_reducible first|done|exact rfl|exact bT|exact bF))|apply Wp.andS|apply Wp.orS|with_reducible apply Wp.gu|simp only[↓X3]|simp(disch:=decide)only[asks_nil,asks_in,asks_out,askB_nil,askB_in,askB_out]|with_reducible apply Wp.assoc))
   exact Wp.pure (Nxt.go (d - 1) (by omega) ⟨j + 1,by omega,by omega,(by intros;first|with_reducible rfl|simp(disch:=omega)only[Hp_ne,Hp_same,s1,s0]),by simp [put_at,e0],by simp [put_at],by simp [put_at]⟩)
  ·have hlti : ¬ (j : Int) < m:=by omega
   ((repeat(first|((with_reducible first|apply Wp.gs|apply Wp.cs|apply Wp.cselX|apply Wp.askT|apply Wp.iteKT|apply Wp.ikb|apply Wp.askb|apply Wp.step);case h=>((try simp(disch:=omega)only[↓reduceIte,ask_true,↓X0,X1,Nat.reduceEqDiff,Int.reduceEq,Nat.reduceAdd,Nat.reduceSub,e0,e1,e5,hlen,hlti]);with_reducible first|done|exact rfl|exact bT|exact bF))|apply Wp.andS|apply Wp.orS|with_reducible apply Wp.gu|simp only[↓X3]|simp(disch:=decide)only[asks_nil,asks_in,asks_out,askB_nil,askB_in,askB_out]|with_reducible apply Wp.assoc));try(with_reducible apply Wp.cargs;case h=>((try simp(disch:=omega)only[↓reduceIte,ask_true,↓X0,X1,Nat.reduceEqDiff,Int.reduceEq,Nat.reduceAdd,Nat.reduceSub,e0,e1,e5,hlen,hlti]);with_reducible exact rfl)))
   have hjl : j = m:=by omega
   subst hjl
   exact Wp.pure (Nxt.exit ⟨by simp only; omega,s0,rfl,by simp [put_at,e1]⟩)
 ·rintro ⟨oe,ot,oH,on⟩ ⟨f1,f2,rfl,f4⟩
  simp only at f1 f2 f4
  simp(disch:=omega)only[↓reduceIte,ask_true,↓X0,X1,Nat.reduceEqDiff,Int.reduceEq,Nat.reduceAdd,Nat.reduceSub,f4]
  exact Wp.pure ⟨by simp only; omega,f2,rfl⟩
theorem k32 {n : Nat} {H : Hp} {v vl vd : Value} {m mi md : Nat} {k : Int} (hv : Li eNode n H v (fam (nMark k) m)) (hvl : Li eIns n H vl (fam (iMark (k + 5 * m)) mi)) (hvd : Li eDef n H vd (fam (dMark (k + 5 * m + 4 * mi)) md)) (hk : 0 ≤ k ∧ k ≤ 10000000) (hl : m ≤ 1048576) (hli : mi ≤ 1048576) (hld : md ≤ 1048576) : Rt Try.prog 32 [.agg ⟨[v,vl,vd]⟩,.int .i64 k] H n (.int .i64 (k + 5 * m + 4 * mi + 3 * md)):=by
 apply Rt.mk
 rw [c32]; unfold S32
 ((repeat(first|((with_reducible first|apply Wp.gs|apply Wp.cs|apply Wp.cselX|apply Wp.askT|apply Wp.iteKT|apply Wp.ikb|apply Wp.askb|apply Wp.step);case h=>((try simp(disch:=omega)only[↓reduceIte,ask_true,↓X0,X1,Nat.reduceEqDiff,Int.reduceEq,Nat.reduceAdd,Nat.reduceSub,X2,Hp_ne,Nat.reduceLeDiff]);with_reducible first|done|exact rfl|exact bT|exact bF))|apply Wp.andS|apply Wp.orS|with_reducible apply Wp.gu|simp only[↓X3]|simp(disch:=decide)only[asks_nil,asks_in,asks_out,askB_nil,askB_in,askB_out]|with_reducible apply Wp.assoc));try(with_reducible apply Wp.cargs;case h=>((try simp(disch:=omega)only[↓reduceIte,ask_true,↓X0,X1,Nat.reduceEqDiff,Int.reduceEq,Nat.reduceAdd,Nat.reduceSub,X2,Hp_ne,Nat.reduceLeDiff]);with_reducible exact rfl)))
 refine Wp.rt (k74 (hv.mv (by omega) (by intros;first|with_reducible rfl|simp(disch:=omega)only[Hp_ne,Hp_same])) (by omega) (by omega)) ?_
 intro H1 n1 q1 s1
 ((repeat(first|((with_reducible first|apply Wp.gs|apply Wp.cs|apply Wp.cselX|apply Wp.askT|apply Wp.iteKT|apply Wp.ikb|apply Wp.askb|apply Wp.step);case h=>((try simp(disch:=omega)only[↓reduceIte,ask_true,↓X0,X1,Nat.reduceEqDiff,Int.reduceEq,Nat.reduceAdd,Nat.reduceSub,X2,Hp_ne,Nat.reduceLeDiff,s1,show ¬ k + 5 * (m : Int) < 0 by omega]);with_reducible first|done|exact rfl|exact bT|exact bF))|apply Wp.andS|apply Wp.orS|with_reducible apply Wp.gu|simp only[↓X3]|simp(disch:=decide)only[asks_nil,asks_in,asks_out,askB_nil,askB_in,askB_out]|with_reducible apply Wp.assoc));try(with_reducible apply Wp.cargs;case h=>((try simp(disch:=omega)only[↓reduceIte,ask_true,↓X0,X1,Nat.reduceEqDiff,Int.reduceEq,Nat.reduceAdd,Nat.reduceSub,X2,Hp_ne,Nat.reduceLeDiff,s1,show ¬ k + 5 * (m : Int) < 0 by omega]);with_reducible exact rfl)))
 refine Wp.rt (k75 (hvl.mv (by omega) (by intros;first|with_reducible rfl|simp(disch:=omega)only[Hp_ne,Hp_same,s1])) (by omega) (by omega)) ?_
 intro H2 n2 q2 s2
 ((repeat(first|((with_reducible first|apply Wp.gs|apply Wp.cs|apply Wp.cselX|apply Wp.askT|apply Wp.iteKT|apply Wp.ikb|apply Wp.askb|apply Wp.step);case h=>((try simp(disch:=omega)only[↓reduceIte,ask_true,↓X0,X1,Nat.reduceEqDiff,Int.reduceEq,Nat.reduceAdd,Nat.reduceSub,X2,Hp_ne,Nat.reduceLeDiff,s2,s1,show ¬ k + 5 * (m : Int) + 4 * (mi : Int) < 0 by omega]);with_reducible first|done|exact rfl|exact bT|exact bF))|apply Wp.andS|apply Wp.orS|with_reducible apply Wp.gu|simp only[↓X3]|simp(disch:=decide)only[asks_nil,asks_in,asks_out,askB_nil,askB_in,askB_out]|with_reducible apply Wp.assoc));try(with_reducible apply Wp.cargs;case h=>((try simp(disch:=omega)only[↓reduceIte,ask_true,↓X0,X1,Nat.reduceEqDiff,Int.reduceEq,Nat.reduceAdd,Nat.reduceSub,X2,Hp_ne,Nat.reduceLeDiff,s2,s1,show ¬ k + 5 * (m : Int) + 4 * (mi : Int) < 0 by omega]);with_reducible exact rfl)))
 refine Wp.rt (k76 (hvd.mv (by omega) (by intros;first|with_reducible rfl|simp(disch:=omega)only[Hp_ne,Hp_same,s2,s1])) (by omega) (by omega)) ?_
 intro H3 n3 q3 s3
 (repeat(first|((with_reducible first|apply Wp.gs|apply Wp.cs|apply Wp.cselX|apply Wp.askT|apply Wp.iteKT|apply Wp.ikb|apply Wp.askb|apply Wp.step);case h=>((try simp(disch:=omega)only[↓reduceIte,ask_true,↓X0,X1,Nat.reduceEqDiff,Int.reduceEq,Nat.reduceAdd,Nat.reduceSub,show ¬ k + 5 * (m : Int) + 4 * (mi : Int) + 3 * (md : Int) < 0 by omega]);with_reducible first|done|exact rfl|exact bT|exact bF))|apply Wp.andS|apply Wp.orS|with_reducible apply Wp.gu|simp only[↓X3]|simp(disch:=decide)only[asks_nil,asks_in,asks_out,askB_nil,askB_in,askB_out]|with_reducible apply Wp.assoc))
 exact Wp.pure ⟨by simp only; omega,(by intros;first|with_reducible rfl|simp(disch:=omega)only[Hp_ne,Hp_same,s3,s2,s1]),rfl⟩
end Go.Proofs.Ytbgkimkbngocjaa.Ax
set_option linter.unusedVariables false
set_option linter.unusedSimpArgs false
set_option maxHeartbeats 8000000
namespace Go.Proofs.Ytbgkimkbngocjaa.Ax
open Go
theorem law6 {v0 : Value} {l0 : List Nd} {v1 : Value} {l1 : List Int} {H : Hp} {n : Nat} (hv0 : Li eNode n H v0 l0) (hs0 : ∀ x ∈ l0,x.s.size ≤ 9223372036854775807) (hl0 : l0.length ≤ 9223372036854775807) (hv1 : Li eInt n H v1 l1) (hi1 : ∀ c ∈ l1,-9223372036854775808 ≤ c ∧ c ≤ 9223372036854775807) : ∃ H' n',Call Try.prog 6 [.agg ⟨[v0]⟩,v1] H n = some (.bool true,H',n'):=by
 rw [c6]; unfold S6
 apply Wp.val
 by_cases hL1 : (1048576 : Int) < l1.length
 ·(repeat(first|((with_reducible first|apply Wp.gs|apply Wp.cs|apply Wp.cselX|apply Wp.askT|apply Wp.iteKT|apply Wp.ikb|apply Wp.askb|apply Wp.step);case h=>((try simp(disch:=omega)only[↓reduceIte,ask_true,↓X0,X1,Nat.reduceEqDiff,Int.reduceEq,Nat.reduceAdd,Nat.reduceSub,X2,Hp_ne,Nat.reduceLeDiff,eq_self.{1},Nd.cells,and_self,hL1,hv1.len]);with_reducible first|done|exact rfl|exact bT|exact bF))|apply Wp.andS|apply Wp.orS|with_reducible apply Wp.gu|simp only[↓X3]|simp(disch:=decide)only[asks_nil,asks_in,asks_out,askB_nil,askB_in,askB_out]|with_reducible apply Wp.assoc))
  exact Wp.pure rfl
 have hL1' : l1.length ≤ 1048576:=by omega
 ((repeat(first|((with_reducible first|apply Wp.gs|apply Wp.cs|apply Wp.cselX|apply Wp.askT|apply Wp.iteKT|apply Wp.ikb|apply Wp.askb|apply Wp.step);case h=>((try simp(disch:=omega)only[↓reduceIte,ask_true,↓X0,X1,Nat.reduceEqDiff,Int.reduceEq,Nat.reduceAdd,Nat.reduceSub,X2,Hp_ne,Nat.reduceLeDiff,eq_self.{1},Nd.cells,and_self,hL1,hv1.len]);with_reducible first|done|exact rfl|exact bT|exact bF))|apply Wp.andS|apply Wp.orS|with_reducible apply Wp.gu|simp only[↓X3]|simp(disch:=decide)only[asks_nil,asks_in,asks_out,askB_nil,askB_in,askB_out]|with_reducible apply Wp.assoc));try(with_reducible apply Wp.cargs;case h=>((try simp(disch:=omega)only[↓reduceIte,ask_true,↓X0,X1,Nat.reduceEqDiff,Int.reduceEq,Nat.reduceAdd,Nat.reduceSub,X2,Hp_ne,Nat.reduceLeDiff,eq_self.{1},Nd.cells,and_self,hL1,hv1.len]);with_reducible exact rfl)))
 refine Wp.rte (k23 (hv0.mv (by omega) (by intros;first|with_reducible rfl|simp(disch:=omega)only[Hp_ne,Hp_same])) hs0 hl0 1048576 (by decide)) ?_
 intro r1 hr1 H1 n1 q1 s1
 by_cases hneg1 : r1 < 0
 ·(repeat(first|((with_reducible first|apply Wp.gs|apply Wp.cs|apply Wp.cselX|apply Wp.askT|apply Wp.iteKT|apply Wp.ikb|apply Wp.askb|apply Wp.step);case h=>((try simp(disch:=omega)only[↓reduceIte,ask_true,↓X0,X1,Nat.reduceEqDiff,Int.reduceEq,Nat.reduceAdd,Nat.reduceSub,X2,Hp_ne,Nat.reduceLeDiff,eq_self.{1},Nd.cells,and_self,hL1,hv1.len,hneg1,s1]);with_reducible first|done|exact rfl|exact bT|exact bF))|apply Wp.andS|apply Wp.orS|with_reducible apply Wp.gu|simp only[↓X3]|simp(disch:=decide)only[asks_nil,asks_in,asks_out,askB_nil,askB_in,askB_out]|with_reducible apply Wp.assoc))
  exact Wp.pure rfl
 have hrr1:=hr1.2.1
 obtain ⟨hl01,hs01⟩:=hr1.2.2 (by omega)
 have hn0 : l0.length ≤ 1048576:=by omega
 have hz0 : ∀ x ∈ l0,x.s.size ≤ 1048576:=fun x hx => by have:=hs01 x hx; omega
 ((repeat(first|((with_reducible first|apply Wp.gs|apply Wp.cs|apply Wp.cselX|apply Wp.askT|apply Wp.iteKT|apply Wp.ikb|apply Wp.askb|apply Wp.step);case h=>((try simp(disch:=omega)only[↓reduceIte,ask_true,↓X0,X1,Nat.reduceEqDiff,Int.reduceEq,Nat.reduceAdd,Nat.reduceSub,X2,Hp_ne,Nat.reduceLeDiff,eq_self.{1},Nd.cells,and_self,hL1,hv1.len,hneg1,s1]);with_reducible first|done|exact rfl|exact bT|exact bF))|apply Wp.andS|apply Wp.orS|with_reducible apply Wp.gu|simp only[↓X3]|simp(disch:=decide)only[asks_nil,asks_in,asks_out,askB_nil,askB_in,askB_out]|with_reducible apply Wp.assoc));try(with_reducible apply Wp.cargs;case h=>((try simp(disch:=omega)only[↓reduceIte,ask_true,↓X0,X1,Nat.reduceEqDiff,Int.reduceEq,Nat.reduceAdd,Nat.reduceSub,X2,Hp_ne,Nat.reduceLeDiff,eq_self.{1},Nd.cells,and_self,hL1,hv1.len,hneg1,s1]);with_reducible exact rfl)))
 refine Wp.rtn (k24 (hv0.mv (by omega) (by intros;first|with_reducible rfl|simp(disch:=omega)only[Hp_ne,Hp_same,s1])) (by omega)) ?_
 rintro _ H2 n2 q2 s2 ⟨u2,rfl,i2,a2,b2,o2⟩
 ((repeat(first|((with_reducible first|apply Wp.gs|apply Wp.cs|apply Wp.cselX|apply Wp.askT|apply Wp.iteKT|apply Wp.ikb|apply Wp.askb|apply Wp.step);case h=>((try simp(disch:=omega)only[↓reduceIte,ask_true,↓X0,X1,Nat.reduceEqDiff,Int.reduceEq,Nat.reduceAdd,Nat.reduceSub,X2,Hp_ne,Nat.reduceLeDiff,eq_self.{1},Nd.cells,and_self,hL1,hv1.len,hneg1,s1,s2]);with_reducible first|done|exact rfl|exact bT|exact bF))|apply Wp.andS|apply Wp.orS|with_reducible apply Wp.gu|simp only[↓X3]|simp(disch:=decide)only[asks_nil,asks_in,asks_out,askB_nil,askB_in,askB_out]|with_reducible apply Wp.assoc));try(with_reducible apply Wp.cargs;case h=>((try simp(disch:=omega)only[↓reduceIte,ask_true,↓X0,X1,Nat.reduceEqDiff,Int.reduceEq,Nat.reduceAdd,Nat.reduceSub,X2,Hp_ne,Nat.reduceLeDiff,eq_self.{1},Nd.cells,and_self,hL1,hv1.len,hneg1,s1,s2]);with_reducible exact rfl)))
 refine Wp.rtn (k25 (hv1.mv (by omega) (by intros;first|with_reducible rfl|simp(disch:=omega)only[Hp_ne,Hp_same,s1,s2])) (by omega)) ?_
 rintro u3 H3 n3 q3 s3 ⟨i3,a3,b3,o3⟩
 ((repeat(first|((with_reducible first|apply Wp.gs|apply Wp.cs|apply Wp.cselX|apply Wp.askT|apply Wp.iteKT|apply Wp.ikb|apply Wp.askb|apply Wp.step);case h=>((try simp(disch:=omega)only[↓reduceIte,ask_true,↓X0,X1,Nat.reduceEqDiff,Int.reduceEq,Nat.reduceAdd,Nat.reduceSub,X2,Hp_ne,Nat.reduceLeDiff,eq_self.{1},Nd.cells,and_self,hL1,hv1.len,hneg1,s1,s2,s3]);with_reducible first|done|exact rfl|exact bT|exact bF))|apply Wp.andS|apply Wp.orS|with_reducible apply Wp.gu|simp only[↓X3]|simp(disch:=decide)only[asks_nil,asks_in,asks_out,askB_nil,askB_in,askB_out]|with_reducible apply Wp.assoc));try(with_reducible apply Wp.cargs;case h=>((try simp(disch:=omega)only[↓reduceIte,ask_true,↓X0,X1,Nat.reduceEqDiff,Int.reduceEq,Nat.reduceAdd,Nat.reduceSub,X2,Hp_ne,Nat.reduceLeDiff,eq_self.{1},Nd.cells,and_self,hL1,hv1.len,hneg1,s1,s2,s3]);with_reducible exact rfl)))
 refine Wp.rtn (k10 ((o2.mv (by intros;first|with_reducible rfl|simp(disch:=omega)only[Hp_ne,Hp_same,s1,s2,s3])).lst (by omega)) hz0 hn0 ((o3.mv (by intros;first|with_reducible rfl|simp(disch:=omega)only[Hp_ne,Hp_same,s1,s2,s3])).lst (by omega)) hL1') ?_
 rintro _ H4 n4 q4 s4 ⟨u4,u4l,u4d,rfl,i4,i4l,i4d,d4x,d4y,d4z,a4,b4,a4l,b4l,a4d,b4d,o4,o4l,o4d⟩
 ((repeat(first|((with_reducible first|apply Wp.gs|apply Wp.cs|apply Wp.cselX|apply Wp.askT|apply Wp.iteKT|apply Wp.ikb|apply Wp.askb|apply Wp.step);case h=>((try simp(disch:=omega)only[↓reduceIte,ask_true,↓X0,X1,Nat.reduceEqDiff,Int.reduceEq,Nat.reduceAdd,Nat.reduceSub,X2,Hp_ne,Nat.reduceLeDiff,eq_self.{1},Nd.cells,and_self,hL1,hv1.len,hneg1,s1,s2,s3,s4]);with_reducible first|done|exact rfl|exact bT|exact bF))|apply Wp.andS|apply Wp.orS|with_reducible apply Wp.gu|simp only[↓X3]|simp(disch:=decide)only[asks_nil,asks_in,asks_out,askB_nil,askB_in,askB_out]|with_reducible apply Wp.assoc));try(with_reducible apply Wp.cargs;case h=>((try simp(disch:=omega)only[↓reduceIte,ask_true,↓X0,X1,Nat.reduceEqDiff,Int.reduceEq,Nat.reduceAdd,Nat.reduceSub,X2,Hp_ne,Nat.reduceLeDiff,eq_self.{1},Nd.cells,and_self,hL1,hv1.len,hneg1,s1,s2,s3,s4]);with_reducible exact rfl)))
 obtain ⟨hnR,hnRl,hnRd⟩:=compAns_len l0 l1
 refine Wp.rtn (k24 (hv0.mv (by omega) (by intros;first|with_reducible rfl|simp(disch:=omega)only[Hp_ne,Hp_same,s1,s2,s3,s4])) (by omega)) ?_
 rintro _ H5 n5 q5 s5 ⟨u5,rfl,i5,a5,b5,o5⟩
 ((repeat(first|((with_reducible first|apply Wp.gs|apply Wp.cs|apply Wp.cselX|apply Wp.askT|apply Wp.iteKT|apply Wp.ikb|apply Wp.askb|apply Wp.step);case h=>((try simp(disch:=omega)only[↓reduceIte,ask_true,↓X0,X1,Nat.reduceEqDiff,Int.reduceEq,Nat.reduceAdd,Nat.reduceSub,X2,Hp_ne,Nat.reduceLeDiff,eq_self.{1},Nd.cells,and_self,hL1,hv1.len,hneg1,s1,s2,s3,s4,s5]);with_reducible first|done|exact rfl|exact bT|exact bF))|apply Wp.andS|apply Wp.orS|with_reducible apply Wp.gu|simp only[↓X3]|simp(disch:=decide)only[asks_nil,asks_in,asks_out,askB_nil,askB_in,askB_out]|with_reducible apply Wp.assoc));try(with_reducible apply Wp.cargs;case h=>((try simp(disch:=omega)only[↓reduceIte,ask_true,↓X0,X1,Nat.reduceEqDiff,Int.reduceEq,Nat.reduceAdd,Nat.reduceSub,X2,Hp_ne,Nat.reduceLeDiff,eq_self.{1},Nd.cells,and_self,hL1,hv1.len,hneg1,s1,s2,s3,s4,s5]);with_reducible exact rfl)))
 refine Wp.rtn (k25 (hv1.mv (by omega) (by intros;first|with_reducible rfl|simp(disch:=omega)only[Hp_ne,Hp_same,s1,s2,s3,s4,s5])) (by omega)) ?_
 rintro u6 H6 n6 q6 s6 ⟨i6,a6,b6,o6⟩
 ((repeat(first|((with_reducible first|apply Wp.gs|apply Wp.cs|apply Wp.cselX|apply Wp.askT|apply Wp.iteKT|apply Wp.ikb|apply Wp.askb|apply Wp.step);case h=>((try simp(disch:=omega)only[↓reduceIte,ask_true,↓X0,X1,Nat.reduceEqDiff,Int.reduceEq,Nat.reduceAdd,Nat.reduceSub,X2,Hp_ne,Nat.reduceLeDiff,eq_self.{1},Nd.cells,and_self,hL1,hv1.len,hneg1,s1,s2,s3,s4,s5,s6]);with_reducible first|done|exact rfl|exact bT|exact bF))|apply Wp.andS|apply Wp.orS|with_reducible apply Wp.gu|simp only[↓X3]|simp(disch:=decide)only[asks_nil,asks_in,asks_out,askB_nil,askB_in,askB_out]|with_reducible apply Wp.assoc));try(with_reducible apply Wp.cargs;case h=>((try simp(disch:=omega)only[↓reduceIte,ask_true,↓X0,X1,Nat.reduceEqDiff,Int.reduceEq,Nat.reduceAdd,Nat.reduceSub,X2,Hp_ne,Nat.reduceLeDiff,eq_self.{1},Nd.cells,and_self,hL1,hv1.len,hneg1,s1,s2,s3,s4,s5,s6]);with_reducible exact rfl)))
 refine Wp.rtn (k9 ((o5.mv (by intros;first|with_reducible rfl|simp(disch:=omega)only[Hp_ne,Hp_same,s1,s2,s3,s4,s5,s6])).lst (by omega)) hz0 hn0 ((o6.mv (by intros;first|with_reducible rfl|simp(disch:=omega)only[Hp_ne,Hp_same,s1,s2,s3,s4,s5,s6])).lst (by omega)) hL1') ?_
 rintro _ H7 n7 q7 s7 ⟨u7,u7l,u7d,rfl,i7,i7l,i7d,d7x,d7y,d7z,a7,b7,a7l,b7l,a7d,b7d,o7,o7l,o7d⟩
 ((repeat(first|((with_reducible first|apply Wp.gs|apply Wp.cs|apply Wp.cselX|apply Wp.askT|apply Wp.iteKT|apply Wp.ikb|apply Wp.askb|apply Wp.step);case h=>((try simp(disch:=omega)only[↓reduceIte,ask_true,↓X0,X1,Nat.reduceEqDiff,Int.reduceEq,Nat.reduceAdd,Nat.reduceSub,X2,Hp_ne,Nat.reduceLeDiff,eq_self.{1},Nd.cells,and_self,hL1,hv1.len,hneg1,s1,s2,s3,s4,s5,s6,s7]);with_reducible first|done|exact rfl|exact bT|exact bF))|apply Wp.andS|apply Wp.orS|with_reducible apply Wp.gu|simp only[↓X3]|simp(disch:=decide)only[asks_nil,asks_in,asks_out,askB_nil,askB_in,askB_out]|with_reducible apply Wp.assoc));try(with_reducible apply Wp.cargs;case h=>((try simp(disch:=omega)only[↓reduceIte,ask_true,↓X0,X1,Nat.reduceEqDiff,Int.reduceEq,Nat.reduceAdd,Nat.reduceSub,X2,Hp_ne,Nat.reduceLeDiff,eq_self.{1},Nd.cells,and_self,hL1,hv1.len,hneg1,s1,s2,s3,s4,s5,s6,s7]);with_reducible exact rfl)))
 refine Wp.rt (k26 ((o7.mv (by intros;first|with_reducible rfl|simp(disch:=omega)only[Hp_ne,Hp_same,s1,s2,s3,s4,s5,s6,s7])).lst (by omega)) ((o7l.mv (by intros;first|with_reducible rfl|simp(disch:=omega)only[Hp_ne,Hp_same,s1,s2,s3,s4,s5,s6,s7])).lst (by omega)) ((o7d.mv (by intros;first|with_reducible rfl|simp(disch:=omega)only[Hp_ne,Hp_same,s1,s2,s3,s4,s5,s6,s7])).lst (by omega)) ((o4.mv (by intros;first|with_reducible rfl|simp(disch:=omega)only[Hp_ne,Hp_same,s1,s2,s3,s4,s5,s6,s7])).lst (by omega)) ((o4l.mv (by intros;first|with_reducible rfl|simp(disch:=omega)only[Hp_ne,Hp_same,s1,s2,s3,s4,s5,s6,s7])).lst (by omega)) ((o4d.mv (by intros;first|with_reducible rfl|simp(disch:=omega)only[Hp_ne,Hp_same,s1,s2,s3,s4,s5,s6,s7])).lst (by omega)) (by omega)) ?_
 intro H8 n8 q8 s8
 ((repeat(first|((with_reducible first|apply Wp.gs|apply Wp.cs|apply Wp.cselX|apply Wp.askT|apply Wp.iteKT|apply Wp.ikb|apply Wp.askb|apply Wp.step);case h=>((try simp(disch:=omega)only[↓reduceIte,ask_true,↓X0,X1,Nat.reduceEqDiff,Int.reduceEq,Nat.reduceAdd,Nat.reduceSub,X2,Hp_ne,Nat.reduceLeDiff,eq_self.{1},Nd.cells,and_self,hL1,hv1.len,hneg1,s1,s2,s3,s4,s5,s6,s7,s8]);with_reducible first|done|exact rfl|exact bT|exact bF))|apply Wp.andS|apply Wp.orS|with_reducible apply Wp.gu|simp only[↓X3]|simp(disch:=decide)only[asks_nil,asks_in,asks_out,askB_nil,askB_in,askB_out]|with_reducible apply Wp.assoc));try(with_reducible apply Wp.cargs;case h=>((try simp(disch:=omega)only[↓reduceIte,ask_true,↓X0,X1,Nat.reduceEqDiff,Int.reduceEq,Nat.reduceAdd,Nat.reduceSub,X2,Hp_ne,Nat.reduceLeDiff,eq_self.{1},Nd.cells,and_self,hL1,hv1.len,hneg1,s1,s2,s3,s4,s5,s6,s7,s8]);with_reducible exact rfl)))
 refine Wp.rtn (k24 (hv0.mv (by omega) (by intros;first|with_reducible rfl|simp(disch:=omega)only[Hp_ne,Hp_same,s1,s2,s3,s4,s5,s6,s7,s8])) (by omega)) ?_
 rintro _ H9 n9 q9 s9 ⟨u9,rfl,i9,a9,b9,o9⟩
 ((repeat(first|((with_reducible first|apply Wp.gs|apply Wp.cs|apply Wp.cselX|apply Wp.askT|apply Wp.iteKT|apply Wp.ikb|apply Wp.askb|apply Wp.step);case h=>((try simp(disch:=omega)only[↓reduceIte,ask_true,↓X0,X1,Nat.reduceEqDiff,Int.reduceEq,Nat.reduceAdd,Nat.reduceSub,X2,Hp_ne,Nat.reduceLeDiff,eq_self.{1},Nd.cells,and_self,hL1,hv1.len,hneg1,s1,s2,s3,s4,s5,s6,s7,s8,s9]);with_reducible first|done|exact rfl|exact bT|exact bF))|apply Wp.andS|apply Wp.orS|with_reducible apply Wp.gu|simp only[↓X3]|simp(disch:=decide)only[asks_nil,asks_in,asks_out,askB_nil,askB_in,askB_out]|with_reducible apply Wp.assoc));try(with_reducible apply Wp.cargs;case h=>((try simp(disch:=omega)only[↓reduceIte,ask_true,↓X0,X1,Nat.reduceEqDiff,Int.reduceEq,Nat.reduceAdd,Nat.reduceSub,X2,Hp_ne,Nat.reduceLeDiff,eq_self.{1},Nd.cells,and_self,hL1,hv1.len,hneg1,s1,s2,s3,s4,s5,s6,s7,s8,s9]);with_reducible exact rfl)))
 refine Wp.rt (k27 ((o5.mv (by intros;first|with_reducible rfl|simp(disch:=omega)only[Hp_ne,Hp_same,s1,s2,s3,s4,s5,s6,s7,s8,s9])).lst (by omega)) ((o9.mv (by intros;first|with_reducible rfl|simp(disch:=omega)only[Hp_ne,Hp_same,s1,s2,s3,s4,s5,s6,s7,s8,s9])).lst (by omega)) (by omega)) ?_
 intro H10 n10 q10 s10
 ((repeat(first|((with_reducible first|apply Wp.gs|apply Wp.cs|apply Wp.cselX|apply Wp.askT|apply Wp.iteKT|apply Wp.ikb|apply Wp.askb|apply Wp.step);case h=>((try simp(disch:=omega)only[↓reduceIte,ask_true,↓X0,X1,Nat.reduceEqDiff,Int.reduceEq,Nat.reduceAdd,Nat.reduceSub,X2,Hp_ne,Nat.reduceLeDiff,eq_self.{1},Nd.cells,and_self,hL1,hv1.len,hneg1,s1,s2,s3,s4,s5,s6,s7,s8,s9,s10]);with_reducible first|done|exact rfl|exact bT|exact bF))|apply Wp.andS|apply Wp.orS|with_reducible apply Wp.gu|simp only[↓X3]|simp(disch:=decide)only[asks_nil,asks_in,asks_out,askB_nil,askB_in,askB_out]|with_reducible apply Wp.assoc));try(with_reducible apply Wp.cargs;case h=>((try simp(disch:=omega)only[↓reduceIte,ask_true,↓X0,X1,Nat.reduceEqDiff,Int.reduceEq,Nat.reduceAdd,Nat.reduceSub,X2,Hp_ne,Nat.reduceLeDiff,eq_self.{1},Nd.cells,and_self,hL1,hv1.len,hneg1,s1,s2,s3,s4,s5,s6,s7,s8,s9,s10]);with_reducible exact rfl)))
 refine Wp.rtn (k25 (hv1.mv (by omega) (by intros;first|with_reducible rfl|simp(disch:=omega)only[Hp_ne,Hp_same,s1,s2,s3,s4,s5,s6,s7,s8,s9,s10])) (by omega)) ?_
 rintro u11 H11 n11 q11 s11 ⟨i11,a11,b11,o11⟩
 ((repeat(first|((with_reducible first|apply Wp.gs|apply Wp.cs|apply Wp.cselX|apply Wp.askT|apply Wp.iteKT|apply Wp.ikb|apply Wp.askb|apply Wp.step);case h=>((try simp(disch:=omega)only[↓reduceIte,ask_true,↓X0,X1,Nat.reduceEqDiff,Int.reduceEq,Nat.reduceAdd,Nat.reduceSub,X2,Hp_ne,Nat.reduceLeDiff,eq_self.{1},Nd.cells,and_self,hL1,hv1.len,hneg1,s1,s2,s3,s4,s5,s6,s7,s8,s9,s10,s11]);with_reducible first|done|exact rfl|exact bT|exact bF))|apply Wp.andS|apply Wp.orS|with_reducible apply Wp.gu|simp only[↓X3]|simp(disch:=decide)only[asks_nil,asks_in,asks_out,askB_nil,askB_in,askB_out]|with_reducible apply Wp.assoc));try(with_reducible apply Wp.cargs;case h=>((try simp(disch:=omega)only[↓reduceIte,ask_true,↓X0,X1,Nat.reduceEqDiff,Int.reduceEq,Nat.reduceAdd,Nat.reduceSub,X2,Hp_ne,Nat.reduceLeDiff,eq_self.{1},Nd.cells,and_self,hL1,hv1.len,hneg1,s1,s2,s3,s4,s5,s6,s7,s8,s9,s10,s11]);with_reducible exact rfl)))
 refine Wp.rt (k28 ((o6.mv (by intros;first|with_reducible rfl|simp(disch:=omega)only[Hp_ne,Hp_same,s1,s2,s3,s4,s5,s6,s7,s8,s9,s10,s11])).lst (by omega)) ((o11.mv (by intros;first|with_reducible rfl|simp(disch:=omega)only[Hp_ne,Hp_same,s1,s2,s3,s4,s5,s6,s7,s8,s9,s10,s11])).lst (by omega)) (by omega)) ?_
 intro H12 n12 q12 s12
 ((repeat(first|((with_reducible first|apply Wp.gs|apply Wp.cs|apply Wp.cselX|apply Wp.askT|apply Wp.iteKT|apply Wp.ikb|apply Wp.askb|apply Wp.step);case h=>((try simp(disch:=omega)only[↓reduceIte,ask_true,↓X0,X1,Nat.reduceEqDiff,Int.reduceEq,Nat.reduceAdd,Nat.reduceSub,X2,Hp_ne,Nat.reduceLeDiff,eq_self.{1},Nd.cells,and_self,hL1,hv1.len,hneg1,s1,s2,s3,s4,s5,s6,s7,s8,s9,s10,s11,s12]);with_reducible first|done|exact rfl|exact bT|exact bF))|apply Wp.andS|apply Wp.orS|with_reducible apply Wp.gu|simp only[↓X3]|simp(disch:=decide)only[asks_nil,asks_in,asks_out,askB_nil,askB_in,askB_out]|with_reducible apply Wp.assoc));try(with_reducible apply Wp.cargs;case h=>((try simp(disch:=omega)only[↓reduceIte,ask_true,↓X0,X1,Nat.reduceEqDiff,Int.reduceEq,Nat.reduceAdd,Nat.reduceSub,X2,Hp_ne,Nat.reduceLeDiff,eq_self.{1},Nd.cells,and_self,hL1,hv1.len,hneg1,s1,s2,s3,s4,s5,s6,s7,s8,s9,s10,s11,s12]);with_reducible exact rfl)))
 refine Wp.rtm (k29 (o5.mv (by intros;first|with_reducible rfl|simp(disch:=omega)only[Hp_ne,Hp_same,s1,s2,s3,s4,s5,s6,s7,s8,s9,s10,s11,s12])) (by omega) (1) (by decide) (by omega)) ?_
 intro H13 n13 q13 s13 o13
 ((repeat(first|((with_reducible first|apply Wp.gs|apply Wp.cs|apply Wp.cselX|apply Wp.askT|apply Wp.iteKT|apply Wp.ikb|apply Wp.askb|apply Wp.step);case h=>((try simp(disch:=omega)only[↓reduceIte,ask_true,↓X0,X1,Nat.reduceEqDiff,Int.reduceEq,Nat.reduceAdd,Nat.reduceSub,X2,Hp_ne,Nat.reduceLeDiff,eq_self.{1},Nd.cells,and_self,hL1,hv1.len,hneg1,(show ¬ (1 + 5 * l0.length + l1.length : Int) < 0 by omega),s1,s2,s3,s4,s5,s6,s7,s8,s9,s10,s11,s12,s13]);with_reducible first|done|exact rfl|exact bT|exact bF))|apply Wp.andS|apply Wp.orS|with_reducible apply Wp.gu|simp only[↓X3]|simp(disch:=decide)only[asks_nil,asks_in,asks_out,askB_nil,askB_in,askB_out]|with_reducible apply Wp.assoc));try(with_reducible apply Wp.cargs;case h=>((try simp(disch:=omega)only[↓reduceIte,ask_true,↓X0,X1,Nat.reduceEqDiff,Int.reduceEq,Nat.reduceAdd,Nat.reduceSub,X2,Hp_ne,Nat.reduceLeDiff,eq_self.{1},Nd.cells,and_self,hL1,hv1.len,hneg1,(show ¬ (1 + 5 * l0.length + l1.length : Int) < 0 by omega),s1,s2,s3,s4,s5,s6,s7,s8,s9,s10,s11,s12,s13]);with_reducible exact rfl)))
 refine Wp.rtm (k30 (o6.mv (by intros;first|with_reducible rfl|simp(disch:=omega)only[Hp_ne,Hp_same,s1,s2,s3,s4,s5,s6,s7,s8,s9,s10,s11,s12,s13])) (by omega) (1 + 5 * l0.length) (by omega) (by omega)) ?_
 intro H14 n14 q14 s14 o14
 ((repeat(first|((with_reducible first|apply Wp.gs|apply Wp.cs|apply Wp.cselX|apply Wp.askT|apply Wp.iteKT|apply Wp.ikb|apply Wp.askb|apply Wp.step);case h=>((try simp(disch:=omega)only[↓reduceIte,ask_true,↓X0,X1,Nat.reduceEqDiff,Int.reduceEq,Nat.reduceAdd,Nat.reduceSub,X2,Hp_ne,Nat.reduceLeDiff,eq_self.{1},Nd.cells,and_self,hL1,hv1.len,hneg1,(show ¬ (1 + 5 * l0.length + l1.length : Int) < 0 by omega),s1,s2,s3,s4,s5,s6,s7,s8,s9,s10,s11,s12,s13,s14]);with_reducible first|done|exact rfl|exact bT|exact bF))|apply Wp.andS|apply Wp.orS|with_reducible apply Wp.gu|simp only[↓X3]|simp(disch:=decide)only[asks_nil,asks_in,asks_out,askB_nil,askB_in,askB_out]|with_reducible apply Wp.assoc));try(with_reducible apply Wp.cargs;case h=>((try simp(disch:=omega)only[↓reduceIte,ask_true,↓X0,X1,Nat.reduceEqDiff,Int.reduceEq,Nat.reduceAdd,Nat.reduceSub,X2,Hp_ne,Nat.reduceLeDiff,eq_self.{1},Nd.cells,and_self,hL1,hv1.len,hneg1,(show ¬ (1 + 5 * l0.length + l1.length : Int) < 0 by omega),s1,s2,s3,s4,s5,s6,s7,s8,s9,s10,s11,s12,s13,s14]);with_reducible exact rfl)))
 refine Wp.rt (k26 ((o7.mv (by intros;first|with_reducible rfl|simp(disch:=omega)only[Hp_ne,Hp_same,s1,s2,s3,s4,s5,s6,s7,s8,s9,s10,s11,s12,s13,s14])).lst (by omega)) ((o7l.mv (by intros;first|with_reducible rfl|simp(disch:=omega)only[Hp_ne,Hp_same,s1,s2,s3,s4,s5,s6,s7,s8,s9,s10,s11,s12,s13,s14])).lst (by omega)) ((o7d.mv (by intros;first|with_reducible rfl|simp(disch:=omega)only[Hp_ne,Hp_same,s1,s2,s3,s4,s5,s6,s7,s8,s9,s10,s11,s12,s13,s14])).lst (by omega)) ((o4.mv (by intros;first|with_reducible rfl|simp(disch:=omega)only[Hp_ne,Hp_same,s1,s2,s3,s4,s5,s6,s7,s8,s9,s10,s11,s12,s13,s14])).lst (by omega)) ((o4l.mv (by intros;first|with_reducible rfl|simp(disch:=omega)only[Hp_ne,Hp_same,s1,s2,s3,s4,s5,s6,s7,s8,s9,s10,s11,s12,s13,s14])).lst (by omega)) ((o4d.mv (by intros;first|with_reducible rfl|simp(disch:=omega)only[Hp_ne,Hp_same,s1,s2,s3,s4,s5,s6,s7,s8,s9,s10,s11,s12,s13,s14])).lst (by omega)) (by omega)) ?_
 intro H15 n15 q15 s15
 ((repeat(first|((with_reducible first|apply Wp.gs|apply Wp.cs|apply Wp.cselX|apply Wp.askT|apply Wp.iteKT|apply Wp.ikb|apply Wp.askb|apply Wp.step);case h=>((try simp(disch:=omega)only[↓reduceIte,ask_true,↓X0,X1,Nat.reduceEqDiff,Int.reduceEq,Nat.reduceAdd,Nat.reduceSub,X2,Hp_ne,Nat.reduceLeDiff,eq_self.{1},Nd.cells,and_self,hL1,hv1.len,hneg1,(show ¬ (1 + 5 * l0.length + l1.length : Int) < 0 by omega),s1,s2,s3,s4,s5,s6,s7,s8,s9,s10,s11,s12,s13,s14,s15]);with_reducible first|done|exact rfl|exact bT|exact bF))|apply Wp.andS|apply Wp.orS|with_reducible apply Wp.gu|simp only[↓X3]|simp(disch:=decide)only[asks_nil,asks_in,asks_out,askB_nil,askB_in,askB_out]|with_reducible apply Wp.assoc));try(with_reducible apply Wp.cargs;case h=>((try simp(disch:=omega)only[↓reduceIte,ask_true,↓X0,X1,Nat.reduceEqDiff,Int.reduceEq,Nat.reduceAdd,Nat.reduceSub,X2,Hp_ne,Nat.reduceLeDiff,eq_self.{1},Nd.cells,and_self,hL1,hv1.len,hneg1,(show ¬ (1 + 5 * l0.length + l1.length : Int) < 0 by omega),s1,s2,s3,s4,s5,s6,s7,s8,s9,s10,s11,s12,s13,s14,s15]);with_reducible exact rfl)))
 refine Wp.rtm3 (k31 (o7.mv (by intros;first|with_reducible rfl|simp(disch:=omega)only[Hp_ne,Hp_same,s1,s2,s3,s4,s5,s6,s7,s8,s9,s10,s11,s12,s13,s14,s15])) (by omega) (o7l.mv (by intros;first|with_reducible rfl|simp(disch:=omega)only[Hp_ne,Hp_same,s1,s2,s3,s4,s5,s6,s7,s8,s9,s10,s11,s12,s13,s14,s15])) (by omega) (o7d.mv (by intros;first|with_reducible rfl|simp(disch:=omega)only[Hp_ne,Hp_same,s1,s2,s3,s4,s5,s6,s7,s8,s9,s10,s11,s12,s13,s14,s15])) (by omega) d7x d7y d7z (1) (by decide) hnR hnRl hnRd) ?_
 intro H16 n16 q16 s16 o16
 ((repeat(first|((with_reducible first|apply Wp.gs|apply Wp.cs|apply Wp.cselX|apply Wp.askT|apply Wp.iteKT|apply Wp.ikb|apply Wp.askb|apply Wp.step);case h=>((try simp(disch:=omega)only[↓reduceIte,ask_true,↓X0,X1,Nat.reduceEqDiff,Int.reduceEq,Nat.reduceAdd,Nat.reduceSub,X2,Hp_ne,Nat.reduceLeDiff,eq_self.{1},Nd.cells,and_self,hL1,hv1.len,hneg1,(show ¬ (1 + 5 * l0.length + l1.length : Int) < 0 by omega),s1,s2,s3,s4,s5,s6,s7,s8,s9,s10,s11,s12,s13,s14,s15,s16]);with_reducible first|done|exact rfl|exact bT|exact bF))|apply Wp.andS|apply Wp.orS|with_reducible apply Wp.gu|simp only[↓X3]|simp(disch:=decide)only[asks_nil,asks_in,asks_out,askB_nil,askB_in,askB_out]|with_reducible apply Wp.assoc));try(with_reducible apply Wp.cargs;case h=>((try simp(disch:=omega)only[↓reduceIte,ask_true,↓X0,X1,Nat.reduceEqDiff,Int.reduceEq,Nat.reduceAdd,Nat.reduceSub,X2,Hp_ne,Nat.reduceLeDiff,eq_self.{1},Nd.cells,and_self,hL1,hv1.len,hneg1,(show ¬ (1 + 5 * l0.length + l1.length : Int) < 0 by omega),s1,s2,s3,s4,s5,s6,s7,s8,s9,s10,s11,s12,s13,s14,s15,s16]);with_reducible exact rfl)))
 refine Wp.rt (k32 (k:=1) (m:=(compAns l0 l1).p.length) (mi:=(compAns l0 l1).L.length) (md:=(compAns l0 l1).D.length) ((o16.1.mv (by intros;first|with_reducible rfl|simp(disch:=omega)only[Hp_ne,Hp_same,s1,s2,s3,s4,s5,s6,s7,s8,s9,s10,s11,s12,s13,s14,s15,s16])).lst (by omega)) ((o16.2.1.mv (by intros;first|with_reducible rfl|simp(disch:=omega)only[Hp_ne,Hp_same,s1,s2,s3,s4,s5,s6,s7,s8,s9,s10,s11,s12,s13,s14,s15,s16])).lst (by omega)) ((o16.2.2.mv (by intros;first|with_reducible rfl|simp(disch:=omega)only[Hp_ne,Hp_same,s1,s2,s3,s4,s5,s6,s7,s8,s9,s10,s11,s12,s13,s14,s15,s16])).lst (by omega)) (by decide) hnR hnRl hnRd) ?_
 intro H17 n17 q17 s17
 ((repeat(first|((with_reducible first|apply Wp.gs|apply Wp.cs|apply Wp.cselX|apply Wp.askT|apply Wp.iteKT|apply Wp.ikb|apply Wp.askb|apply Wp.step);case h=>((try simp(disch:=omega)only[↓reduceIte,ask_true,↓X0,X1,Nat.reduceEqDiff,Int.reduceEq,Nat.reduceAdd,Nat.reduceSub,X2,Hp_ne,Nat.reduceLeDiff,eq_self.{1},Nd.cells,and_self,hL1,hv1.len,hneg1,(show ¬ (1 + 5 * l0.length + l1.length : Int) < 0 by omega),(show ¬ (1 + 5 * (compAns l0 l1).p.length + 4 * (compAns l0 l1).L.length + 3 * (compAns l0 l1).D.length : Int) < 0 by omega),s1,s2,s3,s4,s5,s6,s7,s8,s9,s10,s11,s12,s13,s14,s15,s16,s17]);with_reducible first|done|exact rfl|exact bT|exact bF))|apply Wp.andS|apply Wp.orS|with_reducible apply Wp.gu|simp only[↓X3]|simp(disch:=decide)only[asks_nil,asks_in,asks_out,askB_nil,askB_in,askB_out]|with_reducible apply Wp.assoc));try(with_reducible apply Wp.cargs;case h=>((try simp(disch:=omega)only[↓reduceIte,ask_true,↓X0,X1,Nat.reduceEqDiff,Int.reduceEq,Nat.reduceAdd,Nat.reduceSub,X2,Hp_ne,Nat.reduceLeDiff,eq_self.{1},Nd.cells,and_self,hL1,hv1.len,hneg1,(show ¬ (1 + 5 * l0.length + l1.length : Int) < 0 by omega),(show ¬ (1 + 5 * (compAns l0 l1).p.length + 4 * (compAns l0 l1).L.length + 3 * (compAns l0 l1).D.length : Int) < 0 by omega),s1,s2,s3,s4,s5,s6,s7,s8,s9,s10,s11,s12,s13,s14,s15,s16,s17]);with_reducible exact rfl)))
 refine Wp.rtn (k24 (hv0.mv (by omega) (by intros;first|with_reducible rfl|simp(disch:=omega)only[Hp_ne,Hp_same,s1,s2,s3,s4,s5,s6,s7,s8,s9,s10,s11,s12,s13,s14,s15,s16,s17])) (by omega)) ?_
 rintro _ H18 n18 q18 s18 ⟨u18,rfl,i18,a18,b18,o18⟩
 ((repeat(first|((with_reducible first|apply Wp.gs|apply Wp.cs|apply Wp.cselX|apply Wp.askT|apply Wp.iteKT|apply Wp.ikb|apply Wp.askb|apply Wp.step);case h=>((try simp(disch:=omega)only[↓reduceIte,ask_true,↓X0,X1,Nat.reduceEqDiff,Int.reduceEq,Nat.reduceAdd,Nat.reduceSub,X2,Hp_ne,Nat.reduceLeDiff,eq_self.{1},Nd.cells,and_self,hL1,hv1.len,hneg1,(show ¬ (1 + 5 * l0.length + l1.length : Int) < 0 by omega),(show ¬ (1 + 5 * (compAns l0 l1).p.length + 4 * (compAns l0 l1).L.length + 3 * (compAns l0 l1).D.length : Int) < 0 by omega),s1,s2,s3,s4,s5,s6,s7,s8,s9,s10,s11,s12,s13,s14,s15,s16,s17,s18]);with_reducible first|done|exact rfl|exact bT|exact bF))|apply Wp.andS|apply Wp.orS|with_reducible apply Wp.gu|simp only[↓X3]|simp(disch:=decide)only[asks_nil,asks_in,asks_out,askB_nil,askB_in,askB_out]|with_reducible apply Wp.assoc));try(with_reducible apply Wp.cargs;case h=>((try simp(disch:=omega)only[↓reduceIte,ask_true,↓X0,X1,Nat.reduceEqDiff,Int.reduceEq,Nat.reduceAdd,Nat.reduceSub,X2,Hp_ne,Nat.reduceLeDiff,eq_self.{1},Nd.cells,and_self,hL1,hv1.len,hneg1,(show ¬ (1 + 5 * l0.length + l1.length : Int) < 0 by omega),(show ¬ (1 + 5 * (compAns l0 l1).p.length + 4 * (compAns l0 l1).L.length + 3 * (compAns l0 l1).D.length : Int) < 0 by omega),s1,s2,s3,s4,s5,s6,s7,s8,s9,s10,s11,s12,s13,s14,s15,s16,s17,s18]);with_reducible exact rfl)))
 refine Wp.rtn (k25 (hv1.mv (by omega) (by intros;first|with_reducible rfl|simp(disch:=omega)only[Hp_ne,Hp_same,s1,s2,s3,s4,s5,s6,s7,s8,s9,s10,s11,s12,s13,s14,s15,s16,s17,s18])) (by omega)) ?_
 rintro u19 H19 n19 q19 s19 ⟨i19,a19,b19,o19⟩
 ((repeat(first|((with_reducible first|apply Wp.gs|apply Wp.cs|apply Wp.cselX|apply Wp.askT|apply Wp.iteKT|apply Wp.ikb|apply Wp.askb|apply Wp.step);case h=>((try simp(disch:=omega)only[↓reduceIte,ask_true,↓X0,X1,Nat.reduceEqDiff,Int.reduceEq,Nat.reduceAdd,Nat.reduceSub,X2,Hp_ne,Nat.reduceLeDiff,eq_self.{1},Nd.cells,and_self,hL1,hv1.len,hneg1,(show ¬ (1 + 5 * l0.length + l1.length : Int) < 0 by omega),(show ¬ (1 + 5 * (compAns l0 l1).p.length + 4 * (compAns l0 l1).L.length + 3 * (compAns l0 l1).D.length : Int) < 0 by omega),s1,s2,s3,s4,s5,s6,s7,s8,s9,s10,s11,s12,s13,s14,s15,s16,s17,s18,s19]);with_reducible first|done|exact rfl|exact bT|exact bF))|apply Wp.andS|apply Wp.orS|with_reducible apply Wp.gu|simp only[↓X3]|simp(disch:=decide)only[asks_nil,asks_in,asks_out,askB_nil,askB_in,askB_out]|with_reducible apply Wp.assoc));try(with_reducible apply Wp.cargs;case h=>((try simp(disch:=omega)only[↓reduceIte,ask_true,↓X0,X1,Nat.reduceEqDiff,Int.reduceEq,Nat.reduceAdd,Nat.reduceSub,X2,Hp_ne,Nat.reduceLeDiff,eq_self.{1},Nd.cells,and_self,hL1,hv1.len,hneg1,(show ¬ (1 + 5 * l0.length + l1.length : Int) < 0 by omega),(show ¬ (1 + 5 * (compAns l0 l1).p.length + 4 * (compAns l0 l1).L.length + 3 * (compAns l0 l1).D.length : Int) < 0 by omega),s1,s2,s3,s4,s5,s6,s7,s8,s9,s10,s11,s12,s13,s14,s15,s16,s17,s18,s19]);with_reducible exact rfl)))
 refine Wp.rtn (k9 ((o18.mv (by intros;first|with_reducible rfl|simp(disch:=omega)only[Hp_ne,Hp_same,s1,s2,s3,s4,s5,s6,s7,s8,s9,s10,s11,s12,s13,s14,s15,s16,s17,s18,s19])).lst (by omega)) hz0 hn0 ((o19.mv (by intros;first|with_reducible rfl|simp(disch:=omega)only[Hp_ne,Hp_same,s1,s2,s3,s4,s5,s6,s7,s8,s9,s10,s11,s12,s13,s14,s15,s16,s17,s18,s19])).lst (by omega)) hL1') ?_
 rintro _ H20 n20 q20 s20 ⟨u20,u20l,u20d,rfl,i20,i20l,i20d,d20x,d20y,d20z,a20,b20,a20l,b20l,a20d,b20d,o20,o20l,o20d⟩
 ((repeat(first|((with_reducible first|apply Wp.gs|apply Wp.cs|apply Wp.cselX|apply Wp.askT|apply Wp.iteKT|apply Wp.ikb|apply Wp.askb|apply Wp.step);case h=>((try simp(disch:=omega)only[↓reduceIte,ask_true,↓X0,X1,Nat.reduceEqDiff,Int.reduceEq,Nat.reduceAdd,Nat.reduceSub,X2,Hp_ne,Nat.reduceLeDiff,eq_self.{1},Nd.cells,and_self,hL1,hv1.len,hneg1,(show ¬ (1 + 5 * l0.length + l1.length : Int) < 0 by omega),(show ¬ (1 + 5 * (compAns l0 l1).p.length + 4 * (compAns l0 l1).L.length + 3 * (compAns l0 l1).D.length : Int) < 0 by omega),s1,s2,s3,s4,s5,s6,s7,s8,s9,s10,s11,s12,s13,s14,s15,s16,s17,s18,s19,s20]);with_reducible first|done|exact rfl|exact bT|exact bF))|apply Wp.andS|apply Wp.orS|with_reducible apply Wp.gu|simp only[↓X3]|simp(disch:=decide)only[asks_nil,asks_in,asks_out,askB_nil,askB_in,askB_out]|with_reducible apply Wp.assoc));try(with_reducible apply Wp.cargs;case h=>((try simp(disch:=omega)only[↓reduceIte,ask_true,↓X0,X1,Nat.reduceEqDiff,Int.reduceEq,Nat.reduceAdd,Nat.reduceSub,X2,Hp_ne,Nat.reduceLeDiff,eq_self.{1},Nd.cells,and_self,hL1,hv1.len,hneg1,(show ¬ (1 + 5 * l0.length + l1.length : Int) < 0 by omega),(show ¬ (1 + 5 * (compAns l0 l1).p.length + 4 * (compAns l0 l1).L.length + 3 * (compAns l0 l1).D.length : Int) < 0 by omega),s1,s2,s3,s4,s5,s6,s7,s8,s9,s10,s11,s12,s13,s14,s15,s16,s17,s18,s19,s20]);with_reducible exact rfl)))
 refine Wp.rt (k26 ((o20.mv (by intros;first|with_reducible rfl|simp(disch:=omega)only[Hp_ne,Hp_same,s1,s2,s3,s4,s5,s6,s7,s8,s9,s10,s11,s12,s13,s14,s15,s16,s17,s18,s19,s20])).lst (by omega)) ((o20l.mv (by intros;first|with_reducible rfl|simp(disch:=omega)only[Hp_ne,Hp_same,s1,s2,s3,s4,s5,s6,s7,s8,s9,s10,s11,s12,s13,s14,s15,s16,s17,s18,s19,s20])).lst (by omega)) ((o20d.mv (by intros;first|with_reducible rfl|simp(disch:=omega)only[Hp_ne,Hp_same,s1,s2,s3,s4,s5,s6,s7,s8,s9,s10,s11,s12,s13,s14,s15,s16,s17,s18,s19,s20])).lst (by omega)) ((o4.mv (by intros;first|with_reducible rfl|simp(disch:=omega)only[Hp_ne,Hp_same,s1,s2,s3,s4,s5,s6,s7,s8,s9,s10,s11,s12,s13,s14,s15,s16,s17,s18,s19,s20])).lst (by omega)) ((o4l.mv (by intros;first|with_reducible rfl|simp(disch:=omega)only[Hp_ne,Hp_same,s1,s2,s3,s4,s5,s6,s7,s8,s9,s10,s11,s12,s13,s14,s15,s16,s17,s18,s19,s20])).lst (by omega)) ((o4d.mv (by intros;first|with_reducible rfl|simp(disch:=omega)only[Hp_ne,Hp_same,s1,s2,s3,s4,s5,s6,s7,s8,s9,s10,s11,s12,s13,s14,s15,s16,s17,s18,s19,s20])).lst (by omega)) (by omega)) ?_
 intro H21 n21 q21 s21
 ((repeat(first|((with_reducible first|apply Wp.gs|apply Wp.cs|apply Wp.cselX|apply Wp.askT|apply Wp.iteKT|apply Wp.ikb|apply Wp.askb|apply Wp.step);case h=>((try simp(disch:=omega)only[↓reduceIte,ask_true,↓X0,X1,Nat.reduceEqDiff,Int.reduceEq,Nat.reduceAdd,Nat.reduceSub,X2,Hp_ne,Nat.reduceLeDiff,eq_self.{1},Nd.cells,and_self,hL1,hv1.len,hneg1,(show ¬ (1 + 5 * l0.length + l1.length : Int) < 0 by omega),(show ¬ (1 + 5 * (compAns l0 l1).p.length + 4 * (compAns l0 l1).L.length + 3 * (compAns l0 l1).D.length : Int) < 0 by omega),s1,s2,s3,s4,s5,s6,s7,s8,s9,s10,s11,s12,s13,s14,s15,s16,s17,s18,s19,s20,s21]);with_reducible first|done|exact rfl|exact bT|exact bF))|apply Wp.andS|apply Wp.orS|with_reducible apply Wp.gu|simp only[↓X3]|simp(disch:=decide)only[asks_nil,asks_in,asks_out,askB_nil,askB_in,askB_out]|with_reducible apply Wp.assoc));try(with_reducible apply Wp.cargs;case h=>((try simp(disch:=omega)only[↓reduceIte,ask_true,↓X0,X1,Nat.reduceEqDiff,Int.reduceEq,Nat.reduceAdd,Nat.reduceSub,X2,Hp_ne,Nat.reduceLeDiff,eq_self.{1},Nd.cells,and_self,hL1,hv1.len,hneg1,(show ¬ (1 + 5 * l0.length + l1.length : Int) < 0 by omega),(show ¬ (1 + 5 * (compAns l0 l1).p.length + 4 * (compAns l0 l1).L.length + 3 * (compAns l0 l1).D.length : Int) < 0 by omega),s1,s2,s3,s4,s5,s6,s7,s8,s9,s10,s11,s12,s13,s14,s15,s16,s17,s18,s19,s20,s21]);with_reducible exact rfl)))
 refine Wp.rt (k32 (k:=1) (m:=(compAns l0 l1).p.length) (mi:=(compAns l0 l1).L.length) (md:=(compAns l0 l1).D.length) ((o16.1.mv (by intros;first|with_reducible rfl|simp(disch:=omega)only[Hp_ne,Hp_same,s1,s2,s3,s4,s5,s6,s7,s8,s9,s10,s11,s12,s13,s14,s15,s16,s17,s18,s19,s20,s21])).lst (by omega)) ((o16.2.1.mv (by intros;first|with_reducible rfl|simp(disch:=omega)only[Hp_ne,Hp_same,s1,s2,s3,s4,s5,s6,s7,s8,s9,s10,s11,s12,s13,s14,s15,s16,s17,s18,s19,s20,s21])).lst (by omega)) ((o16.2.2.mv (by intros;first|with_reducible rfl|simp(disch:=omega)only[Hp_ne,Hp_same,s1,s2,s3,s4,s5,s6,s7,s8,s9,s10,s11,s12,s13,s14,s15,s16,s17,s18,s19,s20,s21])).lst (by omega)) (by decide) hnR hnRl hnRd) ?_
 intro H22 n22 q22 s22
 (repeat(first|((with_reducible first|apply Wp.gs|apply Wp.cs|apply Wp.cselX|apply Wp.askT|apply Wp.iteKT|apply Wp.ikb|apply Wp.askb|apply Wp.step);case h=>((try simp(disch:=omega)only[↓reduceIte,ask_true,↓X0,X1,Nat.reduceEqDiff,Int.reduceEq,Nat.reduceAdd,Nat.reduceSub,X2,Hp_ne,Nat.reduceLeDiff,eq_self.{1},Nd.cells,and_self,hL1,hv1.len,hneg1,(show ¬ (1 + 5 * l0.length + l1.length : Int) < 0 by omega),(show ¬ (1 + 5 * (compAns l0 l1).p.length + 4 * (compAns l0 l1).L.length + 3 * (compAns l0 l1).D.length : Int) < 0 by omega),s1,s2,s3,s4,s5,s6,s7,s8,s9,s10,s11,s12,s13,s14,s15,s16,s17,s18,s19,s20,s21,s22]);with_reducible first|done|exact rfl|exact bT|exact bF))|apply Wp.andS|apply Wp.orS|with_reducible apply Wp.gu|simp only[↓X3]|simp(disch:=decide)only[asks_nil,asks_in,asks_out,askB_nil,askB_in,askB_out]|with_reducible apply Wp.assoc))
 exact Wp.pure rfl
end Go.Proofs.Ytbgkimkbngocjaa.Ax
