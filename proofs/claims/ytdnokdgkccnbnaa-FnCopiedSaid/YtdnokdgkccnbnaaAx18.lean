/- Code and calls of the abstract machine, and the model's. -/
import Derived.Test.YtdnokdgkccnbnaaAx17
import Derived.Deep.LoopGhost
set_option linter.unusedSimpArgs false
set_option linter.unusedVariables false
namespace Go.Proofs.Ytdnokdgkccnbnaa.Ax
open Go
variable {P : Program}

theorem region_sim (hm : P.follows .mixedOrders = true) {C : Calling} (hC : CALL P C) {ops : Array Oper} {draw : Bool} {m : Nat} {t : Tm} {H : Hp} {n : Nat} {r : R3} (h : region P C ops.toList draw t H n = some r) (hdst : dstsOps m ops.toList = true)
    {G : Gh} {a : Act} {w : World} (hT : TR G m t a) (hH : HR G H w) (hF : Fresh G H n) {id : Nat} {Q : Exit → Act → World → Prop}
    (hQ : ∀ G' a' w', TR G' m r.1 a' → a'.defers = a.defers → n ≤ r.2.2 → Post (Span n r.2.2) G H w G' r.2.1 w' → Q .normal a' w') : (Code.region id ops draw).wp P Q a w := by
  unfold region at h
  split at h
  · rename_i hok
    cases draw with
    | false =>
      simp only [Bool.false_eq_true, if_false] at h
      refine wp_region ?_
      have := text_sim (Q := Q) hC hok hdst ops.toList 0 t H (n + ops.toList.length) r G a w rfl h hT hH (fun i hi => hF i (by omega)) (by simp) (fun j _ _ => (hF _ (by omega)).1) ?_
      · rw [Array.length_toList] at this
        rw [List.range_eq_range']
        exact this
      · intro G' a' w' h1 h2 h3 h4
        exact hQ G' a' w' h1 h2 (by omega) h4
    | true =>
      simp only [if_true] at h
      split at h
      · rename_i hd
        simp only [Option.bind_eq_some_iff, Option.some.injEq] at h
        obtain ⟨q, hq, rfl⟩ := h
        unfold drawOk at hd
        simp only [Bool.and_eq_true] at hd
        obtain ⟨⟨heo, hcl⟩, hpo⟩ := hd
        obtain ⟨f, f0, f1, f2⟩ := trace _ _ _ _ hq
        simp only [Nat.zero_add] at f1 f2
        have he : Evs P C ops n f := by
          intro k o ho
          have ho' : ops.toList[k]? = some o := by rw [Array.getElem?_toList]; exact ho
          exact ev_of (List.all_eq_true.1 hcl o (List.mem_of_getElem? ho')) (f2 k o ho')
        have hlen : ops.toList.length = ops.size := Array.length_toList
        refine wp_region_any hm ?_
        have hlst0 : ∀ k, ¬ Lst (Array.replicate ops.size false) k := by
          intro k hk
          unfold Lst at hk
          rw [Array.getElem?_replicate] at hk
          split at hk <;> cases hk
        have hX0 : XS P ops n f (Array.replicate ops.size false) 0 = fun _ => none := by
          funext id
          cases hx : XS P ops n f (Array.replicate ops.size false) 0 id with
          | none => rfl
          | some ob => obtain ⟨k, _, _, hk, _⟩ := XS_some hx; exact absurd hk (hlst0 k)
        have hov : ∀ H : Hp, over (fun _ => none) H = H := fun H => funext fun i => over_none rfl
        refine any_sim (f := f) (n0 := n) (m := m) (G0 := G) (H0 := H) (w0 := w) (ds := a.defers) hC he hok hpo heo hdst ?_ ops.size (Array.replicate ops.size false) a { w with drawn := w.drawn + 1 } G 0 ?_ ?_
        · intro listed a' w' G' p hI hall
          have hM := hI.mem.upto he (ops.size - p) (by have := hI.ple; omega) ?_
          · rw [show p + (ops.size - p) = ops.size by have := hI.ple; omega] at hM
            have hXe : XS P ops n f listed ops.size = fun _ => none := by
              funext id
              cases hx : XS P ops n f listed ops.size id with
              | none => rfl
              | some ob =>
                obtain ⟨k, _, hk, hl, _⟩ := XS_some hx
                have := lt_of_get hl
                rw [hI.sz] at this
                omega
            have hpost := hM.post
            rw [hXe, hov] at hpost
            have hfe : f ops.size = q := by rw [← hlen]; exact f1
            rw [hfe] at hpost
            refine hQ G' a' w' ⟨hI.tsz, fun d => ?_⟩ hI.defs (by have := hM.nn; rw [hfe] at this; show n ≤ q.n; omega) hpost
            obtain ⟨i, h1, h2, h3⟩ := hI.tmp d
            have : (f i).t d = q.t d := by
              rw [← hfe]
              refine t_same he h1 (Nat.le_refl _) fun k o ho hd => ?_
              have hk := lt_of_get ho
              exact ⟨fun _ => hk, fun _ => (h2 k o ho hd).1 (hall k hk)⟩
            show VR G' (q.t d) _
            rw [← this]; exact h3
          · intro j h1 h2 hA
            have hj : j < ops.size := by have := hI.ple; omega
            have := (hI.thr j hj hA).1 (hall j hj)
            omega
        · refine ⟨by simp, fun i hi => absurd hi (hlst0 i), hT.size, fun d => ⟨0, by omega, fun k o _ _ => ⟨fun h => absurd h (hlst0 k), fun h => by omega⟩, by rw [f0]; exact hT.val d⟩, rfl, by omega, fun k _ _ => ⟨fun h => absurd h (hlst0 k), fun h => by omega⟩, .inl rfl, ?_⟩
          refine ⟨?_, ?_, ?_, ?_, ?_, ?_, ?_⟩
          · rw [hX0, hov, f0]; exact Post.drew hH rfl rfl rfl rfl
          · intro k _ _; rw [f0]; exact (hF _ (by omega)).2
          · intro k hk; rw [f0] at hk ⊢; exact hF k (by have : n + ops.toList.length ≤ k := hk; omega)
          · rw [f0]; show n + ops.size ≤ n + ops.toList.length; omega
          · intro k ob hk; omega
          · intro k _ _; exact (hF _ (by omega)).1
          · intro k ob hk; exact absurd hk (hlst0 k)
        · exact Nat.le_trans List.countP_le_length (by simp)
      · cases h
  · cases h

/-! ### Code -/
def exR : Ex → Exit → Prop
  | .normal, .normal => True
  | .exit i, .exit j => i = j
  | .ret, .ret => True
  | _, _ => False

def Done (G0 : Gh) (H0 : Hp) (w0 : World) (n0 m : Nat) (ds : List Deferred) (o : Out) (e : Exit) (a : Act) (w : World) : Prop :=
  ∃ G, exR o.e e ∧ TR G m o.t a ∧ a.defers = ds ∧ n0 ≤ o.n ∧ Post (Span n0 o.n) G0 H0 w0 G o.H w

theorem Done.after {G0 G1 : Gh} {H0 H1 : Hp} {w0 w1 : World} {n0 n1 m : Nat} {ds : List Deferred} {o : Out} {e : Exit} {a : Act} {w : World} (hn : n0 ≤ n1) (hp : Post (Span n0 n1) G0 H0 w0 G1 H1 w1) (h : Done G1 H1 w1 n1 m ds o e a w) : Done G0 H0 w0 n0 m ds o e a w := by
  obtain ⟨G, h1, h2, h3, h4, h5⟩ := h
  refine ⟨G, h1, h2, h3, Nat.le_trans hn h4, (hp.trans h5).weaken ?_⟩
  rintro i (hi | hi)
  · exact ⟨hi.1, Nat.lt_of_lt_of_le hi.2 h4⟩
  · exact ⟨Nat.le_trans hn hi.1, hi.2⟩

theorem Fresh.span {G G' : Gh} {H H' : Hp} {w w' : World} {n n' : Nat} (h : Fresh G H n) (hn : n ≤ n') (hp : Post (Span n n') G H w G' H' w') : Fresh G' H' n' :=
  h.post hn hp fun i hi hs => by have := hs.2; omega

theorem cond_vr {G : Gh} {m : Nat} {t : Tm} {a : Act} (hT : TR G m t a) {c : Operand} (hc : condOk c = true) : VR G (ev t c) (a.eval c) := by
  cases c with
  | tmp i => exact hT.val i
  | const v => exact .sr (gnd1_sr hc)
  | global g => cases hc
  | func f => cases hc

theorem code_sim (hm : P.follows .mixedOrders = true) {C : Calling} (hC : CALL P C) (k m : Nat) : ∀ (c : Code) (t : Tm) (H : Hp) (n : Nat) (o : Out) (G : Gh) (a : Act) (w : World), code P C (iter k) c t H n = some o → codeOk m c = true → TR G m t a → HR G H w → Fresh G H n →
    c.wp P (Done G H w n m a.defers o) a w := by
  intro c
  induction c with
  | skip =>
    intro t H n o G a w h hok hT hH hF
    cases h
    exact wp_skip ⟨G, trivial, hT, rfl, Nat.le_refl _, Post.refl hH⟩
  | region id ops draw =>
    intro t H n o G a w h hok hT hH hF
    simp only [code, Option.bind_eq_some_iff, Option.some.injEq] at h
    obtain ⟨q, hq, rfl⟩ := h
    exact region_sim hm hC hq hok hT hH hF fun G' a' w' h1 h2 h3 h4 => ⟨G', trivial, h1, h2, h3, h4⟩
  | seq x y ihx ihy =>
    intro t H n o G a w h hok hT hH hF
    simp only [code, Option.bind_eq_some_iff] at h
    obtain ⟨o1, h1, h2⟩ := h
    simp only [codeOk, Bool.and_eq_true] at hok
    refine wp_seq (wp_mono (ihx t H n o1 G a w h1 hok.1 hT hH hF) ?_)
    intro e a1 w1 hd
    obtain ⟨G1, e1, e2, e3, e4, e5⟩ := id hd
    unfold thenO at h2
    cases he : o1.e with
    | normal =>
      rw [he] at h2 e1
      simp only at h2
      cases e with
      | normal =>
        have := ihy o1.t o1.H o1.n o G1 a1 w1 h2 hok.2 e2 e5.hr (hF.span e4 e5)
        refine wp_mono this fun e' a' w' hd' => ?_
        rw [e3] at hd'
        exact hd'.after e4 e5
      | _ => cases e1
    | exit i =>
      rw [he] at h2 e1
      cases h2
      cases e with
      | exit j => exact hd
      | _ => cases e1
    | ret =>
      rw [he] at h2 e1
      cases h2
      cases e with
      | ret => exact hd
      | _ => cases e1
  | cond c x y ihx ihy =>
    intro t H n o G a w h hok hT hH hF
    simp only [code] at h
    simp only [codeOk, Bool.and_eq_true] at hok
    have hv := cond_vr hT hok.1.1
    unfold csel at h
    split at h
    · rename_i b hb
      rw [hb] at hv
      have hv := hv.boolS
      refine wp_cond (t := b) hv ?_
      cases b with
      | true => exact ihx t H n o G a w h hok.1.2 hT hH hF
      | false => exact ihy t H n o G a w h hok.2 hT hH hF
    · cases h
  | block id c ih =>
    intro t H n o G a w h hok hT hH hF
    simp only [code, Option.bind_eq_some_iff, Option.some.injEq] at h
    obtain ⟨o1, h1, rfl⟩ := h
    refine wp_block (wp_mono (ih t H n o1 G a w h1 hok hT hH hF) ?_)
    intro e a1 w1 hd
    have hd0 := hd
    obtain ⟨G1, e1, e2, e3, e4, e5⟩ := hd0
    obtain ⟨oe, ot, oH, on⟩ := o1
    cases oe with
    | normal =>
      cases e with
      | normal => exact hd
      | _ => cases e1
    | exit i =>
      cases e with
      | exit j =>
        have hij : i = j := e1
        subst hij
        show if i = id then _ else _
        by_cases hi : i = id
        · rw [if_pos hi]
          refine ⟨G1, ?_, ?_, e3, ?_, ?_⟩
          · simp only [outOf, hi, if_true]; trivial
          · simp only [outOf, hi, if_true]; exact e2
          · simp only [outOf, hi, if_true]; exact e4
          · simp only [outOf, hi, if_true]; exact e5
        · rw [if_neg hi]
          simp only [outOf, if_neg hi]
          exact hd
      | _ => cases e1
    | ret =>
      cases e with
      | ret => exact hd
      | _ => cases e1
  | loop c ih =>
    intro t H n o G a w h hok hT hH hF
    simp only [code] at h
    refine wp_loop_ghost (fun j a1 w1 => ∃ t1 H1 n1 G1, iter j (code P C (iter k) c) t1 H1 n1 = some o ∧ TR G1 m t1 a1 ∧ a1.defers = a.defers ∧ n ≤ n1 ∧ Post (Span n n1) G H w G1 H1 w1) k ⟨t, H, n, G, h, hT, rfl, Nat.le_refl _, Post.refl hH⟩ ?_
    rintro j a1 w1 ⟨t1, H1, n1, G1, h1, h2, h3, h4, h5⟩
    cases j with
    | zero => cases h1
    | succ j =>
      simp only [iter, Option.bind_eq_some_iff] at h1
      obtain ⟨o1, g1, g2⟩ := h1
      refine wp_mono (ih t1 H1 n1 o1 G1 a1 w1 g1 hok h2 h5.hr (hF.span h4 h5)) ?_
      intro e a2 w2 hd
      rw [h3] at hd
      have hd := hd.after h4 h5
      obtain ⟨G2, e1, e2, e3, e4, e5⟩ := id hd
      unfold thenO at g2
      cases he : o1.e with
      | normal =>
        rw [he] at g2 e1
        simp only at g2
        cases e with
        | normal => exact ⟨j, by omega, o1.t, o1.H, o1.n, G2, g2, e2, e3, e4, e5⟩
        | _ => cases e1
      | exit i =>
        rw [he] at g2 e1
        cases g2
        cases e with
        | exit j => exact hd
        | _ => cases e1
      | ret =>
        rw [he] at g2 e1
        cases g2
        cases e with
        | ret => exact hd
        | _ => cases e1
  | exit id =>
    intro t H n o G a w h hok hT hH hF
    cases h
    exact wp_exit ⟨G, rfl, hT, rfl, Nat.le_refl _, Post.refl hH⟩
  | ret =>
    intro t H n o G a w h hok hT hH hF
    cases h
    exact wp_ret ⟨G, trivial, hT, rfl, Nat.le_refl _, Post.refl hH⟩
  | _ => intro t H n o G a w h; cases h

/-! ### Calls -/
theorem VR.notTup {G : Gh} {v v' : Value} (h : VR G v v') (hv : notTup v = true) : PR G v v' := by
  cases h with
  | p h => exact h
  | tup h => cases hv

def resF (tm : Array Value) (r : ResultVar) : Sem Value :=
  match r with
  | .tmp t => pure (tm.getD t undef)
  | .cell a t => do loadVar t (← asAddr (tm.getD a undef))

theorem run_mapM_results {G : Gh} {H : Hp} {w : World} (hH : HR G H w) {m : Nat} {t : Tm} {a : Act} (hT : TR G m t a) : ∀ (rs : List ResultVar) (l : List Value), resL P t H rs = some l →
    ∃ l', (rs.mapM (resF a.tmps)).run P w = .ok l' w ∧ All2 (VR G) l l'
  | [], l, h => by cases h; exact ⟨[], by simp, .nil⟩
  | r :: rs, l, h => by
    unfold resL at h
    simp only [Option.bind_eq_some_iff, Option.some.injEq] at h
    obtain ⟨v, h1, l1, h2, rfl⟩ := h
    obtain ⟨l', e1, e2⟩ := run_mapM_results hH hT rs l1 h2
    have hone : ∃ v', (resF a.tmps r).run P w = .ok v' w ∧ VR G v v' := by
      unfold resV at h1
      cases r with
      | tmp i => cases h1; exact ⟨_, by simp [resF], hT.val i⟩
      | cell i ty =>
        simp only [Option.bind_eq_some_iff] at h1
        obtain ⟨ti, ht, hl⟩ := h1
        obtain ⟨v', e1, e2⟩ := ld_sim hH ht (hT.val i) hl
        refine ⟨v', ?_, .p e2⟩
        have hp : ∃ ad, a.tmps.getD i undef = .pointer (some ad) := by
          have hc : ∃ j o, t i = .pointer (some ⟨j, o, none⟩) := by
            have : ∀ {p}, cellsAt (t i) H = some p → ∃ j o, t i = .pointer (some ⟨j, o, none⟩) := fun {p} hp => by
              obtain ⟨j, e, rw_, hj, _⟩ := cellsAt_some hp
              exact ⟨_, _, hj⟩
            unfold ld lda ldc at hl
            split at hl
            · simp only [Option.bind_eq_some_iff] at hl
              obtain ⟨p, hp, _⟩ := hl
              exact this hp
            · simp only [Option.bind_eq_some_iff] at hl
              obtain ⟨p, hp, _⟩ := hl
              exact this hp
          obtain ⟨j, o, hj⟩ := hc
          have := hT.val i
          rw [hj] at this
          obtain ⟨g, _, h⟩ := this.ptr
          exact ⟨_, h⟩
        obtain ⟨ad, had⟩ := hp
        rw [had] at e1
        unfold resF
        simp only [had]
        simpa [Instr.loadAt, Instr.sureAddr, asAddr] using e1
    obtain ⟨v', e3, e4⟩ := hone
    refine ⟨v' :: l', ?_, .cons e4 e2⟩
    rw [List.mapM_cons]
    simp only [Sem.run_bind, e3, e1, Result.andThen_ok, Sem.run_pure]

theorem results_sim {G : Gh} {H H' : Hp} {w : World} (hH : HR G H w) {m n n' : Nat} {t : Tm} {a : Act} (hT : TR G m t a) {fn : Func} {l : List Value} {v : Value} (h : resL P t H fn.results.toList = some l) (ho : outV l H n = some (v, H', n')) :
    ∃ v', (results fn a.tmps).run P w = .ok v' w ∧ VR G v v' ∧ H' = H ∧ n' = n := by
  obtain ⟨l', e1, e2⟩ := run_mapM_results hH hT _ _ h
  have hrun : (results fn a.tmps).run P w = .ok (if h : (⟨l'⟩ : Array Value).size = 1 then (⟨l'⟩ : Array Value)[0] else .tuple ⟨l'⟩) w := by
    have : results fn a.tmps = (do let vs ← fn.results.mapM (resF a.tmps); pure (if h : vs.size = 1 then vs[0] else .tuple vs)) := rfl
    rw [this, Array.mapM_eq_mapM_toList]
    simp only [Sem.run_bind, Sem.run_map, e1, Result.andThen_ok, Sem.run_pure]
  rw [hrun]
  unfold outV at ho
  split at ho
  · cases ho
    obtain ⟨b, m', rfl, h1, h2⟩ := All2.cons_left e2
    cases h2
    exact ⟨b, rfl, h1, rfl, rfl⟩
  · rename_i hno
    unfold iteK at ho
    split at ho
    · rename_i hall
      cases ho
      have hl := e2.length
      have hne : ¬ (⟨l'⟩ : Array Value).size = 1 := by
        intro h1
        have : l'.length = 1 := h1
        rw [← hl] at this
        obtain ⟨x, hx⟩ := List.length_eq_one_iff.1 this
        exact hno x hx
      refine ⟨.tuple ⟨l'⟩, by rw [dif_neg hne], .tup ?_, rfl, rfl⟩
      clear hrun hno hne h e1
      induction e2 with
      | nil => exact .nil
      | cons h _ ih =>
        rw [List.all_cons, Bool.and_eq_true] at hall
        refine .cons (h.notTup hall.1) (ih ?_ ?_)
        · exact hall.2
        · simpa using hl
    · cases ho

theorem argsT_get {G : Gh} {args args' : List Value} (h : All2 (VR G) args args') (nt : Nat) (i : Nat) : VR G (argsT args i) ((⟨args'⟩ ++ Array.replicate (nt - args'.length) undef : Array Value).getD i undef) := by
  unfold argsT
  rw [Array.getD_eq_getD_getElem?, Array.getElem?_append]
  have hl := h.length
  split
  · rename_i hi
    have hi' : i < args.length := by rw [hl]; exact hi
    obtain ⟨b, h1, h2⟩ := h.get (List.getElem?_eq_getElem hi')
    rw [List.getD_eq_getElem?_getD, List.getElem?_eq_getElem hi', Option.getD_some]
    rw [show (⟨args'⟩ : Array Value)[i]? = some b by rw [← h1]; simp, Option.getD_some]
    exact h2
  · rename_i hi
    have hi' : args.length ≤ i := by rw [hl]; exact Nat.le_of_not_lt hi
    rw [List.getD_eq_getElem?_getD, List.getElem?_eq_none hi', Option.getD_none]
    rw [Array.getElem?_replicate]
    split <;> exact VR.undef

theorem acall_CALL (hm : P.follows .mixedOrders = true) : ∀ k, CALL P (acall P k)
  | 0 => fun f args H n v H' n' h => by cases h
  | k + 1 => by
    intro f args H n v H' n' h
    unfold acall at h
    cases hf : P.funcs[f]? with
    | none => rw [hf] at h; cases h
    | some fn =>
      rw [hf] at h
      simp only at h
      unfold body at h
      cases hb : fn.body with
      | none => rw [hb] at h; cases h
      | some c =>
        rw [hb] at h
        simp only at h
        split at h
        · rename_i hok
          refine ⟨⟨fn, c, rfl, hb, hok.2⟩, ?_⟩
          intro G w args' hargs hH hF
          simp only [Option.bind_eq_some_iff] at h
          obtain ⟨o, ho, hfin⟩ := h
          have hl := hargs.length
          have hT : TR G fn.ntmps (argsT args) { tmps := ⟨args'⟩ ++ Array.replicate (fn.ntmps - (⟨args'⟩ : Array Value).size) undef, defers := [] } := by
            refine ⟨?_, argsT_get hargs fn.ntmps⟩
            simp
            omega
          refine calls_of_wp hf hb (wp_mono (code_sim hm (acall_CALL hm k) k fn.ntmps c (argsT args) H n o G _ w ho hok.1 hT hH hF) ?_)
          rintro e a1 w1 ⟨G1, e1, e2, e3, e4, e5⟩
          unfold finish at hfin
          have fin : (resL P o.t o.H fn.results.toList).bind (fun l => outV l o.H o.n) = some (v, H', n') → a1.defers = [] ∧ ∃ v', (results fn a1.tmps).run P w1 = .ok v' w1 ∧ ∃ v1 G', (Ending.returned v') = .returned v1 ∧ VR G' v v1 ∧ n ≤ n' ∧ Post (Span n n') G H w G' H' w1 := by
            intro hf
            simp only [Option.bind_eq_some_iff] at hf
            obtain ⟨l, hl1, hl2⟩ := hf
            obtain ⟨v', r1, r2, rfl, rfl⟩ := results_sim e5.hr e2 hl1 hl2
            exact ⟨e3, v', r1, v', G1, rfl, r2, e4, e5⟩
          cases he : o.e with
          | normal =>
            rw [he] at hfin e1
            cases e with
            | normal => exact fin hfin
            | _ => cases e1
          | exit i => rw [he] at hfin; cases hfin
          | ret =>
            rw [he] at hfin e1
            cases e with
            | ret => exact fin hfin
            | _ => cases e1
        · cases h

/-- WHAT THE ABSTRACT MACHINE TELLS OF A CALL, THE MODEL'S CALL DOES. -/
theorem Call_sim (hm : P.follows .mixedOrders = true) {f : Nat} {args : List Value} {H : Hp} {n : Nat} {v : Value} {H' : Hp} {n' : Nat} (h : Call P f args H n = some (v, H', n')) {G : Gh} {w : World} {args' : List Value} (ha : All2 (VR G) args args') (hH : HR G H w) (hF : Fresh G H n) :
    Calls P f ⟨args'⟩ w fun e w' => ∃ v' G', e = .returned v' ∧ VR G' v v' ∧ n ≤ n' ∧ Post (Span n n') G H w G' H' w' := by
  obtain ⟨k, hk⟩ := Call_some.1 h
  exact (acall_CALL hm k _ _ _ _ _ _ _ hk).2 G w args' ha hH hF

end Go.Proofs.Ytdnokdgkccnbnaa.Ax
