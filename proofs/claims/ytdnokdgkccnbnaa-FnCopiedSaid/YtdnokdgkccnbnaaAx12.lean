/- A region of the abstract machine, and the model's, in the text's order. -/
import Derived.Test.YtdnokdgkccnbnaaAx11
set_option linter.unusedSimpArgs false
set_option linter.unusedVariables false
namespace Go.Proofs.Ytdnokdgkccnbnaa.Ax
open Go
variable {P : Program}

def Fresh (G : Gh) (H : Hp) (n : Nat) : Prop := ∀ i, n ≤ i → G i = none ∧ H i = none
theorem Fresh.post {G G' : Gh} {H H' : Hp} {w w' : World} {n n' : Nat} {New : Nat → Prop} (h : Fresh G H n) (hn : n ≤ n') (hp : Post New G H w G' H' w') (hN : ∀ i, n' ≤ i → ¬ New i) : Fresh G' H' n' :=
  fun i hi => ⟨hp.dom i (h i (Nat.le_trans hn hi)).1 (hN i hi), hp.alive i (h i (Nat.le_trans hn hi)).2 (hN i hi)⟩
abbrev Span (n n' : Nat) : Nat → Prop := fun i => n ≤ i ∧ i < n'

/-- What a call of the abstract machine says of the model's. -/
def CALL (P : Program) (C : Calling) : Prop :=
  ∀ f args H n v H' n', C f args H n = some (v, H', n') → (∃ fn c, P.funcs[f]? = some fn ∧ fn.body = some c ∧ (fn.name == "runtime.NumGoroutine") = false) ∧
    ∀ G w args', All2 (VR G) args args' → HR G H w → Fresh G H n →
      Calls P f ⟨args'⟩ w fun e w' => ∃ v' G', e = .returned v' ∧ VR G' v v' ∧ n ≤ n' ∧ Post (Span n n') G H w G' H' w'

theorem exec_sim {C : Calling} (hC : CALL P C) {G : Gh} {H : Hp} {w : World} (hH : HR G H w) {n : Nat} (hF : Fresh G H n) {id : Nat} (hid : G id = none) {o : Oper} {p : Operand → Bool} (ho : o.op.operands.toList.all p = true) {t : Tm} {a : Act}
    (hv : ∀ x, p x = true → VR G (ev t x) (a.eval x)) {t' : Tm} {H' : Hp} {n' : Nat} (h : exec1 P C o id t H n = some (t', H', n')) {K : Act → World → Prop} {Q : Exit → Act → World → Prop}
    (hK : ∀ v v' G' w', t' = putO t o.dst v → VR G' v v' → n ≤ n' → Post (fun i => i = id ∨ Span n n' i) G H w G' H' w' → K (a.put o.dst v') w') : o.wp P a w K Q := by
  unfold exec1 at h
  simp only [Option.bind_eq_some_iff] at h
  obtain ⟨r, hr, h⟩ := h
  have hd := step_sim hH hid ho hv hr
  unfold Oper.wp
  cases hd with
  | val h1 h2 h3 =>
    cases h
    rw [h1, Oper.upon_value]
    exact hK _ _ _ _ rfl h2 (Nat.le_refl _) (h3.weaken fun i hi => .inl hi)
  | skip h1 h3 =>
    cases h
    rw [h1, Oper.upon_skip]
    exact hK _ _ _ _ rfl VR.undef (Nat.le_refl _) (h3.weaken fun i hi => .inl hi)
  | call h1 h2 =>
    simp only [Option.bind_eq_some_iff, Option.some.injEq, Prod.mk.injEq] at h
    obtain ⟨⟨v, H1, n1⟩, hc, rfl, rfl, rfl⟩ := h
    obtain ⟨⟨fn, c, e1, e2, e3⟩, hcall⟩ := hC _ _ _ _ _ _ _ hc
    rw [h2 fn c e1 e2 e3, Oper.upon_enter]
    refine Calls.mono (hcall G w _ h1 hH hF) ?_
    rintro e w' ⟨v', G', rfl, hv', hn, hp⟩
    exact hK _ _ _ _ rfl hv' hn (hp.weaken fun i hi => .inr hi)

/-! ### Temporaries -/
structure TR (G : Gh) (m : Nat) (t : Tm) (a : Act) : Prop where
  size : m ≤ a.tmps.size
  val : ∀ i, VR G (t i) (a.tmps.getD i undef)

theorem Act.put_size (a : Act) (d : Option Nat) (v : Value) : (a.put d v).tmps.size = a.tmps.size := by
  cases d <;> simp [Act.put]
theorem Act.put_defers (a : Act) (d : Option Nat) (v : Value) : (a.put d v).defers = a.defers := by
  cases d <;> rfl
theorem Act.put_get (a : Act) (d : Nat) (v : Value) (i : Nat) (hd : d < a.tmps.size) : (a.put (some d) v).tmps.getD i undef = if i = d then v else a.tmps.getD i undef := by
  simp only [Act.put, Array.getD_eq_getD_getElem?, Array.getElem?_setIfInBounds]
  by_cases h : d = i
  · subst h; simp [hd]
  · rw [if_neg h, if_neg (Ne.symm h)]
theorem TR.put {G : Gh} {m : Nat} {t : Tm} {a : Act} (h : TR G m t a) {d : Option Nat} (hd : ∀ x, d = some x → x < m) {v v' : Value} (hv : VR G v v') : TR G m (putO t d v) (a.put d v') := by
  cases d with
  | none => exact h
  | some d =>
    have hlt : d < a.tmps.size := Nat.lt_of_lt_of_le (hd d rfl) h.size
    refine ⟨by rw [Act.put_size]; exact h.size, fun i => ?_⟩
    rw [Act.put_get a d v' i hlt]
    show VR G (if i = d then v else t i) _
    split
    · exact hv
    · exact h.val i
theorem TR.mono {G G' : Gh} {m : Nat} {t : Tm} {a : Act} (h : TR G m t a) (hg : GLe G G') : TR G' m t a := ⟨h.size, fun i => (h.val i).mono hg⟩

theorem opnd_vr {G : Gh} {t : Tm} {a : Act} {x : Operand} (hx : opnd x = true) (ht : ∀ i, x = .tmp i → VR G (t i) (a.tmps.getD i undef)) : VR G (ev t x) (a.eval x) := by
  cases x with
  | tmp i => exact ht i rfl
  | const v => exact .sr (gnd1_sr hx)
  | global g => cases hx
  | func f => exact .p (.c (.fn f .nil))

theorem VR.bool_right {G : Gh} {x : Value} {b : Bool} (h : VR G x (.bool b)) : x = .bool b := by
  cases h with
  | p h => cases h with
    | c h => cases h with
      | s h => cases h with
        | bool => rfl

def yieldOf (x : Option Value) : Option Bool :=
  match x with
  | some (.bool b) => some b
  | _ => none
theorem guard_aux {α : Type} {G : Gh} {t : Tm} {tm : Array Value} (want : Bool) (A B : α) : ∀ (x : Option Nat), (∀ d, x = some d → VR G (t d) (tm.getD d undef)) →
    (match x with | some d => gsel (t d) want A B | none => B) = if (yieldOf (x.bind (tm[·]?)) == some want) = true then A else B
  | none, _ => rfl
  | some d, h => by
    have hv := h d rfl
    show gsel (t d) want A B = if (yieldOf tm[d]? == some want) = true then A else B
    cases hx : tm[d]? with
    | none =>
      rw [Array.getD_eq_getD_getElem?, hx] at hv
      have : ∀ b, t d ≠ .bool b := by
        intro b hb
        rw [hb] at hv
        have := hv.boolS
        cases this
      unfold gsel
      split
      · rename_i b hb; exact absurd hb (this b)
      · rfl
    | some x =>
      rw [Array.getD_eq_getD_getElem?, hx] at hv
      simp only [Option.getD_some] at hv
      unfold gsel
      split
      · rename_i b hb
        rw [hb] at hv
        obtain rfl := hv.boolS
        cases b <;> cases want <;> rfl
      · rename_i hb
        have : ∀ b, x ≠ .bool b := by
          intro b he
          subst he
          exact hb b hv.bool_right
        cases x <;> first | exact absurd rfl (this _) | rfl
theorem guard_eq {α : Type} {G : Gh} {ops : Array Oper} {t : Tm} {a : Act} {o : Oper} (h : ∀ j b d, o.guard = some (j, b) → (ops[j]?).bind (·.dst) = some d → VR G (t d) (a.tmps.getD d undef)) (A B : α) :
    guardSel ops.toList t o A B = if Region.wanted o (yielded ops a.tmps) = true then A else B := by
  unfold guardSel Region.wanted
  cases hg : o.guard with
  | none => rfl
  | some p =>
    obtain ⟨j, want⟩ := p
    have := guard_aux (t := t) (tm := a.tmps) want A B ((ops[j]?).bind (·.dst)) fun d hd => h j want d hg hd
    simp only [Array.getElem?_toList]
    exact this

/-! ### The text's order -/
theorem text_sim {C : Calling} (hC : CALL P C) {ops : Array Oper} {n0 m : Nat} (hops : ops.toList.all opsOk = true) (hdst : dstsOps m ops.toList = true) {Q : Exit → Act → World → Prop} :
    ∀ (l : List Oper) (i : Nat) (t : Tm) (H : Hp) (n : Nat) (r : R3) (G : Gh) (a : Act) (w : World), l = ops.toList.drop i → runOps P C ops.toList n0 l i t H n = some r →
      TR G m t a → HR G H w → Fresh G H n → n0 + ops.size ≤ n → (∀ j, i ≤ j → j < ops.size → G (n0 + j) = none) →
      (∀ G' a' w', TR G' m r.1 a' → a'.defers = a.defers → n ≤ r.2.2 → Post (Span n0 r.2.2) G H w G' r.2.1 w' → Q .normal a' w') → wpOps P ops Q (List.range' i l.length) a w
  | [], i, t, H, n, r, G, a, w, hl, h, hT, hH, hF, hn, hres, hQ => by
    cases h
    exact hQ G a w hT rfl (Nat.le_refl _) (Post.refl hH)
  | o :: l, i, t, H, n, r, G, a, w, hl, h, hT, hH, hF, hn, hres, hQ => by
    have hoi : ops.toList[i]? = some o := by
      have := congrArg (·[0]?) hl
      simpa using this.symm
    have hoi' : ops[i]? = some o := by rw [← Array.getElem?_toList]; exact hoi
    have hmem : o ∈ ops.toList := List.mem_of_getElem? hoi
    have hi : i < ops.size := (Array.getElem?_eq_some_iff.1 hoi').1
    have hl' : l = ops.toList.drop (i + 1) := by
      have := congrArg List.tail hl
      simpa using this
    have hdo : ∀ x, o.dst = some x → x < m := by
      intro x hx
      have := List.all_eq_true.1 hdst o hmem
      rw [hx] at this
      simpa using this
    have hoo : o.op.operands.toList.all opnd = true := List.all_eq_true.1 hops o hmem
    unfold runOps at h
    simp only [Option.bind_eq_some_iff] at h
    obtain ⟨⟨t1, H1, n1⟩, h1, h2⟩ := h
    rw [guard_eq (G := G) (a := a) fun j b d _ _ => hT.val d] at h1
    rw [List.length_cons, List.range'_succ, wpOps_cons]
    unfold wpOp
    rw [hoi']
    simp only
    by_cases hw : Region.wanted o (yielded ops a.tmps) = true
    · rw [if_pos hw] at h1 ⊢
      refine .inl (exec_sim hC hH hF (hres i (Nat.le_refl _) hi) hoo (fun x hx => opnd_vr hx fun i _ => hT.val i) h1 ?_)
      intro v v' G' w' ht hv hn1 hp
      have hN : ∀ k, n1 ≤ k → ¬ (k = n0 + i ∨ Span n n1 k) := by
        rintro k hk (rfl | hs)
        · omega
        · exact absurd hs.2 (by omega)
      refine text_sim hC hops hdst l (i + 1) t1 H1 n1 r G' _ w' hl' h2 (by rw [ht]; exact (hT.mono hp.le).put hdo hv) hp.hr (hF.post hn1 hp hN) (by omega) ?_ ?_
      · intro j hj hjs
        refine hp.dom _ (hres j (by omega) hjs) ?_
        rintro (hx | hs)
        · omega
        · have := hs.1; omega
      · intro G2 a2 w2 hT2 hd2 hn2 hp2
        refine hQ G2 a2 w2 hT2 (by rw [hd2, Act.put_defers]) (Nat.le_trans hn1 hn2) ?_
        refine (hp.trans hp2).weaken ?_
        rintro k ((rfl | hs) | hs)
        · exact ⟨by omega, by omega⟩
        · have := hs.1; have := hs.2; exact ⟨by omega, by omega⟩
        · exact hs
    · rw [if_neg hw] at h1 ⊢
      simp only [Option.some.injEq, Prod.mk.injEq] at h1
      obtain ⟨rfl, rfl, rfl⟩ := h1
      refine text_sim hC hops hdst l (i + 1) _ H n r G _ w hl' h2 (hT.put hdo VR.undef) hH hF hn (fun j hj hjs => hres j (by omega) hjs) ?_
      intro G2 a2 w2 hT2 hd2 hn2 hp2
      exact hQ G2 a2 w2 hT2 (by rw [hd2, Act.put_defers]) hn2 hp2

end Go.Proofs.Ytdnokdgkccnbnaa.Ax
