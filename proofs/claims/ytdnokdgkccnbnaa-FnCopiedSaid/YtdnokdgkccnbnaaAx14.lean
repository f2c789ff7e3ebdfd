/- A region that draws its order: what each operation did in the text's order. -/
import Derived.Test.YtdnokdgkccnbnaaAx13
set_option linter.unusedSimpArgs false
set_option linter.unusedVariables false
namespace Go.Proofs.Ytdnokdgkccnbnaa.Ax
open Go

theorem inert_any {P : Program} {t : Tm} {o : Oper} {H : Hp} {id : Nat} {r : Res} (hc : cls P o = 0) (h : step1 P t o H id = some r) : ∃ v, r = .val v H ∧ ∀ K i, step1 P t o K i = some (.val v K) := by
  unfold step1 at h ⊢
  unfold cls at hc
  cases hop : o.op <;> rw [hop] at h hc <;> (try dsimp only at h) <;> (try dsimp only at hc) <;> (try dsimp only) <;> try (first | (cases h; done) | (cases hc; done))
  case move x => cases h; exact ⟨_, rfl, fun K i => rfl⟩
  case assign x => cases h; exact ⟨_, rfl, fun K i => rfl⟩
  case pick c a b => obtain ⟨x, h1, rfl⟩ := vH_some h; exact ⟨x, rfl, fun K i => by simp only [h1]; rfl⟩
  case build ty parts =>
    simp only [Option.bind_eq_some_iff] at h
    obtain ⟨ti, ht, h⟩ := h
    split at h
    · rename_i hc
      simp only [Option.bind_eq_some_iff] at h
      obtain ⟨ps, hp, h⟩ := h
      obtain ⟨x, h1, rfl⟩ := vH_some h
      exact ⟨x, rfl, fun K i => by simp only [ht, Option.bind_some]; rw [if_pos hc, hp, Option.bind_some, h1]; rfl⟩
    · cases h
  case nilCheck x => obtain ⟨x, h1, rfl⟩ := vH_some h; exact ⟨x, rfl, fun K i => by simp only [h1]; rfl⟩
  case binOp op ty x y s => obtain ⟨x, h1, rfl⟩ := vH_some h; exact ⟨x, rfl, fun K i => by simp only [h1]; rfl⟩
  case unOp op ty x => obtain ⟨x, h1, rfl⟩ := vH_some h; exact ⟨x, rfl, fun K i => by simp only [h1]; rfl⟩
  case convert s d x =>
    obtain ⟨v, H', h1, rfl⟩ := vP_some h
    generalize hk : convK P s d = ck at h1 hc ⊢
    unfold conv at h1
    split at h1 <;> first | (cases hc; done) | skip
    · cases h1; rename_i hx; exact ⟨_, rfl, fun K i => by simp only [conv, hx]; rfl⟩
    · cases h1; rename_i hx; exact ⟨_, rfl, fun K i => by simp only [conv, hx]; rfl⟩
    · cases h1; rename_i hx; exact ⟨_, rfl, fun K i => by simp only [conv, hx]; rfl⟩
    · cases h1
  case makeFunc fn first captured =>
    split at h
    · rename_i hc
      split at h
      · cases h; exact ⟨_, rfl, fun K i => by simp only [if_pos hc]⟩
      · cases h
    · cases h
  case slice ty x lo hi mx =>
    split at h
    · cases h
    · rename_i hm
      simp only [Option.bind_eq_some_iff] at h
      obtain ⟨sz, hs, h⟩ := h
      obtain ⟨v, h1, rfl⟩ := vH_some h
      exact ⟨v, rfl, fun K i => by simp only [if_neg hm, hs, Option.bind_some, h1]; rfl⟩
  case fieldAddr s x i =>
    simp only [Option.bind_eq_some_iff] at h
    obtain ⟨p, hp, h⟩ := h
    obtain ⟨v, h1, rfl⟩ := vH_some h
    exact ⟨v, rfl, fun K i => by simp only [hp, Option.bind_some, h1]; rfl⟩
  case field s x i =>
    simp only [Option.bind_eq_some_iff] at h
    obtain ⟨p, hp, h⟩ := h
    obtain ⟨v, h1, rfl⟩ := vH_some h
    exact ⟨v, rfl, fun K i => by simp only [hp, Option.bind_some, h1]; rfl⟩
  case indexAddr ty x i =>
    simp only [Option.bind_eq_some_iff] at h
    obtain ⟨te, ht, h⟩ := h
    obtain ⟨v, h1, rfl⟩ := vH_some h
    exact ⟨v, rfl, fun K i => by simp only [ht, Option.bind_some, h1]; rfl⟩
  case index ty x i =>
    simp only [Option.bind_eq_some_iff] at h
    obtain ⟨ti, ht, h⟩ := h
    split at h
    · rename_i hd
      obtain ⟨v, h1, rfl⟩ := vH_some h
      exact ⟨v, rfl, fun K i => by simp only [ht, Option.bind_some, hd, h1]; rfl⟩
    · cases h
  case extract x i => obtain ⟨v, h1, rfl⟩ := vH_some h; exact ⟨v, rfl, fun K i => by simp only [h1]; rfl⟩
  case call c =>
    cases hcc : c.callee with
    | value g => rw [hcc] at hc; cases hc
    | invoke a b => rw [hcc] at hc; cases hc
    | builtin b =>
      rw [hcc] at h hc
      cases b <;> dsimp only at hc <;> try (cases hc; done)
      case len =>
        dsimp only at h ⊢
        generalize c.args.toList = l1 at h ⊢
        generalize c.argTypes.toList = l2 at h ⊢
        split at h
        · split at h
          · rename_i hl
            obtain ⟨v, h1, rfl⟩ := vH_some h
            exact ⟨v, rfl, fun K i => by simp only [if_pos hl, h1]; rfl⟩
          · cases h
        · cases h
      case min =>
        dsimp only at h ⊢
        generalize c.args.toList = l1 at h ⊢
        split at h
        · split at h
          · rename_i hx hy
            split at h
            · rename_i hk
              cases h
              exact ⟨_, rfl, fun K i => by subst hk; simp [hx, hy]⟩
            · cases h
          · cases h
        · cases h

theorem ext_any {P : Program} {t : Tm} {o : Oper} {H : Hp} {id : Nat} {r : Res} (hc : cls P o = 2) (h : step1 P t o H id = some r) :
    ∃ v ob, r = .val v (H.set id (some ob)) ∧ (rwObj ob = true ∧ (v = ptr id 0 ∨ ∃ n, v = sl id 0 n)) ∧ ∀ K, step1 P t o K id = some (.val v (K.set id (some ob))) := by
  unfold step1 at h ⊢
  unfold cls at hc
  cases hop : o.op <;> rw [hop] at h hc <;> (try dsimp only at h) <;> (try dsimp only at hc) <;> (try dsimp only) <;> try (first | (cases h; done) | (cases hc; done))
  case alloc ty =>
    simp only [Option.bind_eq_some_iff] at h
    obtain ⟨ti, ht, h⟩ := h
    split at h
    · rename_i hz; cases h
      exact ⟨_, _, rfl, ⟨rfl, .inl rfl⟩, fun K => by simp only [ht, Option.bind_some, if_pos hz]⟩
    · cases h
  case box ty x =>
    simp only [Option.bind_eq_some_iff, Option.some.injEq] at h
    obtain ⟨cs, hcs, rfl⟩ := h
    exact ⟨_, _, rfl, ⟨rfl, .inl rfl⟩, fun K => by simp only [hcs, Option.bind_some]⟩
  case buildSlice ty n parts =>
    simp only [Option.bind_eq_some_iff] at h
    obtain ⟨te, ht, h⟩ := h
    split at h
    · rename_i hz
      obtain ⟨x, H', h1, rfl⟩ := vP_some h
      unfold bsl at h1
      split at h1
      · rename_i hb
        simp only [Option.bind_eq_some_iff, Option.some.injEq, Prod.mk.injEq] at h1
        obtain ⟨cs, hcs, rfl, rfl⟩ := h1
        exact ⟨_, _, rfl, ⟨rfl, .inr ⟨_, rfl⟩⟩, fun K => by simp only [ht, Option.bind_some, if_pos hz, bsl, if_pos hb, hcs]; rfl⟩
      · cases h1
    · cases h
  case convert s d x =>
    obtain ⟨v, H', h1, rfl⟩ := vP_some h
    generalize hk : convK P s d = ck at h1 hc ⊢
    unfold conv at h1
    split at h1 <;> first | (cases hc; done) | skip
    · cases h1; rename_i hx; exact ⟨_, _, rfl, ⟨rfl, .inr ⟨_, rfl⟩⟩, fun K => by simp only [conv, hx]; rfl⟩
    · cases h1
  case makeSlice ty l c =>
    simp only [Option.bind_eq_some_iff] at h
    obtain ⟨te, ht, h⟩ := h
    split at h
    · rename_i hz
      obtain ⟨x, H', h1, rfl⟩ := vP_some h
      unfold mks at h1
      split at h1
      · rename_i hl hcc
        split at h1
        · rename_i hb
          simp only [Option.some.injEq, Prod.mk.injEq] at h1
          obtain ⟨rfl, rfl⟩ := h1
          exact ⟨_, _, rfl, ⟨rfl, .inr ⟨_, rfl⟩⟩, fun K => by simp only [ht, Option.bind_some, if_pos hz, mks, hl, hcc]; rw [if_pos hb]; rfl⟩
        · cases h1
      · cases h1
    · cases h
  case call c =>
    cases hcc : c.callee with
    | value g => rw [hcc] at hc; cases hc
    | invoke a b => rw [hcc] at hc; cases hc
    | builtin b => rw [hcc] at hc; cases b <;> cases hc

def gon (L : List Oper) (t : Tm) (o : Oper) : Bool := guardSel L t o true false
theorem gsel_gon {α : Type} (t : Tm) (w : Bool) (A B : α) : ∀ (x : Option Nat), (match x with | some d => gsel (t d) w A B | none => B) = if (match x with | some d => gsel (t d) w true false | none => false) = true then A else B
  | none => rfl
  | some d => by
    show gsel (t d) w A B = if gsel (t d) w true false = true then A else B
    generalize t d = v
    cases v <;> first | rfl | (rename_i b; cases b <;> cases w <;> rfl)
theorem guardSel_gon {α : Type} (L : List Oper) (t : Tm) (o : Oper) (A B : α) : guardSel L t o A B = if gon L t o = true then A else B := by
  unfold gon guardSel
  cases o.guard with
  | none => rfl
  | some p => exact gsel_gon t p.2 A B _

noncomputable def stepD (P : Program) (C : Calling) (L : List Oper) (n0 : Nat) (o : Oper) (i : Nat) (q : R5) : Option R5 :=
  guardSel L q.t o (draw1 P C ((befs L []).getD i 0) o i (n0 + i) q) (some { q with t := putO q.t o.dst (.tuple #[]) })

theorem trace {P : Program} {C : Calling} {L : List Oper} {n0 : Nat} : ∀ (l : List Oper) (i : Nat) (q q' : R5), runDraw P C L (befs L []) n0 l i q = some q' →
    ∃ f : Nat → R5, f i = q ∧ f (i + l.length) = q' ∧ ∀ k o, l[k]? = some o → stepD P C L n0 o (i + k) (f (i + k)) = some (f (i + k + 1))
  | [], i, q, q', h => by
    cases h
    exact ⟨fun _ => q, rfl, rfl, fun k o hk => by simp at hk⟩
  | o :: l, i, q, q', h => by
    unfold runDraw at h
    simp only [Option.bind_eq_some_iff] at h
    obtain ⟨q1, h1, h2⟩ := h
    obtain ⟨f, f1, f2, f3⟩ := trace l (i + 1) q1 q' h2
    refine ⟨fun j => if j = i then q else f j, by simp, ?_, ?_⟩
    · show (if i + (o :: l).length = i then q else f (i + (o :: l).length)) = q'
      rw [List.length_cons, if_neg (by omega), show i + (l.length + 1) = i + 1 + l.length by omega]; exact f2
    · intro k x hk
      cases k with
      | zero =>
        simp only [List.getElem?_cons_zero, Option.some.injEq] at hk
        subst hk
        simp only [Nat.add_zero, if_true]
        rw [if_neg (by omega), f1]
        exact h1
      | succ k =>
        simp only [List.getElem?_cons_succ] at hk
        have := f3 k x hk
        simp only
        rw [if_neg (by omega), if_neg (by omega), show i + (k + 1) = i + 1 + k by omega]
        exact this

section
variable (P : Program) (C : Calling) (L : List Oper) (n0 : Nat)

/-- What an operation did. -/
inductive Ev (k : Nat) (o : Oper) (q q' : R5) : Prop
  | off : gon L q.t o = false → q' = { q with t := putO q.t o.dst (.tuple #[]) } → Ev k o q q'
  | inert (v : Value) : gon L q.t o = true → cls P o = 0 → (∀ K i, step1 P q.t o K i = some (.val v K)) → q' = { q with t := putO q.t o.dst v } → Ev k o q q'
  | load (ty : TypeId) (a : Operand) (ti : TI) (v : Value) : gon L q.t o = true → cls P o = 1 → o.op = .load ty a → tab P ty = some ti → ld ti.agg ti.size (ev q.t a) q.H = some v →
      (∀ x ∈ q.hs, ((befs L []).getD k 0).testBit x.1 = true ∨ ld ti.agg ti.size (ev q.t a) x.2 = some v) → q' = ⟨putO q.t o.dst v, q.H, q.n, ⟨k, ti.agg, ti.size, ev q.t a, v⟩ :: q.rs, q.hs⟩ → Ev k o q q'
  | ext (v : Value) (ob : Obj) : gon L q.t o = true → cls P o = 2 → (rwObj ob = true ∧ (v = ptr (n0 + k) 0 ∨ ∃ n, v = sl (n0 + k) 0 n)) → (∀ K, step1 P q.t o K (n0 + k) = some (.val v (K.set (n0 + k) (some ob)))) → q' = { q with t := putO q.t o.dst v, H := q.H.set (n0 + k) (some ob) } → Ev k o q q'
  | act (t' : Tm) (H' : Hp) (n' : Nat) : gon L q.t o = true → cls P o = 3 → exec1 P C o (n0 + k) q.t q.H q.n = some (t', H', n') →
      (∀ r ∈ q.rs, ((befs L []).getD k 0).testBit r.i = true ∨ ld r.agg r.sz r.a H' = some r.v) → q' = ⟨t', H', n', q.rs, (k, q.H) :: q.hs⟩ → Ev k o q q'
end

theorem ev_of {P : Program} {C : Calling} {L : List Oper} {n0 k : Nat} {o : Oper} {q q' : R5} (hc : clsOk P o = true) (h : stepD P C L n0 o k q = some q') : Ev P C L n0 k o q q' := by
  unfold stepD at h
  rw [guardSel_gon] at h
  split at h
  · rename_i hg
    unfold draw1 at h
    split at h
    · rename_i ty a hl
      have hop : o.op = .load ty a := by
        unfold loadOf at hl
        split at hl
        · rename_i heq; cases hl; exact heq
        · cases hl
      simp only [Option.bind_eq_some_iff] at h
      obtain ⟨ti, ht, v, hv, h⟩ := h
      obtain ⟨h2, h1⟩ := askB_some h
      exact .load ty a ti v hg (by unfold cls; rw [hop]) hop ht hv h2 (Option.some.inj h1).symm
    · rename_i hl
      simp only [Option.bind_eq_some_iff] at h
      obtain ⟨⟨t', H', n'⟩, he, h⟩ := h
      split at h
      · rename_i h3
        obtain ⟨h2, h1⟩ := asks_some h
        exact .act t' H' n' hg (by simpa using h3) he h2 (Option.some.inj h1).symm
      · rename_i h3
        have hc3 : cls P o ≠ 3 := by simpa using h3
        cases h
        have hcl : cls P o = 0 ∨ cls P o = 1 ∨ cls P o = 2 := by
          unfold clsOk at hc
          split at hc
          · rename_i e; exact .inl e
          · rename_i e; exact .inr (.inl e)
          · rename_i e; exact .inr (.inr e)
          · rename_i e; exact absurd e hc3
          · cases hc
        unfold exec1 at he
        simp only [Option.bind_eq_some_iff] at he
        obtain ⟨r, hr, he⟩ := he
        rcases hcl with h0 | h0 | h0
        · obtain ⟨v, rfl, hall⟩ := inert_any h0 hr
          cases he
          exact .inert v hg h0 hall rfl
        · exfalso
          unfold loadOf at hl
          split at hl
          · cases hl
          · rename_i hno
            unfold cls at h0
            split at h0 <;> try (cases h0; done)
            · rename_i heq; exact hno _ _ heq
            · split at h0 <;> cases h0
            · split at h0 <;> cases h0
        · obtain ⟨v, ob, rfl, h1, hall⟩ := ext_any h0 hr
          cases he
          exact .ext v ob hg h0 h1 hall rfl
  · rename_i hg
    cases h
    exact .off (by simpa using hg) rfl

end Go.Proofs.Ytdnokdgkccnbnaa.Ax
