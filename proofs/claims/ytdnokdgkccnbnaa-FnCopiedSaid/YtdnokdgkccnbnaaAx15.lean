/- A region that draws its order: whatever the order, what was done in the text's order. -/
import Derived.Test.YtdnokdgkccnbnaaAx14
set_option linter.unusedSimpArgs false
set_option linter.unusedVariables false
namespace Go.Proofs.Ytdnokdgkccnbnaa.Ax
open Go

theorem exec1_t {P : Program} {C : Calling} {o : Oper} {id : Nat} {t t' : Tm} {H H' : Hp} {n n' : Nat} (h : exec1 P C o id t H n = some (t', H', n')) : ∃ v, t' = putO t o.dst v := by
  unfold exec1 at h
  simp only [Option.bind_eq_some_iff] at h
  obtain ⟨r, _, h⟩ := h
  cases r with
  | val v H1 => cases h; exact ⟨_, rfl⟩
  | skip H1 => cases h; exact ⟨_, rfl⟩
  | call g args =>
    simp only [Option.bind_eq_some_iff, Option.some.injEq, Prod.mk.injEq] at h
    obtain ⟨q, _, rfl, _⟩ := h
    exact ⟨_, rfl⟩

section
variable (P : Program) (C : Calling) (ops : Array Oper) (n0 : Nat) (f : Nat → R5)
def Lst (listed : Array Bool) (k : Nat) : Prop := listed[k]? = some true
def Actor (k : Nat) : Prop := ∃ o, ops[k]? = some o ∧ cls P o = 3 ∧ gon ops.toList (f k).t o = true
def Xo (k : Nat) : Option Obj :=
  match ops[k]? with
  | some o => if cls P o = 2 ∧ gon ops.toList (f k).t o = true then (f (k + 1)).H (n0 + k) else none
  | none => none
open Classical in
noncomputable def XS (listed : Array Bool) (p : Nat) : Nat → Option Obj := fun id => if n0 ≤ id ∧ p ≤ id - n0 ∧ Lst listed (id - n0) then Xo P ops n0 f (id - n0) else none
def Evs : Prop := ∀ k o, ops[k]? = some o → Ev P C ops.toList n0 k o (f k) (f (k + 1))
end

section
variable {P : Program} {C : Calling} {ops : Array Oper} {n0 : Nat} {f : Nat → R5}

theorem XS_some {listed : Array Bool} {p id : Nat} {ob : Obj} (h : XS P ops n0 f listed p id = some ob) : ∃ k, id = n0 + k ∧ p ≤ k ∧ Lst listed k ∧ Xo P ops n0 f k = some ob := by
  unfold XS at h
  split at h
  · rename_i hc; exact ⟨id - n0, by omega, hc.2.1, hc.2.2, h⟩
  · cases h
theorem XS_at {listed : Array Bool} {p k : Nat} (h1 : p ≤ k) (h2 : Lst listed k) : XS P ops n0 f listed p (n0 + k) = Xo P ops n0 f k := by
  unfold XS
  rw [Nat.add_sub_cancel_left, if_pos ⟨by omega, h1, h2⟩]
theorem XS_no {listed : Array Bool} {p k : Nat} (h : ¬ (p ≤ k ∧ Lst listed k)) : XS P ops n0 f listed p (n0 + k) = none := by
  unfold XS
  rw [Nat.add_sub_cancel_left, if_neg fun hc => h hc.2]
theorem XS_low {listed : Array Bool} {p id : Nat} (h : id < n0) : XS P ops n0 f listed p id = none := by
  unfold XS
  rw [if_neg fun hc => by omega]

theorem lt_of_get {α : Type} {a : Array α} {k : Nat} {x : α} (h : a[k]? = some x) : k < a.size := (Array.getElem?_eq_some_iff.1 h).1
theorem get_of_lt {α : Type} {a : Array α} {k : Nat} (h : k < a.size) : ∃ x, a[k]? = some x := ⟨a[k], Array.getElem?_eq_getElem h⟩

theorem step_t (he : Evs P C ops n0 f) {k : Nat} {o : Oper} (ho : ops[k]? = some o) : ∃ v, (f (k + 1)).t = putO (f k).t o.dst v := by
  cases he k o ho with
  | off _ h => rw [h]; exact ⟨_, rfl⟩
  | inert v _ _ _ h => rw [h]; exact ⟨_, rfl⟩
  | load _ _ _ v _ _ _ _ _ _ h => rw [h]; exact ⟨_, rfl⟩
  | ext v _ _ _ _ _ h => rw [h]; exact ⟨_, rfl⟩
  | act t' H' n' _ _ h _ h2 => rw [h2]; exact exec1_t h

theorem step_noA (he : Evs P C ops n0 f) {k : Nat} (hk : k < ops.size) (hA : ¬ Actor P ops f k) :
    (f (k + 1)).n = (f k).n ∧ ((Xo P ops n0 f k = none ∧ (f (k + 1)).H = (f k).H) ∨ ∃ ob, Xo P ops n0 f k = some ob ∧ rwObj ob = true ∧ (f (k + 1)).H = (f k).H.set (n0 + k) (some ob)) := by
  obtain ⟨o, ho⟩ := get_of_lt hk
  have hX : ¬ (cls P o = 2 ∧ gon ops.toList (f k).t o = true) → Xo P ops n0 f k = none := by
    intro h; unfold Xo; rw [ho]; simp only; rw [if_neg h]
  cases he k o ho with
  | off h1 h => refine ⟨by rw [h], .inl ⟨hX fun hx => ?_, by rw [h]⟩⟩; rw [h1] at hx; cases hx.2
  | inert v _ h1 _ h => refine ⟨by rw [h], .inl ⟨hX fun hx => ?_, by rw [h]⟩⟩; rw [h1] at hx; cases hx.1
  | load _ _ _ v _ h1 _ _ _ _ h => refine ⟨by rw [h], .inl ⟨hX fun hx => ?_, by rw [h]⟩⟩; rw [h1] at hx; cases hx.1
  | ext v ob h0 h1 h2 _ h =>
    refine ⟨by rw [h], .inr ⟨ob, ?_, h2.1, by rw [h]⟩⟩
    unfold Xo; rw [ho]; simp only; rw [if_pos ⟨h1, h0⟩, h]
    exact Hp.set_same _ _ _
  | act t' H' n' h0 h1 _ _ _ => exact absurd ⟨o, ho, h1, h0⟩ hA

theorem hs_mem (he : Evs P C ops n0 f) : ∀ i, i ≤ ops.size → ∀ j, j < i → Actor P ops f j → (j, (f j).H) ∈ (f i).hs
  | 0, _, j, hj, _ => by omega
  | i + 1, hi, j, hj, hA => by
    obtain ⟨o, ho⟩ := get_of_lt (show i < ops.size by omega)
    have old : j < i → (j, (f j).H) ∈ (f i).hs := fun h => hs_mem he i (by omega) j h hA
    have new : j = i → cls P o = 3 ∧ gon ops.toList (f i).t o = true := by
      rintro rfl
      obtain ⟨o', h1, h2, h3⟩ := hA
      rw [ho] at h1; cases h1
      exact ⟨h2, h3⟩
    have two : j = i ∨ j < i := by omega
    cases he i o ho with
    | off h1 h =>
      rw [h]
      rcases two with e | e
      · rw [(new e).2] at h1; cases h1
      · exact old e
    | inert v _ h1 _ h =>
      rw [h]
      rcases two with e | e
      · rw [(new e).1] at h1; cases h1
      · exact old e
    | load _ _ _ v _ h1 _ _ _ _ h =>
      rw [h]
      rcases two with e | e
      · rw [(new e).1] at h1; cases h1
      · exact old e
    | ext v ob h0 h1 h2 _ h =>
      rw [h]
      rcases two with e | e
      · rw [(new e).1] at h1; cases h1
      · exact old e
    | act t' H' n' h0 h1 _ _ h =>
      rw [h]
      rcases two with e | e
      · subst e; exact List.mem_cons_self ..
      · exact List.mem_cons_of_mem _ (old e)

theorem rs_up (he : Evs P C ops n0 f) {k : Nat} (hk : k < ops.size) {r : Rd} (h : r ∈ (f k).rs) : r ∈ (f (k + 1)).rs := by
  obtain ⟨o, ho⟩ := get_of_lt hk
  cases he k o ho with
  | off h1 h' => rw [h']; exact h
  | inert v _ h1 _ h' => rw [h']; exact h
  | load _ _ _ v _ h1 _ _ _ _ h' => rw [h']; exact List.mem_cons_of_mem _ h
  | ext v ob h0 h1 h2 _ h' => rw [h']; exact h
  | act t' H' n' h0 h1 _ _ h' => rw [h']; exact h
theorem rs_mem (he : Evs P C ops n0 f) {k : Nat} {r : Rd} (h : r ∈ (f (k + 1)).rs) : ∀ d, k + 1 + d ≤ ops.size → r ∈ (f (k + 1 + d)).rs
  | 0, _ => h
  | d + 1, hd => rs_up (k := k + 1 + d) he (by omega) (rs_mem he h d (by omega))

theorem first_actor (p : Nat) : ∀ d, (∀ j, p ≤ j → j < p + d → ¬ Actor P ops f j) ∨ ∃ j, p ≤ j ∧ j < p + d ∧ Actor P ops f j ∧ ∀ i, p ≤ i → i < j → ¬ Actor P ops f i
  | 0 => .inl fun j h1 h2 => by omega
  | d + 1 => by
    rcases first_actor p d with h | ⟨j, h1, h2, h3⟩
    · by_cases hA : Actor P ops f (p + d)
      · exact .inr ⟨p + d, by omega, by omega, hA, h⟩
      · refine .inl fun j h1 h2 => ?_
        rcases Nat.lt_or_ge j (p + d) with h' | h'
        · exact h j h1 h'
        · have : j = p + d := by omega
          subst this; exact hA
    · exact .inr ⟨j, h1, by omega, h3⟩

/-! ### What holds whenever the operations of a set were done -/
structure Mem (P : Program) (ops : Array Oper) (n0 : Nat) (f : Nat → R5) (G0 : Gh) (H0 : Hp) (w0 : World) (listed : Array Bool) (w : World) (G : Gh) (p : Nat) : Prop where
  post : Post (Span n0 (f p).n) G0 H0 w0 G (over (XS P ops n0 f listed p) (f p).H) w
  cl : ∀ k, p ≤ k → k < ops.size → (f p).H (n0 + k) = none
  fresh : Fresh G (f p).H (f p).n
  nn : n0 + ops.size ≤ (f p).n
  virt : ∀ k ob, k < p → ¬ Lst listed k → Xo P ops n0 f k = some ob → (f p).H (n0 + k) = some ob
  res : ∀ k, k < ops.size → ¬ Lst listed k → G (n0 + k) = none
  has : ∀ k ob, Lst listed k → Xo P ops n0 f k = some ob → G (n0 + k) ≠ none

variable {G0 : Gh} {H0 : Hp} {w0 : World}

theorem Mem.up (he : Evs P C ops n0 f) {listed : Array Bool} {w : World} {G : Gh} {p : Nat} (h : Mem P ops n0 f G0 H0 w0 listed w G p) (hp : p < ops.size) (hA : ¬ Actor P ops f p) : Mem P ops n0 f G0 H0 w0 listed w G (p + 1) := by
  obtain ⟨hn, hX⟩ := step_noA he hp hA
  rcases hX with ⟨hX, hH⟩ | ⟨ob, hX, hr, hH⟩
  · have hxs : XS P ops n0 f listed (p + 1) = XS P ops n0 f listed p := by
      funext id
      rcases Nat.lt_or_ge id n0 with hlo | hlo
      · rw [XS_low hlo, XS_low hlo]
      · obtain ⟨k, rfl⟩ := Nat.exists_eq_add_of_le hlo
        by_cases hk : Lst listed k
        · rcases Nat.lt_trichotomy k p with hkp | rfl | hkp
          · rw [XS_no fun hc => by omega, XS_no fun hc => by omega]
          · rw [XS_no fun hc => by omega, XS_at (Nat.le_refl _) hk, hX]
          · rw [XS_at (by omega) hk, XS_at (by omega) hk]
        · rw [XS_no fun hc => hk hc.2, XS_no fun hc => hk hc.2]
    refine ⟨by rw [hn, hH, hxs]; exact h.post, fun k h1 h2 => by rw [hH]; exact h.cl k (by omega) h2, by rw [hn, hH]; exact h.fresh, by rw [hn]; exact h.nn, ?_, h.res, h.has⟩
    intro k ob hk hl hx
    rw [hH]
    rcases Nat.lt_or_ge k p with h' | h'
    · exact h.virt k ob h' hl hx
    · have : k = p := by omega
      subst this; rw [hX] at hx; cases hx
  · have hspan : Span n0 (f p).n (n0 + p) := ⟨by omega, by have := h.nn; omega⟩
    have hcl : ∀ k, p + 1 ≤ k → k < ops.size → (f (p + 1)).H (n0 + k) = none := by
      intro k h1 h2
      rw [hH, Hp.set_ne _ _ (by omega)]
      exact h.cl k (by omega) h2
    have hfresh : Fresh G (f (p + 1)).H (f (p + 1)).n := by
      intro i hi
      rw [hn] at hi
      rw [hH, Hp.set_ne _ _ (by have := hspan.2; omega)]
      exact h.fresh i hi
    have hvirt : ∀ k ob, k < p + 1 → ¬ Lst listed k → Xo P ops n0 f k = some ob → (f (p + 1)).H (n0 + k) = some ob := by
      intro k ob' hk hl hx
      rw [hH]
      rcases Nat.lt_or_ge k p with h' | h'
      · rw [Hp.set_ne _ _ (by omega)]; exact h.virt k ob' h' hl hx
      · have : k = p := by omega
        subst this; rw [hX] at hx; cases hx; exact Hp.set_same _ _ _
    refine ⟨?_, hcl, hfresh, by rw [hn]; exact h.nn, hvirt, h.res, h.has⟩
    rw [hn, hH]
    by_cases hS : Lst listed p
    · have : over (XS P ops n0 f listed (p + 1)) ((f p).H.set (n0 + p) (some ob)) = over (XS P ops n0 f listed p) (f p).H := by
        funext id
        rcases Nat.lt_or_ge id n0 with hlo | hlo
        · rw [over_none (XS_low hlo), over_none (XS_low hlo), Hp.set_ne _ _ (by omega)]
        · obtain ⟨k, rfl⟩ := Nat.exists_eq_add_of_le hlo
          by_cases hkp : k = p
          · subst hkp
            rw [over_none (XS_no fun hc => by omega), Hp.set_same, over_some (o := ob) (by rw [XS_at (Nat.le_refl _) hS]; exact hX)]
          · have hxs : XS P ops n0 f listed (p + 1) (n0 + k) = XS P ops n0 f listed p (n0 + k) := by
              by_cases hc : p ≤ k ∧ Lst listed k
              · rw [XS_at (by omega) hc.2, XS_at hc.1 hc.2]
              · rw [XS_no fun hx => hc ⟨by omega, hx.2⟩, XS_no hc]
            unfold over
            rw [hxs, Hp.set_ne _ _ (by omega)]
      rw [this]; exact h.post
    · have : over (XS P ops n0 f listed (p + 1)) ((f p).H.set (n0 + p) (some ob)) = (over (XS P ops n0 f listed p) (f p).H).set (n0 + p) (some ob) := by
        funext id
        rcases Nat.lt_or_ge id n0 with hlo | hlo
        · rw [over_none (XS_low hlo), Hp.set_ne _ _ (by omega), Hp.set_ne _ _ (by omega), over_none (XS_low hlo)]
        · obtain ⟨k, rfl⟩ := Nat.exists_eq_add_of_le hlo
          by_cases hkp : k = p
          · subst hkp
            rw [over_none (XS_no fun hc => by omega), Hp.set_same, Hp.set_same]
          · have hxs : XS P ops n0 f listed (p + 1) (n0 + k) = XS P ops n0 f listed p (n0 + k) := by
              by_cases hc : p ≤ k ∧ Lst listed k
              · rw [XS_at (by omega) hc.2, XS_at hc.1 hc.2]
              · rw [XS_no fun hx => hc ⟨by omega, hx.2⟩, XS_no hc]
            rw [Hp.set_ne _ _ (by omega)]
            unfold over
            rw [hxs, Hp.set_ne _ _ (by omega)]
      rw [this]; exact h.post.vset hspan (h.res p hp hS) hr
theorem Mem.upto (he : Evs P C ops n0 f) {listed : Array Bool} {w : World} {G : Gh} {p : Nat} (h : Mem P ops n0 f G0 H0 w0 listed w G p) : ∀ d, p + d ≤ ops.size → (∀ j, p ≤ j → j < p + d → ¬ Actor P ops f j) → Mem P ops n0 f G0 H0 w0 listed w G (p + d)
  | 0, _, _ => h
  | d + 1, hd, hA => (Mem.upto he h d (by omega) fun j h1 h2 => hA j h1 (by omega)).up he (by omega) (hA _ (by omega) (by omega))

structure Inv (P : Program) (ops : Array Oper) (n0 m : Nat) (f : Nat → R5) (G0 : Gh) (H0 : Hp) (w0 : World) (ds : List Deferred) (listed : Array Bool) (a : Act) (w : World) (G : Gh) (p : Nat) : Prop where
  sz : listed.size = ops.size
  down : ∀ i, Lst listed i → ∀ j, bef ops.toList j i = true → Lst listed j
  tsz : m ≤ a.tmps.size
  tmp : ∀ d, ∃ i, i ≤ ops.size ∧ (∀ k o, ops[k]? = some o → o.dst = some d → (Lst listed k ↔ k < i)) ∧ VR G ((f i).t d) (a.tmps.getD d undef)
  defs : a.defers = ds
  ple : p ≤ ops.size
  thr : ∀ k, k < ops.size → Actor P ops f k → (Lst listed k ↔ k < p)
  pmin : p = 0 ∨ Actor P ops f (p - 1)
  mem : Mem P ops n0 f G0 H0 w0 listed w G p

theorem t_const (he : Evs P C ops n0 f) {d i : Nat} : ∀ e, i + e ≤ ops.size → (∀ k o, i ≤ k → k < i + e → ops[k]? = some o → o.dst ≠ some d) → (f (i + e)).t d = (f i).t d
  | 0, _, _ => rfl
  | e + 1, hs, h => by
    obtain ⟨o, ho⟩ := get_of_lt (show i + e < ops.size by omega)
    obtain ⟨v, hv⟩ := step_t he ho
    have hd := h (i + e) o (by omega) (by omega) ho
    rw [show i + (e + 1) = i + e + 1 by omega, hv, ← t_const he e (by omega) fun k o h1 h2 => h k o h1 (by omega)]
    cases hdd : o.dst with
    | none => rfl
    | some x =>
      show (if d = x then v else _) = _
      rw [if_neg]
      rintro rfl
      exact hd hdd

theorem t_same (he : Evs P C ops n0 f) {d i j : Nat} (hi : i ≤ ops.size) (hj : j ≤ ops.size) (h : ∀ k o, ops[k]? = some o → o.dst = some d → (k < i ↔ k < j)) : (f i).t d = (f j).t d := by
  rcases Nat.le_total i j with hij | hij
  · obtain ⟨e, rfl⟩ := Nat.exists_eq_add_of_le hij
    refine (t_const he e hj fun k o h1 h2 ho hd => ?_).symm
    have := (h k o ho hd).2 h2
    omega
  · obtain ⟨e, rfl⟩ := Nat.exists_eq_add_of_le hij
    refine t_const he e hi fun k o h1 h2 ho hd => ?_
    have := (h k o ho hd).1 h2
    omega

theorem lst_set {listed : Array Bool} {i k : Nat} (hi : i < listed.size) : Lst (listed.setIfInBounds i true) k ↔ k = i ∨ Lst listed k := by
  unfold Lst
  rw [Array.getElem?_setIfInBounds]
  by_cases h : i = k
  · subst h; simp [hi]
  · rw [if_neg h]
    constructor
    · exact .inr
    · rintro (e | e)
      · exact absurd e.symm h
      · exact e

end

end Go.Proofs.Ytdnokdgkccnbnaa.Ax
