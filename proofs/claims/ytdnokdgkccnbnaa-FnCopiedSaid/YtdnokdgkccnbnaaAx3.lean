/- What a call and a loop of the abstract machine come to in the end, without a count of rounds. -/
import Derived.Test.YtdnokdgkccnbnaaAx2
set_option linter.unusedSimpArgs false
set_option linter.unusedVariables false
namespace Go.Proofs.Ytdnokdgkccnbnaa.Ax
open Go

/-! ### More rounds tell the same -/
structure Le {α : Type} (x y : Option α) : Prop where
  to : ∀ r, x = some r → y = some r
theorem Le.refl {α : Type} (x : Option α) : Le x x := ⟨fun _ h => h⟩
theorem Le.none {α : Type} (x : Option α) : Le none x := ⟨fun _ h => by cases h⟩
theorem Le.trans {α : Type} {x y z : Option α} (h : Le x y) (h' : Le y z) : Le x z := ⟨fun r hr => h'.to r (h.to r hr)⟩
theorem Le.bind {α β : Type} {x y : Option α} {f g : α → Option β} (h : Le x y) (h' : ∀ a, Le (f a) (g a)) : Le (x.bind f) (y.bind g) := by
  refine ⟨fun r hr => ?_⟩
  cases x with
  | none => cases hr
  | some a => rw [h.to a rfl]; exact (h' a).to r hr
theorem Le.ite {α : Type} {p : Prop} [Decidable p] {x y x' y' : Option α} (h : Le x x') (h' : Le y y') : Le (if p then x else y) (if p then x' else y') := by
  split
  · exact h
  · exact h'
theorem Le.gsel {α : Type} (v : Value) (w : Bool) {x y x' y' : Option α} (h : Le x x') (h' : Le y y') : Le (gsel v w x y) (gsel v w x' y') := by
  unfold Ax.gsel; split
  · exact Le.ite h h'
  · exact h'
theorem Le.csel {α : Type} (v : Value) {x y x' y' : Option α} (h : Le x x') (h' : Le y y') : Le (csel v x y) (csel v x' y') := by
  unfold Ax.csel; split
  · exact Le.ite h h'
  · exact Le.none _
theorem Le.ask {α : Type} (p : Prop) {x y : Option α} (h : Le x y) : Le (ask p x) (ask p y) := by
  unfold Ax.ask
  split
  · exact h
  · exact Le.none _
theorem Le.asks {α : Type} (m : Nat) (H : Hp) (rs : List Rd) {x y : Option α} (h : Le x y) : Le (asks m H rs x) (asks m H rs y) := by
  induction rs with
  | nil => exact h
  | cons r rs ih => unfold Ax.asks; exact Le.ite ih (Le.ask _ ih)
theorem Le.askB {α : Type} (m : Nat) (agg : Bool) (sz : Nat) (a v : Value) (hs : List (Nat × Hp)) {x y : Option α} (h : Le x y) : Le (askB m agg sz a v hs x) (askB m agg sz a v hs y) := by
  induction hs with
  | nil => exact h
  | cons r rs ih => unfold Ax.askB; exact Le.ite ih (Le.ask _ ih)

def CLe (C C' : Calling) : Prop := ∀ f args H n, Le (C f args H n) (C' f args H n)
def BLe (φ ψ : Body) : Prop := ∀ t H n, Le (φ t H n) (ψ t H n)
def LLe (L L' : Body → Body) : Prop := ∀ φ ψ, BLe φ ψ → BLe (L φ) (L' ψ)

theorem exec1_le {P : Program} {C C' : Calling} (h : CLe C C') (o : Oper) (id : Nat) (t : Tm) (H : Hp) (n : Nat) : Le (exec1 P C o id t H n) (exec1 P C' o id t H n) := by
  unfold exec1
  refine Le.bind (Le.refl _) fun r => ?_
  cases r with
  | val v H => exact Le.refl _
  | skip H => exact Le.refl _
  | call f args => exact Le.bind (h ..) fun q => Le.refl _
theorem guardSel_le {α : Type} (ops : List Oper) (t : Tm) (o : Oper) {x y x' y' : Option α} (h : Le x x') (h' : Le y y') : Le (guardSel ops t o x y) (guardSel ops t o x' y') := by
  unfold guardSel
  split
  · exact h
  · split
    · exact Le.gsel _ _ h h'
    · exact h'
theorem runOps_le {P : Program} {C C' : Calling} (h : CLe C C') (ops : List Oper) (n0 : Nat) : ∀ (l : List Oper) (i : Nat) (t : Tm) (H : Hp) (n : Nat), Le (runOps P C ops n0 l i t H n) (runOps P C' ops n0 l i t H n) := by
  intro l
  induction l with
  | nil => intros; exact Le.refl _
  | cons o r ih => intro i t H n; exact Le.bind (guardSel_le _ _ _ (exec1_le h ..) (Le.refl _)) fun q => ih ..
theorem draw1_le {P : Program} {C C' : Calling} (h : CLe C C') (m : Nat) (o : Oper) (i id : Nat) (q : R5) : Le (draw1 P C m o i id q) (draw1 P C' m o i id q) := by
  unfold draw1
  cases loadOf o.op with
  | some p => exact Le.refl _
  | none =>
    refine Le.bind (exec1_le h ..) fun p => Le.ite (Le.refl _) (Le.refl _)
theorem runDraw_le {P : Program} {C C' : Calling} (h : CLe C C') (ops : List Oper) (b : List Nat) (n0 : Nat) : ∀ (l : List Oper) (i : Nat) (q : R5), Le (runDraw P C ops b n0 l i q) (runDraw P C' ops b n0 l i q) := by
  intro l
  induction l with
  | nil => intros; exact Le.refl _
  | cons o r ih => intro i q; exact Le.bind (guardSel_le _ _ _ (draw1_le h ..) (Le.refl _)) fun q => ih ..
theorem region_le {P : Program} {C C' : Calling} (h : CLe C C') (ops : List Oper) (d : Bool) (t : Tm) (H : Hp) (n : Nat) : Le (region P C ops d t H n) (region P C' ops d t H n) := by
  unfold region
  refine Le.ite (Le.ite (Le.ite (Le.bind (runDraw_le h ..) fun q => Le.refl _) (Le.refl _)) (runOps_le h ..)) (Le.refl _)
theorem thenO_le (o : Out) {k k' : Body} (h : BLe k k') : Le (thenO o k) (thenO o k') := by
  unfold thenO; split
  · exact h ..
  · exact Le.refl _
theorem code_le {P : Program} {C C' : Calling} (h : CLe C C') {L L' : Body → Body} (hL : LLe L L') (c : Code) : BLe (code P C L c) (code P C' L' c) := by
  induction c with
  | region id ops d => intro t H n; exact Le.bind (region_le h ..) fun q => Le.refl _
  | seq a b iha ihb => intro t H n; exact Le.bind (iha ..) fun o => thenO_le o ihb
  | cond c x y ihx ihy => intro t H n; exact Le.csel _ (ihx ..) (ihy ..)
  | block id c ih => intro t H n; exact Le.bind (ih ..) fun o => Le.refl _
  | loop c ih => exact hL _ _ ih
  | _ => intro t H n; exact Le.refl _
theorem iter_le (k : Nat) : LLe (iter k) (iter k) := by
  induction k with
  | zero => intro φ ψ h t H n; exact Le.refl _
  | succ k ih => intro φ ψ h t H n; exact Le.bind (h ..) fun o => thenO_le o (ih _ _ h)
theorem iter_more (φ : Body) (k : Nat) : BLe (iter k φ) (iter (k + 1) φ) := by
  induction k with
  | zero => intro t H n; exact Le.none _
  | succ k ih => intro t H n; exact Le.bind (Le.refl _) fun o => thenO_le o ih
theorem iter_step (k : Nat) : LLe (iter k) (iter (k + 1)) := fun φ ψ h t H n => Le.trans (iter_le k φ ψ h t H n) (iter_more ψ k t H n)
theorem body_le {P : Program} {C C' : Calling} (h : CLe C C') {L L' : Body → Body} (hL : LLe L L') (fn : Func) (args : List Value) (H : Hp) (n : Nat) : Le (body P C L fn args H n) (body P C' L' fn args H n) := by
  unfold body
  split
  · exact Le.refl _
  · exact Le.ite (Le.bind (code_le h hL ..) fun o => Le.refl _) (Le.refl _)
theorem acall_step (P : Program) (k : Nat) : CLe (acall P k) (acall P (k + 1)) := by
  induction k with
  | zero => intro f args H n; exact Le.none _
  | succ k ih =>
    intro f args H n
    show Le (match P.funcs[f]? with | some fn => body P (acall P k) (iter k) fn args H n | none => none) (match P.funcs[f]? with | some fn => body P (acall P (k + 1)) (iter (k + 1)) fn args H n | none => none)
    split
    · exact body_le ih (iter_step k) ..
    · exact Le.refl _
theorem mono_of {α : Type} {g : Nat → Option α} (h : ∀ k, Le (g k) (g (k + 1))) {j k : Nat} (hjk : j ≤ k) : Le (g j) (g k) := by
  obtain ⟨d, rfl⟩ := Nat.exists_eq_add_of_le hjk
  induction d with
  | zero => exact Le.refl _
  | succ d ih => exact Le.trans (ih (by omega)) (h _)

/-! ### In the end -/
open Classical in
noncomputable def lim {α : Type} (g : Nat → Option α) : Option α := if h : ∃ r k, g k = some r then some h.choose else none
theorem lim_some {α : Type} {g : Nat → Option α} (hg : ∀ k, Le (g k) (g (k + 1))) {r : α} : lim g = some r ↔ ∃ k, g k = some r := by
  unfold lim
  constructor
  · intro h
    split at h
    · rename_i hx
      obtain ⟨k, hk⟩ := hx.choose_spec
      injection h with h
      exact ⟨k, by rw [hk, h]⟩
    · cases h
  · rintro ⟨k, hk⟩
    have hx : ∃ r k, g k = some r := ⟨r, k, hk⟩
    rw [dif_pos hx]
    obtain ⟨j, hj⟩ := hx.choose_spec
    have h1 := (mono_of hg (Nat.le_max_left j k)).to _ hj
    have h2 := (mono_of hg (Nat.le_max_right j k)).to _ hk
    rw [h1] at h2
    exact h2
theorem Le.lim {α : Type} {g : Nat → Option α} (hg : ∀ k, Le (g k) (g (k + 1))) (k : Nat) : Le (g k) (lim g) := ⟨fun _ h => (lim_some hg).2 ⟨k, h⟩⟩
theorem lim_le {α : Type} {g : Nat → Option α} (hg : ∀ k, Le (g k) (g (k + 1))) {x : Option α} (h : ∀ k, Le (g k) x) : Le (lim g) x := by
  refine ⟨fun r hr => ?_⟩
  obtain ⟨k, hk⟩ := (lim_some hg).1 hr
  exact (h k).to r hk
theorem Le.antisymm {α : Type} {x y : Option α} (h : Le x y) (h' : Le y x) : x = y := by
  cases x with
  | some a => rw [h.to a rfl]
  | none =>
    cases y with
    | none => rfl
    | some b => rw [h'.to b rfl]

noncomputable def Call (P : Program) : Calling := fun f args H n => lim fun k => acall P k f args H n
noncomputable def Loop (φ : Body) : Body := fun t H n => lim fun k => iter k φ t H n

theorem Call_some {P : Program} {f : Nat} {args : List Value} {H : Hp} {n : Nat} {r : Value × Hp × Nat} : Call P f args H n = some r ↔ ∃ k, acall P k f args H n = some r :=
  lim_some (g := fun k => acall P k f args H n) fun k => acall_step P k f args H n
theorem Loop_some {φ : Body} {t : Tm} {H : Hp} {n : Nat} {o : Out} : Loop φ t H n = some o ↔ ∃ k, iter k φ t H n = some o :=
  lim_some (g := fun k => iter k φ t H n) fun k => iter_more φ k t H n

/-- The loop's round. -/
theorem Loop_eq (φ : Body) (t : Tm) (H : Hp) (n : Nat) : Loop φ t H n = (φ t H n).bind fun o => thenO o (Loop φ) := by
  refine Le.antisymm ?_ ?_
  · refine lim_le (fun k => iter_more φ k t H n) fun k => ?_
    cases k with
    | zero => exact Le.none _
    | succ k => exact Le.bind (Le.refl _) fun o => thenO_le o fun t H n => Le.lim (g := fun k => iter k φ t H n) (fun k => iter_more φ k t H n) k
  · refine ⟨fun r hr => ?_⟩
    cases ho : φ t H n with
    | none => rw [ho] at hr; cases hr
    | some o =>
      rw [ho, Option.bind_some] at hr
      unfold thenO at hr
      split at hr
      · rename_i he
        obtain ⟨k, hk⟩ := Loop_some.1 hr
        refine Loop_some.2 ⟨k + 1, ?_⟩
        show (φ t H n).bind (fun o => thenO o (iter k φ)) = some r
        rw [ho, Option.bind_some]
        unfold thenO
        rw [he]
        exact hk
      · rename_i he
        refine Loop_some.2 ⟨1, ?_⟩
        show (φ t H n).bind (fun o => thenO o (iter 0 φ)) = some r
        rw [ho, Option.bind_some]
        unfold thenO
        split
        · rename_i he'; exact absurd he' he
        · exact hr

theorem Loop_ok : LpOk Loop := by
  intro φ t H n o h
  obtain ⟨k, hk⟩ := Loop_some.1 h
  clear h
  induction k generalizing t H n with
  | zero => cases hk
  | succ k ih =>
    simp only [iter, Option.bind_eq_some_iff] at hk
    obtain ⟨o1, h1, h2⟩ := hk
    unfold thenO at h2
    split at h2
    · exact ih _ _ _ h2
    · rename_i he; cases h2; exact ⟨he, t, H, n, h1⟩

/-! What some rounds come to, and what it comes to in the end. -/
theorem iter_Loop (k : Nat) : LLe (iter k) Loop := fun φ ψ h t H n => Le.trans (iter_le k φ ψ h t H n) (Le.lim (g := fun k => iter k ψ t H n) (fun k => iter_more ψ k t H n) k)
theorem acall_Call (P : Program) (k : Nat) : CLe (acall P k) (Call P) := fun f args H n => Le.lim (g := fun k => acall P k f args H n) (fun k => acall_step P k f args H n) k

noncomputable def appr (P : Program) (k : Nat) (c : Code) : Body := fun t H n => code P (acall P k) (iter k) c t H n
theorem appr_step (P : Program) (c : Code) (k : Nat) : BLe (appr P k c) (appr P (k + 1) c) := code_le (acall_step P k) (iter_step k) c

/-- Finitely many calls need finitely many rounds. -/
theorem exec1_cont {P : Program} (o : Oper) (id : Nat) (t : Tm) (H : Hp) (n : Nat) (r : R3) (h : exec1 P (Call P) o id t H n = some r) : ∃ k, exec1 P (acall P k) o id t H n = some r := by
  unfold exec1 at h ⊢
  cases hs : step1 P t o H id with
  | none => rw [hs] at h; cases h
  | some s =>
    rw [hs] at h
    simp only [Option.bind_some] at h ⊢
    cases s with
    | val v H => exact ⟨0, h⟩
    | skip H => exact ⟨0, h⟩
    | call f args =>
      simp only [Option.bind_eq_some_iff] at h
      obtain ⟨q, hq, hr⟩ := h
      obtain ⟨k, hk⟩ := Call_some.1 hq
      exact ⟨k, by simp only [hk, Option.bind_some]; exact hr⟩
theorem guardSel_cont {α : Type} (ops : List Oper) (t : Tm) (o : Oper) {x : Option α} {y : Option α} {g : Nat → Option α} {r : α} (hx : ∀ r, x = some r → ∃ k, g k = some r) (h : guardSel ops t o x y = some r) : ∃ k, guardSel ops t o (g k) y = some r := by
  unfold guardSel at h ⊢
  split at h
  · exact hx r h
  · split at h
    · unfold gsel at h ⊢
      split at h
      · split at h
        · rename_i hb
          obtain ⟨k, hk⟩ := hx r h
          exact ⟨k, by rw [if_pos hb]; exact hk⟩
        · rename_i hb; exact ⟨0, by rw [if_neg hb]; exact h⟩
      · exact ⟨0, h⟩
    · exact ⟨0, h⟩
theorem bind_cont {α β : Type} {x : Option α} {f : α → Option β} {g : Nat → Option α} {h : Nat → α → Option β} (hg : ∀ k, Le (g k) (g (k + 1))) (hh : ∀ k a, Le (h k a) (h (k + 1) a))
    (h1 : ∀ a, x = some a → ∃ k, g k = some a) (h2 : ∀ a r, f a = some r → ∃ k, h k a = some r) {r : β} (hr : x.bind f = some r) : ∃ k, (g k).bind (h k) = some r := by
  cases x with
  | none => cases hr
  | some a =>
    obtain ⟨k, hk⟩ := h1 a rfl
    obtain ⟨j, hj⟩ := h2 a r hr
    refine ⟨max k j, ?_⟩
    rw [(mono_of hg (Nat.le_max_left k j)).to _ hk, Option.bind_some]
    exact (mono_of (fun k => hh k a) (Nat.le_max_right k j)).to _ hj
theorem runOps_cont {P : Program} (ops : List Oper) (n0 : Nat) : ∀ (l : List Oper) (i : Nat) (t : Tm) (H : Hp) (n : Nat) (r : R3), runOps P (Call P) ops n0 l i t H n = some r → ∃ k, runOps P (acall P k) ops n0 l i t H n = some r := by
  intro l
  induction l with
  | nil => intro i t H n r h; exact ⟨0, h⟩
  | cons o l ih =>
    intro i t H n r h
    exact bind_cont (x := guardSel ops t o (exec1 P (Call P) o (n0 + i) t H n) (some (putO t o.dst (.tuple #[]), H, n))) (f := fun q => runOps P (Call P) ops n0 l (i + 1) q.1 q.2.1 q.2.2)
      (g := fun k => guardSel ops t o (exec1 P (acall P k) o (n0 + i) t H n) (some (putO t o.dst (.tuple #[]), H, n))) (h := fun k q => runOps P (acall P k) ops n0 l (i + 1) q.1 q.2.1 q.2.2)
      (fun k => guardSel_le _ _ _ (exec1_le (acall_step P k) ..) (Le.refl _)) (fun k q => runOps_le (acall_step P k) ..) (fun a ha => guardSel_cont _ _ _ (fun r hr => exec1_cont _ _ _ _ _ _ hr) ha) (fun q r hr => ih _ _ _ _ _ hr) h
theorem ask_cont {α : Type} (p : Prop) {x : Option α} {g : Nat → Option α} {r : α} (hx : x = some r → ∃ k, g k = some r) (h : ask p x = some r) : ∃ k, ask p (g k) = some r := by
  unfold ask at h ⊢
  split at h
  · rename_i hp
    obtain ⟨k, hk⟩ := hx h
    exact ⟨k, by rw [if_pos hp]; exact hk⟩
  · cases h
theorem draw1_cont {P : Program} (m : Nat) (o : Oper) (i id : Nat) (q r : R5) (h : draw1 P (Call P) m o i id q = some r) : ∃ k, draw1 P (acall P k) m o i id q = some r := by
  unfold draw1 at h ⊢
  cases hl : loadOf o.op with
  | some p => rw [hl] at h; exact ⟨0, h⟩
  | none =>
    rw [hl] at h
    simp only at h ⊢
    simp only [Option.bind_eq_some_iff] at h
    obtain ⟨p, hp, hr⟩ := h
    obtain ⟨k, hk⟩ := exec1_cont _ _ _ _ _ _ hp
    exact ⟨k, by rw [hk, Option.bind_some]; exact hr⟩
theorem runDraw_cont {P : Program} (ops : List Oper) (b : List Nat) (n0 : Nat) : ∀ (l : List Oper) (i : Nat) (q r : R5), runDraw P (Call P) ops b n0 l i q = some r → ∃ k, runDraw P (acall P k) ops b n0 l i q = some r := by
  intro l
  induction l with
  | nil => intro i q r h; exact ⟨0, h⟩
  | cons o l ih =>
    intro i q r h
    exact bind_cont (x := guardSel ops q.t o (draw1 P (Call P) (b.getD i 0) o i (n0 + i) q) (some { q with t := putO q.t o.dst (.tuple #[]) })) (f := fun q => runDraw P (Call P) ops b n0 l (i + 1) q)
      (g := fun k => guardSel ops q.t o (draw1 P (acall P k) (b.getD i 0) o i (n0 + i) q) (some { q with t := putO q.t o.dst (.tuple #[]) })) (h := fun k q => runDraw P (acall P k) ops b n0 l (i + 1) q)
      (fun k => guardSel_le _ _ _ (draw1_le (acall_step P k) ..) (Le.refl _)) (fun k q => runDraw_le (acall_step P k) ..) (fun a ha => guardSel_cont _ _ _ (fun r hr => draw1_cont _ _ _ _ _ _ hr) ha) (fun q r hr => ih _ _ _ hr) h
theorem region_cont {P : Program} (ops : List Oper) (d : Bool) (t : Tm) (H : Hp) (n : Nat) (r : R3) (h : region P (Call P) ops d t H n = some r) : ∃ k, region P (acall P k) ops d t H n = some r := by
  unfold region at h ⊢
  split at h
  · rename_i h1
    simp only [h1, if_true]
    split at h
    · rename_i h2
      simp only [h2, if_true]
      split at h
      · rename_i h3
        simp only [h3, if_true]
        simp only [Option.bind_eq_some_iff] at h
        obtain ⟨q, hq, hr⟩ := h
        obtain ⟨k, hk⟩ := runDraw_cont _ _ _ _ _ _ _ hq
        exact ⟨k, by rw [hk, Option.bind_some]; exact hr⟩
      · cases h
    · rename_i h2
      simp only [h2]
      exact runOps_cont _ _ _ _ _ _ _ _ h
  · cases h

theorem code_cont {P : Program} (c : Code) : ∀ (t : Tm) (H : Hp) (n : Nat) (o : Out), code P (Call P) Loop c t H n = some o → ∃ k, appr P k c t H n = some o := by
  induction c with
  | region id ops d =>
    intro t H n o h
    simp only [code, Option.bind_eq_some_iff] at h
    obtain ⟨q, hq, hr⟩ := h
    obtain ⟨k, hk⟩ := region_cont _ _ _ _ _ _ hq
    exact ⟨k, by unfold appr; simp only [code]; rw [hk, Option.bind_some]; exact hr⟩
  | seq a b iha ihb =>
    intro t H n o h
    have := bind_cont (g := fun k => appr P k a t H n) (h := fun k o => thenO o (appr P k b)) (fun k => appr_step P a k t H n) (fun k o => thenO_le o (appr_step P b k)) (fun a ha => iha _ _ _ _ ha)
      (fun o r hr => by
        unfold thenO at hr ⊢
        split at hr
        · exact ihb _ _ _ _ hr
        · exact ⟨0, hr⟩) h
    exact this
  | cond c x y ihx ihy =>
    intro t H n o h
    simp only [code, csel] at h
    unfold appr
    simp only [code, csel]
    split at h
    · split at h
      · rename_i hb
        obtain ⟨k, hk⟩ := ihx _ _ _ _ h
        exact ⟨k, by rw [if_pos hb]; exact hk⟩
      · rename_i hb
        obtain ⟨k, hk⟩ := ihy _ _ _ _ h
        exact ⟨k, by rw [if_neg hb]; exact hk⟩
    · cases h
  | block id c ih =>
    intro t H n o h
    simp only [code, Option.bind_eq_some_iff] at h
    obtain ⟨q, hq, hr⟩ := h
    obtain ⟨k, hk⟩ := ih _ _ _ _ hq
    exact ⟨k, by unfold appr at hk ⊢; simp only [code]; rw [hk, Option.bind_some]; exact hr⟩
  | loop c ih =>
    intro t H n o h
    simp only [code] at h
    obtain ⟨k, hk⟩ := Loop_some.1 h
    clear h
    induction k generalizing t H n with
    | zero => cases hk
    | succ k ihk =>
      simp only [iter, Option.bind_eq_some_iff] at hk
      obtain ⟨o1, h1, h2⟩ := hk
      obtain ⟨j, hj⟩ := ih _ _ _ _ h1
      unfold thenO at h2
      split at h2
      · rename_i he
        obtain ⟨m, hm⟩ := ihk _ _ _ h2
        refine ⟨max j m + 1, ?_⟩
        have e1 := (mono_of (fun k => appr_step P c k t H n) (Nat.le_succ_of_le (Nat.le_max_left j m))).to _ hj
        have e2 : appr P (max j m) (.loop c) o1.t o1.H o1.n = some o := (mono_of (fun k => appr_step P (.loop c) k o1.t o1.H o1.n) (Nat.le_max_right j m)).to _ hm
        unfold appr at e1 e2 ⊢
        simp only [code] at e2 ⊢
        show (code P _ _ c t H n).bind (fun o => thenO o (iter (max j m) _)) = some o
        rw [e1, Option.bind_some]
        unfold thenO
        rw [he]
        exact (iter_le _ _ _ (code_le (acall_step P _) (iter_step _) c) _ _ _).to _ e2
      · rename_i he
        cases h2
        refine ⟨j + 1, ?_⟩
        have e1 := (appr_step P c j t H n).to _ hj
        unfold appr at e1 ⊢
        simp only [code]
        show (code P _ _ c t H n).bind (fun o => thenO o (iter j _)) = some o
        rw [e1, Option.bind_some]
        unfold thenO
        split
        · rename_i he'; exact absurd he' he
        · rfl
  | _ => intro t H n o h; exact ⟨0, h⟩

/-- A call is its body, in the end. -/
theorem Call_eq {P : Program} {f : Nat} {fn : Func} (hf : P.funcs[f]? = some fn) (args : List Value) (H : Hp) (n : Nat) : Call P f args H n = body P (Call P) Loop fn args H n := by
  refine Le.antisymm ?_ ?_
  · refine lim_le (fun k => acall_step P k f args H n) fun k => ?_
    cases k with
    | zero => exact Le.none _
    | succ k =>
      show Le (match P.funcs[f]? with | some fn => body P (acall P k) (iter k) fn args H n | none => none) _
      rw [hf]
      exact body_le (acall_Call P k) (iter_Loop k) ..
  · refine ⟨fun r hr => ?_⟩
    unfold body at hr
    split at hr
    · cases hr
    · rename_i c hc
      split at hr
      · rename_i hok
        simp only [Option.bind_eq_some_iff] at hr
        obtain ⟨o, ho, hfin⟩ := hr
        obtain ⟨k, hk⟩ := code_cont _ _ _ _ _ ho
        refine Call_some.2 ⟨k + 1, ?_⟩
        show (match P.funcs[f]? with | some fn => body P (acall P k) (iter k) fn args H n | none => none) = some r
        rw [hf]
        simp only
        unfold body
        rw [hc]
        simp only
        rw [if_pos hok]
        unfold appr at hk
        rw [hk]
        exact hfin
      · cases hr

/-- A call is its body, told with what follows handed on. -/
theorem Call_body {P : Program} {f : Nat} {fn : Func} (hf : P.funcs[f]? = some fn) (args : List Value) (H : Hp) (n : Nat) : Call P f args H n = bodyK P (Call P) Loop fn (argsT args) H n := by
  rw [Call_eq hf, bodyK_eq P _ _ Loop_ok]

end Go.Proofs.Ytdnokdgkccnbnaa.Ax
