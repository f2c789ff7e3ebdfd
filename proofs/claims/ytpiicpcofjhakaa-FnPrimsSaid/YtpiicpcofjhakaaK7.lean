/- Contracts: what is built in. -/
import Derived.Test.YtpiicpcofjhakaaK5
import Derived.Test.YtpiicpcofjhakaaK1
set_option linter.unusedVariables false
set_option linter.unusedSimpArgs false
namespace Go.Proofs.Ytpiicpcofjhakaa.Ax
open Go
def pNames : List ByteArray := [⟨#[43]⟩, ⟨#[45]⟩, ⟨#[42]⟩, ⟨#[60]⟩, ⟨#[61]⟩, ⟨#[99, 111, 110, 115]⟩, ⟨#[99, 97, 114]⟩, ⟨#[99, 100, 114]⟩, ⟨#[110, 117, 108, 108, 63]⟩, ⟨#[112, 97, 105, 114, 63]⟩, ⟨#[101, 113, 63]⟩, ⟨#[110, 111, 116]⟩, ⟨#[112, 114, 105, 110, 116]⟩, ⟨#[115, 101, 108, 102]⟩, ⟨#[115, 101, 110, 100]⟩, ⟨#[114, 101, 99, 118]⟩, ⟨#[115, 112, 97, 119, 110]⟩, ⟨#[99, 97, 108, 108, 99, 99]⟩, ⟨#[103, 111]⟩]
def pArgs : List Int := [2, 2, 2, 2, 2, 2, 1, 1, 1, 1, 2, 1, 1, 0, 2, 0, 1, 1, 1]
def primName (k : Int) : ByteArray := if 1 ≤ k ∧ k ≤ 19 then gi pNames (k - 1) else ⟨#[]⟩
def primArgs (k : Int) : Int := if 1 ≤ k ∧ k ≤ 19 then gi pArgs (k - 1) else -1
/-- Where a text stands first. -/
def fIdx (s : ByteArray) : List ByteArray → Nat → Option Nat
  | [], _ => none
  | x :: l, j => if s = x then some j else fIdx s l (j + 1)
theorem fIdx_succ (s : ByteArray) : ∀ (l : List ByteArray) (j : Nat), fIdx s l (j + 1) = (fIdx s l j).map (· + 1)
  | [], _ => rfl
  | x :: l, j => by
    unfold fIdx
    by_cases h : s = x
    · rw [if_pos h, if_pos h]; rfl
    · rw [if_neg h, if_neg h, fIdx_succ s l (j + 1)]
theorem fIdx_some {s : ByteArray} : ∀ {l : List ByteArray} {j k : Nat}, fIdx s l j = some k → j ≤ k ∧ k < j + l.length ∧ l.getD (k - j) default = s
  | [], _, _, h => by cases h
  | x :: l, j, k, h => by
    unfold fIdx at h
    by_cases he : s = x
    · rw [if_pos he] at h
      cases h
      exact ⟨Nat.le_refl _, by simp, by simp [he]⟩
    · rw [if_neg he] at h
      obtain ⟨h1, h2, h3⟩ := fIdx_some h
      refine ⟨by omega, by simp only [List.length_cons]; omega, ?_⟩
      rw [show k - j = (k - (j + 1)) + 1 by omega, List.getD_cons_succ]
      exact h3
def primOf (s : ByteArray) : Int := match fIdx s pNames 0 with | none => 0 | some k => (k : Int) + 1
theorem pNames_len : pNames.length = 19 := rfl
theorem pArgs_len : pArgs.length = 19 := rfl
theorem primOf_rng (s : ByteArray) : 0 ≤ primOf s ∧ primOf s ≤ 19 := by
  unfold primOf
  split
  · decide
  · rename_i k h
    have := fIdx_some h
    rw [pNames_len] at this
    omega
theorem primName_of {s : ByteArray} (h : 0 < primOf s) : primName (primOf s) = s := by
  have hr := primOf_rng s
  unfold primName
  rw [if_pos (by omega)]
  unfold primOf at *
  split at h
  · omega
  · rename_i k hk
    obtain ⟨h1, h2, h3⟩ := fIdx_some hk
    unfold gi
    rw [show ((k : Int) + 1 - 1).toNat = k by omega]
    exact h3
theorem primOf_name {k : Int} (h : 1 ≤ k ∧ k ≤ 19) : primOf (primName k) = k ∧ primName k ≠ ⟨#[]⟩ := by
  have key : ∀ j : Fin 19, primOf (pNames.getD j.val default) = (j.val : Int) + 1 ∧ pNames.getD j.val default ≠ ⟨#[]⟩ := by decide
  have := key ⟨(k - 1).toNat, by omega⟩
  unfold primName
  rw [if_pos h]
  unfold gi
  simp only at this
  rw [show (((k - 1).toNat : Nat) : Int) + 1 = k by omega] at this
  exact this
theorem primArgs_nn {k : Int} (h : 1 ≤ k ∧ k ≤ 19) : 0 ≤ primArgs k := by
  unfold primArgs
  rw [if_pos h]
  have key : ∀ x ∈ pArgs, 0 ≤ x := by decide
  exact key _ (gi_mem (by omega) (by rw [pArgs_len]; omega))
theorem k62 (k : Int) (hk : -9000000000000000000 ≤ k ∧ k ≤ 9000000000000000000) (H : Hp) (n : Nat) : Rt Try.prog 62 [.int .i64 k] H n (.int .i64 (primArgs k)) := by
  unfold Rt
  rw [c62]; unfold S62
  by_cases h : 1 ≤ k ∧ k ≤ 19
  · obtain ⟨e1, e2⟩ := bsl_new eInt (id := n + 4 + 10) (cnt := 19) (zero := [.int .i64 0]) (H := H) (parts := [(0, 1, .int .i64 2), (1, 1, .int .i64 2), (2, 1, .int .i64 2), (3, 1, .int .i64 2), (4, 1, .int .i64 2), (5, 1, .int .i64 2), (6, 1, .int .i64 1), (7, 1, .int .i64 1), (8, 1, .int .i64 1), (9, 1, .int .i64 1), (10, 1, .int .i64 2), (11, 1, .int .i64 1), (12, 1, .int .i64 1), (13, 1, .int .i64 0), (14, 1, .int .i64 2), (15, 1, .int .i64 0), (16, 1, .int .i64 1), (17, 1, .int .i64 1), (18, 1, .int .i64 1)]) pArgs (by decide) rfl rfl
    have hw : IntKind.i64.wrap (k - 1) = k - 1 := w64 (by omega)
    have g := (e2.lst (Nat.lt_succ_self _)).iAll (i := k - 1) (by omega) (by rw [pArgs_len]; omega)
    have hp : primArgs k = gi pArgs (k - 1) := if_pos h
    simp (disch := omega) only [↓reduceIte, ask_true, ↓X0, X1, Nat.reduceEqDiff, Int.reduceEq, Nat.reduceAdd, Nat.reduceSub, k51, h, and_self, e1, hw, g, hp]
    exact ⟨_, _, by omega, (Same.refl _ _).set (by omega) _, rfl⟩
  · have hp : primArgs k = -1 := if_neg h
    simp (disch := omega) only [↓reduceIte, ask_true, ↓X0, X1, Nat.reduceEqDiff, Int.reduceEq, Nat.reduceAdd, Nat.reduceSub, k51, h, hp]
    exact ⟨_, _, by omega, Same.refl _ _, rfl⟩
theorem k60 (k : Int) (hk : -9000000000000000000 ≤ k ∧ k ≤ 9000000000000000000) (H : Hp) (n : Nat) : Rt Try.prog 60 [.int .i64 k] H n (.int .i64 (primArgs k)) := by
  unfold Rt
  rw [c60]; unfold S60
  by_cases h : 1 ≤ k ∧ k ≤ 19
  · obtain ⟨e1, e2⟩ := bsl_new eInt (id := n + 4 + 10) (cnt := 20) (zero := [.int .i64 0]) (H := H) (parts := [(0, 1, .int .i64 0), (1, 1, .int .i64 2), (2, 1, .int .i64 2), (3, 1, .int .i64 2), (4, 1, .int .i64 2), (5, 1, .int .i64 2), (6, 1, .int .i64 2), (7, 1, .int .i64 1), (8, 1, .int .i64 1), (9, 1, .int .i64 1), (10, 1, .int .i64 1), (11, 1, .int .i64 2), (12, 1, .int .i64 1), (13, 1, .int .i64 1), (14, 1, .int .i64 0), (15, 1, .int .i64 2), (16, 1, .int .i64 0), (17, 1, .int .i64 1), (18, 1, .int .i64 1), (19, 1, .int .i64 1)]) (0 :: pArgs) (by decide) rfl rfl
    have g := (e2.lst (Nat.lt_succ_self _)).iAll (i := k) (by omega) (by rw [List.length_cons, pArgs_len]; omega)
    have hp : primArgs k = gi (0 :: pArgs) k := by
      unfold primArgs gi
      rw [if_pos h]
      rw [show k.toNat = (k - 1).toNat + 1 by omega, List.getD_cons_succ]
    simp (disch := omega) only [↓reduceIte, ask_true, ↓X0, X1, Nat.reduceEqDiff, Int.reduceEq, Nat.reduceAdd, Nat.reduceSub, k45, h, and_self, e1, g, hp]
    exact ⟨_, _, by omega, (Same.refl _ _).set (by omega) _, rfl⟩
  · have hp : primArgs k = -1 := if_neg h
    simp (disch := omega) only [↓reduceIte, ask_true, ↓X0, X1, Nat.reduceEqDiff, Int.reduceEq, Nat.reduceAdd, Nat.reduceSub, k45, h, hp]
    exact ⟨_, _, by omega, Same.refl _ _, rfl⟩
end Go.Proofs.Ytpiicpcofjhakaa.Ax
