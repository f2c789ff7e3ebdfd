/- Contracts: a value written as a text, by the reference. -/
import Derived.Test.YtdnokdgkccnbnaaK48
set_option linter.unusedVariables false
set_option linter.unusedSimpArgs false
set_option maxHeartbeats 4000000
namespace Go.Proofs.Ytdnokdgkccnbnaa.Ax
open Go
theorem txT_leaf2 {l : List Nd} {x : Int} (h5 : (gi l x).k ≠ 5) (h1 : (gi l x).k ≠ 1) : txT l x = leafT (gi l x) := by
  rw [txT, brT, if_neg (by omega), inT_leaf h5]
theorem nums_lit2 (a : ByteArray) (s : List Int) (h : ∀ x ∈ s, 0 ≤ x ∧ x < 256) : numsOf (a ++ strOf s) = numsOf a ++ s := by rw [nums_app, nums_str h]
theorem decOf_byte2 (x : Int) : ∀ y ∈ decOf x, 0 ≤ y ∧ y < 256 := fun y hy => by have := decOf_rng x y hy; omega
theorem decOf_sz2 {x : Int} (h : -1000000000 ≤ x ∧ x ≤ 1000000000) : (strOf (decOf x)).size ≤ 11 := by rw [strOf_size]; exact decOf_len h
theorem sz_app (a b : ByteArray) : (a ++ b).size = a.size + b.size := ByteArray.size_append
def wTextS (l : List Nd) (x : Int) : ByteArray := strOf (wText l x)
theorem numsOf_nil : numsOf ⟨#[]⟩ = [] := rfl
theorem wTextS_bad {l : List Nd} {x : Int} (h : ¬ (PoolOk l ∧ 0 ≤ x ∧ x < (l.length : Int))) : wTextS l x = ⟨#[]⟩ := by unfold wTextS wText; rw [if_neg h]; rfl
theorem wTextS_cut {l : List Nd} {x : Int} (h : PoolOk l ∧ 0 ≤ x ∧ x < (l.length : Int)) {o : List Int} (hc : Cut [] (txT l x) o) : (¬ 400 < o.length → wTextS l x = strOf o) ∧ (400 < o.length → wTextS l x = ⟨#[]⟩) := by
  have he := hc.eq
  unfold wTextS wText
  rw [if_pos h, ← he]
  exact ⟨fun h1 => by rw [if_pos (by omega)], fun h1 => by rw [if_neg (by omega)]; rfl⟩
end Go.Proofs.Ytdnokdgkccnbnaa.Ax
