/- FnExactPrimOf returns true for every text; there is no condition. -/
import Derived.Test.YtebmbjkikibjfaaPFnExactPrimOfx1
namespace Go.Proofs.Ytebmbjkikibjfaa.Pure
open Go.RowKit Go.Proofs.Ytebmbjkikibjfaa.PFnExactPrimOf Go.Proofs.YtebmbjkikibjfaaW.PrintWords Go.Proofs.YtebmbjkikibjfaaW.PrintLast

theorem step_spec (k : Nat) (s : ByteArray) (l : List ByteArray) (i : Int) (h0 : 0 ≤ i) (h1 : i ≤ 19) (h2 : i < l.length) :
    spec_PrimOf.l0 (k + 1) s l i = if (rdOf ByteArray.empty l i).toList = s.toList then some i else spec_PrimOf.l0 k s l (i + 1) := by
  have e : wrap64 (i + 1) = i + 1 := by unfold wrap64; omega
  simp only [spec_PrimOf.l0]; rw [if_pos h1, if_pos h0, if_pos h2, e]
theorem step_impl (k : Nat) (s : ByteArray) (l : List ByteArray) (n i : Int) (h0 : 0 ≤ i) (h1 : i < n) (h2 : i < l.length) (h3 : n ≤ 100) :
    slices_Index_string_string.l0 (k + 1) l s n i = if s.toList = (rdOf ByteArray.empty l i).toList then some i else slices_Index_string_string.l0 k l s n (i + 1) := by
  have e : wrap64 (i + 1) = i + 1 := by unfold wrap64; omega
  simp only [slices_Index_string_string.l0]; rw [if_pos h1, if_pos h0, if_pos h2, e]

theorem both (s : ByteArray) (d0 : ByteArray) (l : List ByteArray) (hl : l.length = 19) (d : Nat) : ∀ (i : Nat) (k : Nat), i + d = 19 → d < k →
    ∃ r, spec_PrimOf.l0 k s (d0 :: l) (i + 1) = some (r + 1) ∧ slices_Index_string_string.l0 k l s 19 i = some r ∧ - 1 ≤ r ∧ r ≤ 19 := by
  induction d with
  | zero =>
    intro i k hi hk
    obtain ⟨k, rfl⟩ : ∃ m, k = m + 1 := ⟨k - 1, by omega⟩
    refine ⟨-1, ?_, ?_, by omega, by omega⟩
    · simp only [spec_PrimOf.l0]; rw [if_neg (by omega)]; rfl
    · simp only [slices_Index_string_string.l0]; rw [if_neg (by omega)]
  | succ d ih =>
    intro i k hi hk
    obtain ⟨k, rfl⟩ : ∃ m, k = m + 1 := ⟨k - 1, by omega⟩
    obtain ⟨r, hr1, hr2, hr3, hr4⟩ := ih (i + 1) k (by omega) (by omega)
    rw [step_spec k s (d0 :: l) _ (by omega) (by omega) (by simp; omega), step_impl k s l _ _ (by omega) (by omega) (by omega) (by omega)]
    have e : rdOf ByteArray.empty (d0 :: l) ((i : Int) + 1) = rdOf ByteArray.empty l (i : Int) := by
      unfold rdOf
      rw [show ((i : Int) + 1).toNat = i + 1 from by omega, show ((i : Int)).toNat = i from by omega]
      rfl
    rw [e]
    by_cases hs : s.toList = (rdOf ByteArray.empty l (i : Int)).toList
    · rw [if_pos hs.symm, if_pos hs]; exact ⟨i, rfl, rfl, by omega, by omega⟩
    · rw [if_neg (fun h => hs h.symm), if_neg hs]; exact ⟨r, by simpa using hr1, by simpa using hr2, hr3, hr4⟩

theorem FnExactPrimOf : laws_FnExactPrimOf.Pure := by
  intro s h
  refine ⟨20, ?_⟩
  unfold laws_FnExactPrimOf.f
  split
  · rfl
  · obtain ⟨r, h1, h2, h3, h4⟩ := both s (⟨#[]⟩ : ByteArray) _ (by rfl : (impl_primNames.f.getD []).length = 19) 19 0 20 rfl (by omega)
    have e1 : spec_PrimOf.f 20 s = some (r + 1) := h1
    have e2 : impl_PrimOf.f 20 s = some (r + 1) := by
      show (slices_Index_string_string.l0 20 (impl_primNames.f.getD []) s 19 0).bind _ = _
      rw [show (0 : Int) = ((0 : Nat) : Int) from rfl, h2]
      show some (wrap64 (r + 1)) = _
      congr 1
      unfold wrap64; omega
    rw [e1, e2]
    simp

end Go.Proofs.Ytebmbjkikibjfaa.Pure
