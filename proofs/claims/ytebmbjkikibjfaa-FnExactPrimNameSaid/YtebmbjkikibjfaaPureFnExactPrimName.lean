/- FnExactPrimName returns true for every whole number; there is no condition. -/
import Derived.Test.YtebmbjkikibjfaaPFnExactPrimNamex1
namespace Go.Proofs.Ytebmbjkikibjfaa.Pure
open Go.RowKit Go.Proofs.Ytebmbjkikibjfaa.PFnExactPrimName Go.Proofs.YtebmbjkikibjfaaW.PrintWords Go.Proofs.YtebmbjkikibjfaaW.PrintLast

theorem alike (a : Int) (h1 : 1 ≤ a) (h2 : a ≤ 19) : ∃ x, spec_PrimName.f a = some x ∧ impl_PrimName.f a = some x := by
  have e : wrap64 (a - 1) = a - 1 := by unfold wrap64; omega
  simp only [spec_PrimName.f, impl_PrimName.f, spec_l1In.f, impl_within.f, e]
  clear e
  obtain ⟨n, rfl⟩ := Int.eq_ofNat_of_zero_le (by omega : 0 ≤ a)
  have : n = 1 ∨ n = 2 ∨ n = 3 ∨ n = 4 ∨ n = 5 ∨ n = 6 ∨ n = 7 ∨ n = 8 ∨ n = 9 ∨ n = 10 ∨ n = 11 ∨ n = 12 ∨ n = 13 ∨ n = 14 ∨ n = 15 ∨ n = 16 ∨ n = 17 ∨ n = 18 ∨ n = 19 := by omega
  rcases this with rfl | rfl | rfl | rfl | rfl | rfl | rfl | rfl | rfl | rfl | rfl | rfl | rfl | rfl | rfl | rfl | rfl | rfl | rfl <;> exact ⟨_, rfl, rfl⟩

theorem FnExactPrimName : laws_FnExactPrimName.Pure := by
  intro a h
  by_cases h1 : 1 ≤ a
  · by_cases h2 : a ≤ 19
    · obtain ⟨x, e1, e2⟩ := alike a h1 h2
      unfold laws_FnExactPrimName.f
      rw [e1, e2]
      simp
    · simp [laws_FnExactPrimName.f, spec_PrimName.f, impl_PrimName.f, spec_l1In.f, impl_within.f, h1, h2]
  · simp [laws_FnExactPrimName.f, spec_PrimName.f, impl_PrimName.f, spec_l1In.f, impl_within.f, h1]

end Go.Proofs.Ytebmbjkikibjfaa.Pure
