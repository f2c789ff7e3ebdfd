/- FnExactPrimArgs returns true for every whole number; there is no condition. -/
import Derived.Test.YtebmbjkikibjfaaPFnExactPrimArgsx1
namespace Go.Proofs.Ytebmbjkikibjfaa.Pure
open Go.RowKit Go.Proofs.Ytebmbjkikibjfaa.PFnExactPrimArgs Go.Proofs.YtebmbjkikibjfaaW.PrintWords Go.Proofs.YtebmbjkikibjfaaW.PrintLast

theorem FnExactPrimArgs : laws_FnExactPrimArgs.Pure := by
  intro a h
  by_cases h1 : 1 ≤ a
  · by_cases h2 : a ≤ 19
    · have e : wrap64 (a - 1) = a - 1 := by unfold wrap64; omega
      simp only [laws_FnExactPrimArgs.f, spec_PrimArgs.f, impl_PrimArgs.f, spec_l1In.f, impl_within.f, e]
      clear e
      obtain ⟨n, rfl⟩ := Int.eq_ofNat_of_zero_le (by omega : 0 ≤ a)
      have : n = 1 ∨ n = 2 ∨ n = 3 ∨ n = 4 ∨ n = 5 ∨ n = 6 ∨ n = 7 ∨ n = 8 ∨ n = 9 ∨ n = 10 ∨ n = 11 ∨ n = 12 ∨ n = 13 ∨ n = 14 ∨ n = 15 ∨ n = 16 ∨ n = 17 ∨ n = 18 ∨ n = 19 := by omega
      rcases this with rfl | rfl | rfl | rfl | rfl | rfl | rfl | rfl | rfl | rfl | rfl | rfl | rfl | rfl | rfl | rfl | rfl | rfl | rfl <;> rfl
    · simp [laws_FnExactPrimArgs.f, spec_PrimArgs.f, impl_PrimArgs.f, spec_l1In.f, impl_within.f, h1, h2]
  · simp [laws_FnExactPrimArgs.f, spec_PrimArgs.f, impl_PrimArgs.f, spec_l1In.f, impl_within.f, h1]

end Go.Proofs.Ytebmbjkikibjfaa.Pure
