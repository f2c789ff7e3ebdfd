/- Contracts: marks, numbers copied and compared. -/
import Derived.Test.YtfdnlokpadbjnaaAy7
import Derived.Test.YtfdnlokpadbjnaaK8
set_option linter.unusedVariables false
set_option linter.unusedSimpArgs false
namespace Go.Proofs.Ytfdnlokpadbjnaa.Ax
open Go
def mAcc : Nat → Int → ByteArray → ByteArray
  | 0, _, acc => acc
  | f + 1, k, acc => if 0 < k then mAcc f (k.tdiv 10) (strOf [IntKind.u8.wrap (48 + k.tmod 10)] ++ acc) else acc
/-- A mark's text. -/
def mText (k : Int) : ByteArray := if k ≤ 0 then ⟨#[109, 48]⟩ else ⟨#[109]⟩ ++ mAcc k.toNat k ⟨#[]⟩
theorem tdiv10 {k : Int} (h : 0 < k) : 0 ≤ k.tdiv 10 ∧ k.tdiv 10 < k := by
  rw [Int.tdiv_eq_ediv_of_nonneg (by omega)]; omega
theorem tmod10 {k : Int} (h : 0 ≤ k) : 0 ≤ k.tmod 10 ∧ k.tmod 10 < 10 := by
  rw [Int.tmod_eq_emod_of_nonneg (by omega)]; omega
/-! ### Numbers -/
theorem set_next {α : Type} {l : List α} {j d : Nat} {z : α} (h : j < l.length) : (l.take j ++ List.replicate (d + 1) z).set j l[j] = l.take (j + 1) ++ List.replicate d z := by
  rw [take_next h, List.replicate_succ, List.set_append_right _ _ (by rw [List.length_take]; omega), List.length_take, Nat.min_eq_left (by omega), Nat.sub_self, List.set_cons_zero, List.append_assoc]
  rfl
end Go.Proofs.Ytfdnlokpadbjnaa.Ax
