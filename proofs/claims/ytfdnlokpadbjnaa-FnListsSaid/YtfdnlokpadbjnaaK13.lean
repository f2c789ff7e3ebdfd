/- Contracts: marks of nodes. -/
import Derived.Test.YtfdnlokpadbjnaaAy7
import Derived.Test.YtfdnlokpadbjnaaK12
set_option linter.unusedVariables false
set_option linter.unusedSimpArgs false
namespace Go.Proofs.Ytfdnlokpadbjnaa.Ax
open Go
/-- A marked node. -/
def nMark (k : Int) (i : Nat) : Nd := ⟨k + 5 * i, k + 5 * i + 1, mText (k + 5 * i + 2), k + 5 * i + 3, k + 5 * i + 4⟩
theorem st_fc {α : Type} {E : Enc α} {id : Nat} {H : Hp} {l : List α} (h : H id = some (.row (l.flatMap E.cells) E.sz true)) {j f : Nat} (hj : j < l.length) (hf : f < E.sz) {y : α} {c : Value} (h1 : cell1 c = true) (hy : E.cells y = setAt (E.cells l[j]) f [c]) : st false 1 (ptr id (j * E.sz + f)) c H = some (H.set id (some (.row ((l.set j y).flatMap E.cells) E.sz true))) := by
  rw [st_c h1]; exact st_fld h hj hf hy
end Go.Proofs.Ytfdnlokpadbjnaa.Ax
