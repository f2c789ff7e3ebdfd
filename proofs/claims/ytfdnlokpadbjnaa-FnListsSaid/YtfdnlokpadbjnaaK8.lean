/- Contracts: pools, copied, compared and weighed. -/
import Derived.Test.YtfdnlokpadbjnaaAy6
import Derived.Test.YtfdnlokpadbjnaaSh
set_option linter.unusedVariables false
set_option linter.unusedSimpArgs false
namespace Go.Proofs.Ytfdnlokpadbjnaa.Ax
open Go
/-- What a weighed list of nodes is. -/
def Light (l : List Nd) (left r : Int) : Prop := -1 ≤ r ∧ r ≤ left ∧ (0 ≤ r → (l.length : Int) ≤ left ∧ ∀ x ∈ l, (x.s.size : Int) ≤ left)
end Go.Proofs.Ytfdnlokpadbjnaa.Ax
