/- Contracts: pools, copied, compared and weighed. -/
import Derived.Test.YtdnokdgkccnbnaaAy6
import Derived.Test.YtdnokdgkccnbnaaSh
set_option linter.unusedVariables false
set_option linter.unusedSimpArgs false
namespace Go.Proofs.Ytdnokdgkccnbnaa.Ax
open Go
/-- What a weighed list of nodes is. -/
def Light (l : List Nd) (left r : Int) : Prop := -1 ≤ r ∧ r ≤ left ∧ (0 ≤ r → (l.length : Int) ≤ left ∧ ∀ x ∈ l, (x.s.size : Int) ≤ left)
end Go.Proofs.Ytdnokdgkccnbnaa.Ax
