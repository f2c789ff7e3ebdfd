/- Contracts: nodes that are moved into another pool; Keep, Copy. -/
import Derived.Test.YtcjbaidcmidijaaK19
set_option linter.unusedVariables false
set_option linter.unusedSimpArgs false
set_option maxHeartbeats 4000000
namespace Go.Proofs.Ytcjbaidcmidijaa.Ax
open Go
theorem set_get {cs : List Value} {o : Nat} {v : Value} (h : cs[o]? = some v) : cs.set o v = cs := by
  apply List.ext_getElem?
  intro k
  rw [List.getElem?_set]
  split
  · rename_i hk; subst hk; rw [if_pos (lt_get h)]; exact h.symm
  · rfl
end Go.Proofs.Ytcjbaidcmidijaa.Ax
