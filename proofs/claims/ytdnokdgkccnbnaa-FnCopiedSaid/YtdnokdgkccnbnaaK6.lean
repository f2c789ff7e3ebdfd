/- Contracts: numbers, texts and names that are drawn; names that are built in. -/
import Derived.Test.YtdnokdgkccnbnaaK5
import Derived.Test.YtdnokdgkccnbnaaK1
set_option linter.unusedVariables false
set_option linter.unusedSimpArgs false
namespace Go.Proofs.Ytdnokdgkccnbnaa.Ax
open Go
theorem k14 {n : Nat} {H : Hp} {v : Value} {l : List Int} (hv : Li eByte n H v l) : Call Try.prog 14 [v] H n = some (.bool (decide (1048576 < l.length)), H, n + 5) := by
  rw [c14]; unfold S14
  simp (disch := omega) only [↓reduceIte, ask_true, ↓X0, X1, Nat.reduceEqDiff, Int.reduceEq, Nat.reduceAdd, Nat.reduceSub, hv.len]
  simp only [nats_lt (j := 1048576), show ((1048576 : Int) = ((1048576 : Nat) : Int)) from rfl]
end Go.Proofs.Ytdnokdgkccnbnaa.Ax
