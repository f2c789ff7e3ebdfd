/- Contracts: what is drawn beside a pool. -/
import Derived.Test.YtdnokdgkccnbnaaK25
import Derived.Test.YtdnokdgkccnbnaaK6
set_option linter.unusedVariables false
set_option linter.unusedSimpArgs false
set_option maxHeartbeats 4000000
namespace Go.Proofs.Ytdnokdgkccnbnaa.Ax
open Go
theorem Wp.rnew {P : Program} {f : Nat} {args : List Value} {H : Hp} {n : Nat} {β : Type} {g : Value × Hp × Nat → Option β} {Q : β → Prop} (h : ∃ c H' n', n ≤ c ∧ Same n H H' ∧ Cu c n' H' ∧ Call P f args H n = some (ptr c 0, H', n')) (k : ∀ c H' n', n ≤ c → c < n' → (∀ i, i < n → H' i = H i) → Cu c n' H' → Wp (g (ptr c 0, H', n')) Q) : Wp ((Call P f args H n).bind g) Q := by
  obtain ⟨c, H', n', h1, h2, h3, h4⟩ := h
  rw [h4]; exact k c H' n' h1 h3.1 h2 h3
theorem Cu.hi {c n : Nat} {H : Hp} (h : Cu c n H) : c < n := h.1
end Go.Proofs.Ytdnokdgkccnbnaa.Ax
