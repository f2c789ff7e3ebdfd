/- From the abstract machine's answer to the model's call, where nothing is handed in that lies in memory. -/
import Derived.Test.YtdnokdgkccnbnaaAx18
import Derived.Below
set_option linter.unusedSimpArgs false
set_option linter.unusedVariables false
namespace Go.Proofs.Ytdnokdgkccnbnaa.Ax
open Go Go.RowKit

theorem HR.none (G : Gh) (w : World) : HR G (fun _ => Option.none) w := ⟨fun i o g h => (by cases h), fun i j oi oj gi gj _ h => (by cases h)⟩

theorem scalar_walk {P : Program} (hm : P.follows .mixedOrders = true) {f : Nat} {args : List Value} (hg : args.all gnd1 = true) {b : Bool} {H : Hp} {n : Nat} (h : Call P f args (fun _ => none) 0 = some (.bool b, H, n)) (W : World) :
    Calls P f ⟨args⟩ W fun e W' => e = .returned (.bool b) ∧ Below W.heap.size W W' := by
  refine Calls.mono (Call_sim hm h (G := fun _ => none) (All2.refl_of fun x hx => .sr (gnd1_sr (List.all_eq_true.1 hg x hx))) (HR.none _ W) (fun i _ => ⟨rfl, rfl⟩)) ?_
  rintro e W' ⟨v', G', rfl, hv, _, hp⟩
  refine ⟨by rw [hv.boolS], hp.fr.os, hp.fr.tape, hp.fr.output, hp.fr.size, fun k hk => hp.fr.same k hk ?_⟩
  rintro ⟨i, o, g, hi, _⟩
  cases hi

end Go.Proofs.Ytdnokdgkccnbnaa.Ax
