/-
  No cell of these rows narrows 'for every input' (looked for: loops, veiled, ifaces, maps, wideKeys, modest, calm, conditions, laid).
  DERIVED. THE GIVEN ROWS OF THIS SEAT. 6 by the template 'for every input the law returns true; each argument reads behind the call as it read before'; 0 by the template 'total and deterministic' (their statements: YtpiicpcofjhakaaTotals.lean).
  GIVEN WITH THE SEED: the statements are not yours to turn. If you find one false, say at which input.
  Laid BY PROGRAM, IN A SANDBOX (cutbox-rows.mjs): the forced cells as the released guide's own fill.sh prints them over the translation 7295f98772727ec6… (all of the seat's roots in one cut). By AI agents, Wed Nov 11 2026. No macro, syntax, notation, axiom, sorry.
-/
import Derived.Test.YtpiicpcofjhakaaChecked
import GoSem.Claim
import GoSem.ClaimJoined
import GoSem.ClaimMapViews
import Derived.JoinedTies
import Derived.KernelRfl
namespace Go.Proofs.Ytpiicpcofjhakaa
/- THE CELL 'sum', in the pinned program and in every row, IS THE sha256 OF THE DUMP (.gsa) THAT YtpiicpcofjhakaaProg.lean LOADS. Nothing in Lean hashes anything: it is a label: what it is worth is what the hold of that sum in a sandbox is worth. -/
noncomputable def Try.pinned : Pinned := { name := "ytpiicpcofjhakaa", sum := "7295f98772727ec6ef4c3d9b71024431a883f93f594e66f277d6afef2274c620", checked := Try.checked }
namespace Rows
def none {H : Type} : Left H := { results := [], args := [] }

/-- 'laws.FnExactCodeOk': WHATEVER THE INPUT: true; the input reads as it did. -/
def fnExactCodeOkSpec : ChangeSpec := { name := "fnExactCodeOk", fn := fun _ => fun
  | [d] => { results := [.lit (.bool true)], args := [d] }
  | _ => none }
def fnExactCodeOkRow : OpenClaim := { program := "ytpiicpcofjhakaa", sum := "7295f98772727ec6ef4c3d9b71024431a883f93f594e66f277d6afef2274c620", func := "loop.example/g00189/laws.FnExactCodeOk", spec := "fnExactCodeOk", unfollowed := true, recurses := true, plainKeys := false, apart := false }
def FnExactCodeOkSaid : Prop := fnExactCodeOkRow.holds Try.pinned (OpenSpec.ofChange fnExactCodeOkSpec)

/-- ITS FALSE NEIGHBOUR: 'it returns false'. Refute it at one input. -/
def fnExactCodeOkWrong : ChangeSpec := { name := "fnExactCodeOk", fn := fun _ => fun
  | [d] => { results := [.lit (.bool false)], args := [d] }
  | _ => none }
def FnExactCodeOkWrongFalsely : Prop := fnExactCodeOkRow.holds Try.pinned (OpenSpec.ofChange fnExactCodeOkWrong)

/-- 'laws.FnPrims': WHATEVER THE INPUT: true; the input reads as it did. -/
def fnPrimsSpec : ChangeSpec := { name := "fnPrims", fn := fun _ => fun
  | [d] => { results := [.lit (.bool true)], args := [d] }
  | _ => none }
def fnPrimsRow : OpenClaim := { program := "ytpiicpcofjhakaa", sum := "7295f98772727ec6ef4c3d9b71024431a883f93f594e66f277d6afef2274c620", func := "loop.example/g00189/laws.FnPrims", spec := "fnPrims", unfollowed := true, recurses := true, plainKeys := false, apart := false }
def FnPrimsSaid : Prop := fnPrimsRow.holds Try.pinned (OpenSpec.ofChange fnPrimsSpec)

/-- ITS FALSE NEIGHBOUR: 'it returns false'. Refute it at one input. -/
def fnPrimsWrong : ChangeSpec := { name := "fnPrims", fn := fun _ => fun
  | [d] => { results := [.lit (.bool false)], args := [d] }
  | _ => none }
def FnPrimsWrongFalsely : Prop := fnPrimsRow.holds Try.pinned (OpenSpec.ofChange fnPrimsWrong)

/-- 'laws.FnExactTidy': WHATEVER THE INPUT: true; the input reads as it did. -/
def fnExactTidySpec : ChangeSpec := { name := "fnExactTidy", fn := fun _ => fun
  | [d] => { results := [.lit (.bool true)], args := [d] }
  | _ => none }
def fnExactTidyRow : OpenClaim := { program := "ytpiicpcofjhakaa", sum := "7295f98772727ec6ef4c3d9b71024431a883f93f594e66f277d6afef2274c620", func := "loop.example/g00189/laws.FnExactTidy", spec := "fnExactTidy", unfollowed := true, recurses := true, plainKeys := false, apart := false }
def FnExactTidySaid : Prop := fnExactTidyRow.holds Try.pinned (OpenSpec.ofChange fnExactTidySpec)

/-- ITS FALSE NEIGHBOUR: 'it returns false'. Refute it at one input. -/
def fnExactTidyWrong : ChangeSpec := { name := "fnExactTidy", fn := fun _ => fun
  | [d] => { results := [.lit (.bool false)], args := [d] }
  | _ => none }
def FnExactTidyWrongFalsely : Prop := fnExactTidyRow.holds Try.pinned (OpenSpec.ofChange fnExactTidyWrong)

/-- 'laws.FnExactPrimDo': WHATEVER THE INPUT: true; the input reads as it did. -/
def fnExactPrimDoSpec : ChangeSpec := { name := "fnExactPrimDo", fn := fun _ => fun
  | [d1, d2, d3] => { results := [.lit (.bool true)], args := [d1, d2, d3] }
  | _ => none }
def fnExactPrimDoRow : OpenClaim := { program := "ytpiicpcofjhakaa", sum := "7295f98772727ec6ef4c3d9b71024431a883f93f594e66f277d6afef2274c620", func := "loop.example/g00189/laws.FnExactPrimDo", spec := "fnExactPrimDo", unfollowed := true, recurses := true, plainKeys := false, apart := false }
def FnExactPrimDoSaid : Prop := fnExactPrimDoRow.holds Try.pinned (OpenSpec.ofChange fnExactPrimDoSpec)

/-- ITS FALSE NEIGHBOUR: 'it returns false'. Refute it at one input. -/
def fnExactPrimDoWrong : ChangeSpec := { name := "fnExactPrimDo", fn := fun _ => fun
  | [d1, d2, d3] => { results := [.lit (.bool false)], args := [d1, d2, d3] }
  | _ => none }
def FnExactPrimDoWrongFalsely : Prop := fnExactPrimDoRow.holds Try.pinned (OpenSpec.ofChange fnExactPrimDoWrong)

/-- 'laws.FnExactMachineOk': WHATEVER THE INPUT: true; the input reads as it did. -/
def fnExactMachineOkSpec : ChangeSpec := { name := "fnExactMachineOk", fn := fun _ => fun
  | [d1, d2] => { results := [.lit (.bool true)], args := [d1, d2] }
  | _ => none }
def fnExactMachineOkRow : OpenClaim := { program := "ytpiicpcofjhakaa", sum := "7295f98772727ec6ef4c3d9b71024431a883f93f594e66f277d6afef2274c620", func := "loop.example/g00189/laws.FnExactMachineOk", spec := "fnExactMachineOk", unfollowed := true, recurses := true, plainKeys := false, apart := false }
def FnExactMachineOkSaid : Prop := fnExactMachineOkRow.holds Try.pinned (OpenSpec.ofChange fnExactMachineOkSpec)

/-- ITS FALSE NEIGHBOUR: 'it returns false'. Refute it at one input. -/
def fnExactMachineOkWrong : ChangeSpec := { name := "fnExactMachineOk", fn := fun _ => fun
  | [d1, d2] => { results := [.lit (.bool false)], args := [d1, d2] }
  | _ => none }
def FnExactMachineOkWrongFalsely : Prop := fnExactMachineOkRow.holds Try.pinned (OpenSpec.ofChange fnExactMachineOkWrong)

/-- 'laws.FnExactMachineNew': WHATEVER THE INPUT: true; the input reads as it did. -/
def fnExactMachineNewSpec : ChangeSpec := { name := "fnExactMachineNew", fn := fun _ => fun
  | [d1, d2] => { results := [.lit (.bool true)], args := [d1, d2] }
  | _ => none }
def fnExactMachineNewRow : OpenClaim := { program := "ytpiicpcofjhakaa", sum := "7295f98772727ec6ef4c3d9b71024431a883f93f594e66f277d6afef2274c620", func := "loop.example/g00189/laws.FnExactMachineNew", spec := "fnExactMachineNew", unfollowed := true, recurses := true, plainKeys := false, apart := false }
def FnExactMachineNewSaid : Prop := fnExactMachineNewRow.holds Try.pinned (OpenSpec.ofChange fnExactMachineNewSpec)

/-- ITS FALSE NEIGHBOUR: 'it returns false'. Refute it at one input. -/
def fnExactMachineNewWrong : ChangeSpec := { name := "fnExactMachineNew", fn := fun _ => fun
  | [d1, d2] => { results := [.lit (.bool false)], args := [d1, d2] }
  | _ => none }
def FnExactMachineNewWrongFalsely : Prop := fnExactMachineNewRow.holds Try.pinned (OpenSpec.ofChange fnExactMachineNewWrong)

/- THE SECOND FORM. 'bulk': how many values and letters a reading holds, each counted each time it is reached (what is shared counts as often as it is met; a slice's spare places count too). A statement '..UptoSaid' is the law's where the arguments, and the package variables that the reading takes, are together of bulk at most 1048576: NARROWER than '..Said'. Prove '..Said' where nothing that the law and all that it calls make is longer than what came in: it says more and counts as full. Else prove '..UptoSaid'. A law counts once. -/
mutual
def uptoBulk {H : Type} : DataW H → Nat
  | .lit (.string bytes) => bytes.length + 1
  | .lit _ => 1
  | .nil => 1
  | .ptr d => uptoBulk d + 1
  | .slice elems spare => uptoBulkAll elems + uptoBulkAll spare + 1
  | .agg parts => uptoBulkAll parts + 1
  | .iface _ d => uptoBulk d + 1
  | .map entries => uptoBulkEntries entries + 1
  | .held _ => 1
def uptoBulkAll {H : Type} : List (DataW H) → Nat
  | [] => 0
  | d :: r => uptoBulk d + uptoBulkAll r
def uptoBulkEntries {H : Type} : List (Lit × DataW H) → Nat
  | [] => 0
  | x :: r => uptoBulkEntry x + uptoBulkEntries r
def uptoBulkEntry {H : Type} : Lit × DataW H → Nat
  | (.string bytes, d) => bytes.length + uptoBulk d + 1
  | (_, d) => uptoBulk d + 1
 end
def uptoSmall : (H : Type) → List (DataW H) → Bool := fun _ ds => decide (uptoBulkAll ds ≤ 1048576)
def OpenSpec.upto (s : _root_.Go.ChangeSpec) : _root_.Go.OpenSpec := { _root_.Go.OpenSpec.ofChange s with cond := some uptoSmall }

/-- 'laws.FnExactCodeOk', WHERE WHAT IT READS IS OF BULK AT MOST 1048576: true; the input reads as it did. -/
def fnExactCodeOkUptoRow : OpenClaim := { program := "ytpiicpcofjhakaa", sum := "7295f98772727ec6ef4c3d9b71024431a883f93f594e66f277d6afef2274c620", func := "loop.example/g00189/laws.FnExactCodeOk", spec := "fnExactCodeOk", unfollowed := true, recurses := true, plainKeys := false, apart := false, narrowed := true }
def FnExactCodeOkUptoSaid : Prop := fnExactCodeOkUptoRow.holds Try.pinned (OpenSpec.upto fnExactCodeOkSpec)

/-- 'laws.FnPrims', WHERE WHAT IT READS IS OF BULK AT MOST 1048576: true; the input reads as it did. -/
def fnPrimsUptoRow : OpenClaim := { program := "ytpiicpcofjhakaa", sum := "7295f98772727ec6ef4c3d9b71024431a883f93f594e66f277d6afef2274c620", func := "loop.example/g00189/laws.FnPrims", spec := "fnPrims", unfollowed := true, recurses := true, plainKeys := false, apart := false, narrowed := true }
def FnPrimsUptoSaid : Prop := fnPrimsUptoRow.holds Try.pinned (OpenSpec.upto fnPrimsSpec)

/-- 'laws.FnExactTidy', WHERE WHAT IT READS IS OF BULK AT MOST 1048576: true; the input reads as it did. -/
def fnExactTidyUptoRow : OpenClaim := { program := "ytpiicpcofjhakaa", sum := "7295f98772727ec6ef4c3d9b71024431a883f93f594e66f277d6afef2274c620", func := "loop.example/g00189/laws.FnExactTidy", spec := "fnExactTidy", unfollowed := true, recurses := true, plainKeys := false, apart := false, narrowed := true }
def FnExactTidyUptoSaid : Prop := fnExactTidyUptoRow.holds Try.pinned (OpenSpec.upto fnExactTidySpec)

/-- 'laws.FnExactPrimDo', WHERE WHAT IT READS IS OF BULK AT MOST 1048576: true; the input reads as it did. -/
def fnExactPrimDoUptoRow : OpenClaim := { program := "ytpiicpcofjhakaa", sum := "7295f98772727ec6ef4c3d9b71024431a883f93f594e66f277d6afef2274c620", func := "loop.example/g00189/laws.FnExactPrimDo", spec := "fnExactPrimDo", unfollowed := true, recurses := true, plainKeys := false, apart := false, narrowed := true }
def FnExactPrimDoUptoSaid : Prop := fnExactPrimDoUptoRow.holds Try.pinned (OpenSpec.upto fnExactPrimDoSpec)

/-- 'laws.FnExactMachineOk', WHERE WHAT IT READS IS OF BULK AT MOST 1048576: true; the input reads as it did. -/
def fnExactMachineOkUptoRow : OpenClaim := { program := "ytpiicpcofjhakaa", sum := "7295f98772727ec6ef4c3d9b71024431a883f93f594e66f277d6afef2274c620", func := "loop.example/g00189/laws.FnExactMachineOk", spec := "fnExactMachineOk", unfollowed := true, recurses := true, plainKeys := false, apart := false, narrowed := true }
def FnExactMachineOkUptoSaid : Prop := fnExactMachineOkUptoRow.holds Try.pinned (OpenSpec.upto fnExactMachineOkSpec)

/-- 'laws.FnExactMachineNew', WHERE WHAT IT READS IS OF BULK AT MOST 1048576: true; the input reads as it did. -/
def fnExactMachineNewUptoRow : OpenClaim := { program := "ytpiicpcofjhakaa", sum := "7295f98772727ec6ef4c3d9b71024431a883f93f594e66f277d6afef2274c620", func := "loop.example/g00189/laws.FnExactMachineNew", spec := "fnExactMachineNew", unfollowed := true, recurses := true, plainKeys := false, apart := false, narrowed := true }
def FnExactMachineNewUptoSaid : Prop := fnExactMachineNewUptoRow.holds Try.pinned (OpenSpec.upto fnExactMachineNewSpec)

end Rows
end Go.Proofs.Ytpiicpcofjhakaa
