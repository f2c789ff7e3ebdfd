/-
  No cell of these rows narrows 'for every input' (looked for: loops, veiled, ifaces, maps, wideKeys, modest, calm, conditions, laid).
  DERIVED. THE GIVEN ROWS OF THIS SEAT. 6 by the template 'for every input the law returns true; each argument reads behind the call as it read before'; 0 by the template 'total and deterministic' (their statements: YtcjbaidcmidijaaTotals.lean).
  GIVEN WITH THE SEED: the statements are not yours to turn. If you find one false, say at which input.
  Laid BY PROGRAM, IN A SANDBOX (cutbox-rows.mjs): the forced cells as the released guide's own fill.sh prints them over the translation ae5451c0f6ea0ba9… (all of the seat's roots in one cut). By AI agents, Wed Nov 11 2026. No macro, syntax, notation, axiom, sorry.
-/
import Derived.Test.YtcjbaidcmidijaaChecked
import GoSem.Claim
import GoSem.ClaimJoined
import GoSem.ClaimMapViews
import Derived.JoinedTies
import Derived.KernelRfl
namespace Go.Proofs.Ytcjbaidcmidijaa
/- THE CELL 'sum', in the pinned program and in every row, IS THE sha256 OF THE DUMP (.gsa) THAT YtcjbaidcmidijaaProg.lean LOADS. Nothing in Lean hashes anything: it is a label: what it is worth is what the hold of that sum in a sandbox is worth. -/
noncomputable def Try.pinned : Pinned := { name := "ytcjbaidcmidijaa", sum := "ae5451c0f6ea0ba9443d26c28421dda233049831908238554abef1f97d3fd12b", checked := Try.checked }
namespace Rows
def none {H : Type} : Left H := { results := [], args := [] }

/-- 'laws.FnExactMake': WHATEVER THE INPUT: true; the input reads as it did. -/
def fnExactMakeSpec : ChangeSpec := { name := "fnExactMake", fn := fun _ => fun
  | [d1, d2] => { results := [.lit (.bool true)], args := [d1, d2] }
  | _ => none }
def fnExactMakeRow : OpenClaim := { program := "ytcjbaidcmidijaa", sum := "ae5451c0f6ea0ba9443d26c28421dda233049831908238554abef1f97d3fd12b", func := "loop.example/g00189/laws.FnExactMake", spec := "fnExactMake", plainKeys := false, apart := false }
def FnExactMakeSaid : Prop := fnExactMakeRow.holds Try.pinned (OpenSpec.ofChange fnExactMakeSpec)

/-- ITS FALSE NEIGHBOUR: 'it returns false'. Refute it at one input. -/
def fnExactMakeWrong : ChangeSpec := { name := "fnExactMake", fn := fun _ => fun
  | [d1, d2] => { results := [.lit (.bool false)], args := [d1, d2] }
  | _ => none }
def FnExactMakeWrongFalsely : Prop := fnExactMakeRow.holds Try.pinned (OpenSpec.ofChange fnExactMakeWrong)

/-- 'laws.FnMade': WHATEVER THE INPUT: true; the input reads as it did. -/
def fnMadeSpec : ChangeSpec := { name := "fnMade", fn := fun _ => fun
  | [d] => { results := [.lit (.bool true)], args := [d] }
  | _ => none }
def fnMadeRow : OpenClaim := { program := "ytcjbaidcmidijaa", sum := "ae5451c0f6ea0ba9443d26c28421dda233049831908238554abef1f97d3fd12b", func := "loop.example/g00189/laws.FnMade", spec := "fnMade", plainKeys := false, apart := false }
def FnMadeSaid : Prop := fnMadeRow.holds Try.pinned (OpenSpec.ofChange fnMadeSpec)

/-- ITS FALSE NEIGHBOUR: 'it returns false'. Refute it at one input. -/
def fnMadeWrong : ChangeSpec := { name := "fnMade", fn := fun _ => fun
  | [d] => { results := [.lit (.bool false)], args := [d] }
  | _ => none }
def FnMadeWrongFalsely : Prop := fnMadeRow.holds Try.pinned (OpenSpec.ofChange fnMadeWrong)

/-- 'laws.FnReach': WHATEVER THE INPUT: true; the input reads as it did. -/
def fnReachSpec : ChangeSpec := { name := "fnReach", fn := fun _ => fun
  | [d] => { results := [.lit (.bool true)], args := [d] }
  | _ => none }
def fnReachRow : OpenClaim := { program := "ytcjbaidcmidijaa", sum := "ae5451c0f6ea0ba9443d26c28421dda233049831908238554abef1f97d3fd12b", func := "loop.example/g00189/laws.FnReach", spec := "fnReach", unfollowed := true, recurses := true, plainKeys := false, apart := false }
def FnReachSaid : Prop := fnReachRow.holds Try.pinned (OpenSpec.ofChange fnReachSpec)

/-- ITS FALSE NEIGHBOUR: 'it returns false'. Refute it at one input. -/
def fnReachWrong : ChangeSpec := { name := "fnReach", fn := fun _ => fun
  | [d] => { results := [.lit (.bool false)], args := [d] }
  | _ => none }
def FnReachWrongFalsely : Prop := fnReachRow.holds Try.pinned (OpenSpec.ofChange fnReachWrong)

/-- 'laws.FnExactWrite': WHATEVER THE INPUT: true; the input reads as it did. -/
def fnExactWriteSpec : ChangeSpec := { name := "fnExactWrite", fn := fun _ => fun
  | [d1, d2] => { results := [.lit (.bool true)], args := [d1, d2] }
  | _ => none }
def fnExactWriteRow : OpenClaim := { program := "ytcjbaidcmidijaa", sum := "ae5451c0f6ea0ba9443d26c28421dda233049831908238554abef1f97d3fd12b", func := "loop.example/g00189/laws.FnExactWrite", spec := "fnExactWrite", recurses := true, plainKeys := false, apart := false }
def FnExactWriteSaid : Prop := fnExactWriteRow.holds Try.pinned (OpenSpec.ofChange fnExactWriteSpec)

/-- ITS FALSE NEIGHBOUR: 'it returns false'. Refute it at one input. -/
def fnExactWriteWrong : ChangeSpec := { name := "fnExactWrite", fn := fun _ => fun
  | [d1, d2] => { results := [.lit (.bool false)], args := [d1, d2] }
  | _ => none }
def FnExactWriteWrongFalsely : Prop := fnExactWriteRow.holds Try.pinned (OpenSpec.ofChange fnExactWriteWrong)

/-- 'laws.FnExactReach': WHATEVER THE INPUT: true; the input reads as it did. -/
def fnExactReachSpec : ChangeSpec := { name := "fnExactReach", fn := fun _ => fun
  | [d1, d2] => { results := [.lit (.bool true)], args := [d1, d2] }
  | _ => none }
def fnExactReachRow : OpenClaim := { program := "ytcjbaidcmidijaa", sum := "ae5451c0f6ea0ba9443d26c28421dda233049831908238554abef1f97d3fd12b", func := "loop.example/g00189/laws.FnExactReach", spec := "fnExactReach", unfollowed := true, recurses := true, plainKeys := false, apart := false }
def FnExactReachSaid : Prop := fnExactReachRow.holds Try.pinned (OpenSpec.ofChange fnExactReachSpec)

/-- ITS FALSE NEIGHBOUR: 'it returns false'. Refute it at one input. -/
def fnExactReachWrong : ChangeSpec := { name := "fnExactReach", fn := fun _ => fun
  | [d1, d2] => { results := [.lit (.bool false)], args := [d1, d2] }
  | _ => none }
def FnExactReachWrongFalsely : Prop := fnExactReachRow.holds Try.pinned (OpenSpec.ofChange fnExactReachWrong)

/-- 'laws.FnExactMakeList': WHATEVER THE INPUT: true; the input reads as it did. -/
def fnExactMakeListSpec : ChangeSpec := { name := "fnExactMakeList", fn := fun _ => fun
  | [d1, d2] => { results := [.lit (.bool true)], args := [d1, d2] }
  | _ => none }
def fnExactMakeListRow : OpenClaim := { program := "ytcjbaidcmidijaa", sum := "ae5451c0f6ea0ba9443d26c28421dda233049831908238554abef1f97d3fd12b", func := "loop.example/g00189/laws.FnExactMakeList", spec := "fnExactMakeList", unfollowed := true, recurses := true, plainKeys := false, apart := false }
def FnExactMakeListSaid : Prop := fnExactMakeListRow.holds Try.pinned (OpenSpec.ofChange fnExactMakeListSpec)

/-- ITS FALSE NEIGHBOUR: 'it returns false'. Refute it at one input. -/
def fnExactMakeListWrong : ChangeSpec := { name := "fnExactMakeList", fn := fun _ => fun
  | [d1, d2] => { results := [.lit (.bool false)], args := [d1, d2] }
  | _ => none }
def FnExactMakeListWrongFalsely : Prop := fnExactMakeListRow.holds Try.pinned (OpenSpec.ofChange fnExactMakeListWrong)

/- THE SECOND FORM. 'bulk': how many values and letters a reading holds, each counted each time it is reached (what is shared counts as often as it is met; a slice's spare places count too). A statement '..UptoSaid' is the law's where the arguments, and the package variables that the reading takes, are together of bulk at most 1048576: NARROWER than '..Said'. Prove '..Said' where nothing that the law and all that it calls make is longer than what came in: it says more and counts as full. Else prove '..UptoSaid'. A law counts once. -/
mutual
def uptoBulk {H : Type} : DataW H → Nat
  | .lit (.string bytes) => bytes.length + 1
  | .lit _ => 1
  | .nil => 1
  | .ptr d => uptoBulk d + 1
  | .slice elems spare => uptoBulkAll elems + uptoBulkAll spare + 1
  | .agg parts => uptoBulkAll parts + 1
  | .iface _ d => uptoBulk d + 1
  | .map entries => uptoBulkEntries entries + 1
  | .held _ => 1
def uptoBulkAll {H : Type} : List (DataW H) → Nat
  | [] => 0
  | d :: r => uptoBulk d + uptoBulkAll r
def uptoBulkEntries {H : Type} : List (Lit × DataW H) → Nat
  | [] => 0
  | x :: r => uptoBulkEntry x + uptoBulkEntries r
def uptoBulkEntry {H : Type} : Lit × DataW H → Nat
  | (.string bytes, d) => bytes.length + uptoBulk d + 1
  | (_, d) => uptoBulk d + 1
 end
def uptoSmall : (H : Type) → List (DataW H) → Bool := fun _ ds => decide (uptoBulkAll ds ≤ 1048576)
def OpenSpec.upto (s : _root_.Go.ChangeSpec) : _root_.Go.OpenSpec := { _root_.Go.OpenSpec.ofChange s with cond := some uptoSmall }

/-- 'laws.FnExactMake', WHERE WHAT IT READS IS OF BULK AT MOST 1048576: true; the input reads as it did. -/
def fnExactMakeUptoRow : OpenClaim := { program := "ytcjbaidcmidijaa", sum := "ae5451c0f6ea0ba9443d26c28421dda233049831908238554abef1f97d3fd12b", func := "loop.example/g00189/laws.FnExactMake", spec := "fnExactMake", plainKeys := false, apart := false, narrowed := true }
def FnExactMakeUptoSaid : Prop := fnExactMakeUptoRow.holds Try.pinned (OpenSpec.upto fnExactMakeSpec)

/-- 'laws.FnMade', WHERE WHAT IT READS IS OF BULK AT MOST 1048576: true; the input reads as it did. -/
def fnMadeUptoRow : OpenClaim := { program := "ytcjbaidcmidijaa", sum := "ae5451c0f6ea0ba9443d26c28421dda233049831908238554abef1f97d3fd12b", func := "loop.example/g00189/laws.FnMade", spec := "fnMade", plainKeys := false, apart := false, narrowed := true }
def FnMadeUptoSaid : Prop := fnMadeUptoRow.holds Try.pinned (OpenSpec.upto fnMadeSpec)

/-- 'laws.FnReach', WHERE WHAT IT READS IS OF BULK AT MOST 1048576: true; the input reads as it did. -/
def fnReachUptoRow : OpenClaim := { program := "ytcjbaidcmidijaa", sum := "ae5451c0f6ea0ba9443d26c28421dda233049831908238554abef1f97d3fd12b", func := "loop.example/g00189/laws.FnReach", spec := "fnReach", unfollowed := true, recurses := true, plainKeys := false, apart := false, narrowed := true }
def FnReachUptoSaid : Prop := fnReachUptoRow.holds Try.pinned (OpenSpec.upto fnReachSpec)

/-- 'laws.FnExactWrite', WHERE WHAT IT READS IS OF BULK AT MOST 1048576: true; the input reads as it did. -/
def fnExactWriteUptoRow : OpenClaim := { program := "ytcjbaidcmidijaa", sum := "ae5451c0f6ea0ba9443d26c28421dda233049831908238554abef1f97d3fd12b", func := "loop.example/g00189/laws.FnExactWrite", spec := "fnExactWrite", recurses := true, plainKeys := false, apart := false, narrowed := true }
def FnExactWriteUptoSaid : Prop := fnExactWriteUptoRow.holds Try.pinned (OpenSpec.upto fnExactWriteSpec)

/-- 'laws.FnExactReach', WHERE WHAT IT READS IS OF BULK AT MOST 1048576: true; the input reads as it did. -/
def fnExactReachUptoRow : OpenClaim := { program := "ytcjbaidcmidijaa", sum := "ae5451c0f6ea0ba9443d26c28421dda233049831908238554abef1f97d3fd12b", func := "loop.example/g00189/laws.FnExactReach", spec := "fnExactReach", unfollowed := true, recurses := true, plainKeys := false, apart := false, narrowed := true }
def FnExactReachUptoSaid : Prop := fnExactReachUptoRow.holds Try.pinned (OpenSpec.upto fnExactReachSpec)

/-- 'laws.FnExactMakeList', WHERE WHAT IT READS IS OF BULK AT MOST 1048576: true; the input reads as it did. -/
def fnExactMakeListUptoRow : OpenClaim := { program := "ytcjbaidcmidijaa", sum := "ae5451c0f6ea0ba9443d26c28421dda233049831908238554abef1f97d3fd12b", func := "loop.example/g00189/laws.FnExactMakeList", spec := "fnExactMakeList", unfollowed := true, recurses := true, plainKeys := false, apart := false, narrowed := true }
def FnExactMakeListUptoSaid : Prop := fnExactMakeListUptoRow.holds Try.pinned (OpenSpec.upto fnExactMakeListSpec)

end Rows
end Go.Proofs.Ytcjbaidcmidijaa
