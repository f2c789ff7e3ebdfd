/-
  No cell of these rows narrows 'for every input' (looked for: loops, veiled, ifaces, maps, wideKeys, modest, calm, conditions, laid).
  DERIVED. THE GIVEN ROWS OF THIS SEAT. 6 by the template 'for every input the law returns true; each argument reads behind the call as it read before'; 0 by the template 'total and deterministic' (their statements: YtfdnlokpadbjnaaTotals.lean).
  GIVEN WITH THE SEED: the statements are not yours to turn. If you find one false, say at which input.
  Laid BY PROGRAM, IN A SANDBOX (cutbox-rows.mjs): the forced cells as the released guide's own fill.sh prints them over the translation cb312566adf0d2c4… (all of the seat's roots in one cut). By AI agents, Wed Nov 11 2026. No macro, syntax, notation, axiom, sorry.
-/
import Derived.Test.YtfdnlokpadbjnaaChecked
import GoSem.Claim
import GoSem.ClaimJoined
import GoSem.ClaimMapViews
import Derived.JoinedTies
import Derived.KernelRfl
namespace Go.Proofs.Ytfdnlokpadbjnaa
/- THE CELL 'sum', in the pinned program and in every row, IS THE sha256 OF THE DUMP (.gsa) THAT YtfdnlokpadbjnaaProg.lean LOADS. Nothing in Lean hashes anything: it is a label: what it is worth is what the hold of that sum in a sandbox is worth. -/
noncomputable def Try.pinned : Pinned := { name := "ytfdnlokpadbjnaa", sum := "cb312566adf0d2c444e66d17bf143b634440d137f9ece76a6bcdb8eb1fe2c401", checked := Try.checked }
namespace Rows
def none {H : Type} : Left H := { results := [], args := [] }

/-- 'laws.FnLists': WHATEVER THE INPUT: true; the input reads as it did. -/
def fnListsSpec : ChangeSpec := { name := "fnLists", fn := fun _ => fun
  | [d] => { results := [.lit (.bool true)], args := [d] }
  | _ => none }
def fnListsRow : OpenClaim := { program := "ytfdnlokpadbjnaa", sum := "cb312566adf0d2c444e66d17bf143b634440d137f9ece76a6bcdb8eb1fe2c401", func := "loop.example/g00189/laws.FnLists", spec := "fnLists", unfollowed := true, recurses := true, plainKeys := false, apart := false }
def FnListsSaid : Prop := fnListsRow.holds Try.pinned (OpenSpec.ofChange fnListsSpec)

/-- ITS FALSE NEIGHBOUR: 'it returns false'. Refute it at one input. -/
def fnListsWrong : ChangeSpec := { name := "fnLists", fn := fun _ => fun
  | [d] => { results := [.lit (.bool false)], args := [d] }
  | _ => none }
def FnListsWrongFalsely : Prop := fnListsRow.holds Try.pinned (OpenSpec.ofChange fnListsWrong)

/-- 'laws.FnExactValuePack': WHATEVER THE INPUT: true; the input reads as it did. -/
def fnExactValuePackSpec : ChangeSpec := { name := "fnExactValuePack", fn := fun _ => fun
  | [d1, d2] => { results := [.lit (.bool true)], args := [d1, d2] }
  | _ => none }
def fnExactValuePackRow : OpenClaim := { program := "ytfdnlokpadbjnaa", sum := "cb312566adf0d2c444e66d17bf143b634440d137f9ece76a6bcdb8eb1fe2c401", func := "loop.example/g00189/laws.FnExactValuePack", spec := "fnExactValuePack", plainKeys := false, apart := false }
def FnExactValuePackSaid : Prop := fnExactValuePackRow.holds Try.pinned (OpenSpec.ofChange fnExactValuePackSpec)

/-- ITS FALSE NEIGHBOUR: 'it returns false'. Refute it at one input. -/
def fnExactValuePackWrong : ChangeSpec := { name := "fnExactValuePack", fn := fun _ => fun
  | [d1, d2] => { results := [.lit (.bool false)], args := [d1, d2] }
  | _ => none }
def FnExactValuePackWrongFalsely : Prop := fnExactValuePackRow.holds Try.pinned (OpenSpec.ofChange fnExactValuePackWrong)

/-- 'laws.FnSame': WHATEVER THE INPUT: true; the input reads as it did. -/
def fnSameSpec : ChangeSpec := { name := "fnSame", fn := fun _ => fun
  | [d] => { results := [.lit (.bool true)], args := [d] }
  | _ => none }
def fnSameRow : OpenClaim := { program := "ytfdnlokpadbjnaa", sum := "cb312566adf0d2c444e66d17bf143b634440d137f9ece76a6bcdb8eb1fe2c401", func := "loop.example/g00189/laws.FnSame", spec := "fnSame", recurses := true, plainKeys := false, apart := false }
def FnSameSaid : Prop := fnSameRow.holds Try.pinned (OpenSpec.ofChange fnSameSpec)

/-- ITS FALSE NEIGHBOUR: 'it returns false'. Refute it at one input. -/
def fnSameWrong : ChangeSpec := { name := "fnSame", fn := fun _ => fun
  | [d] => { results := [.lit (.bool false)], args := [d] }
  | _ => none }
def FnSameWrongFalsely : Prop := fnSameRow.holds Try.pinned (OpenSpec.ofChange fnSameWrong)

/-- 'laws.FnExactCopy': WHATEVER THE INPUT: true; the input reads as it did. -/
def fnExactCopySpec : ChangeSpec := { name := "fnExactCopy", fn := fun _ => fun
  | [d1, d2, d3] => { results := [.lit (.bool true)], args := [d1, d2, d3] }
  | _ => none }
def fnExactCopyRow : OpenClaim := { program := "ytfdnlokpadbjnaa", sum := "cb312566adf0d2c444e66d17bf143b634440d137f9ece76a6bcdb8eb1fe2c401", func := "loop.example/g00189/laws.FnExactCopy", spec := "fnExactCopy", plainKeys := false, apart := false }
def FnExactCopySaid : Prop := fnExactCopyRow.holds Try.pinned (OpenSpec.ofChange fnExactCopySpec)

/-- ITS FALSE NEIGHBOUR: 'it returns false'. Refute it at one input. -/
def fnExactCopyWrong : ChangeSpec := { name := "fnExactCopy", fn := fun _ => fun
  | [d1, d2, d3] => { results := [.lit (.bool false)], args := [d1, d2, d3] }
  | _ => none }
def FnExactCopyWrongFalsely : Prop := fnExactCopyRow.holds Try.pinned (OpenSpec.ofChange fnExactCopyWrong)

/-- 'laws.FnExactKeep': WHATEVER THE INPUT: true; the input reads as it did. -/
def fnExactKeepSpec : ChangeSpec := { name := "fnExactKeep", fn := fun _ => fun
  | [d1, d2] => { results := [.lit (.bool true)], args := [d1, d2] }
  | _ => none }
def fnExactKeepRow : OpenClaim := { program := "ytfdnlokpadbjnaa", sum := "cb312566adf0d2c444e66d17bf143b634440d137f9ece76a6bcdb8eb1fe2c401", func := "loop.example/g00189/laws.FnExactKeep", spec := "fnExactKeep", unfollowed := true, recurses := true, plainKeys := false, apart := false }
def FnExactKeepSaid : Prop := fnExactKeepRow.holds Try.pinned (OpenSpec.ofChange fnExactKeepSpec)

/-- ITS FALSE NEIGHBOUR: 'it returns false'. Refute it at one input. -/
def fnExactKeepWrong : ChangeSpec := { name := "fnExactKeep", fn := fun _ => fun
  | [d1, d2] => { results := [.lit (.bool false)], args := [d1, d2] }
  | _ => none }
def FnExactKeepWrongFalsely : Prop := fnExactKeepRow.holds Try.pinned (OpenSpec.ofChange fnExactKeepWrong)

/-- 'laws.FnCopied': WHATEVER THE INPUT: true; the input reads as it did. -/
def fnCopiedSpec : ChangeSpec := { name := "fnCopied", fn := fun _ => fun
  | [d] => { results := [.lit (.bool true)], args := [d] }
  | _ => none }
def fnCopiedRow : OpenClaim := { program := "ytfdnlokpadbjnaa", sum := "cb312566adf0d2c444e66d17bf143b634440d137f9ece76a6bcdb8eb1fe2c401", func := "loop.example/g00189/laws.FnCopied", spec := "fnCopied", recurses := true, plainKeys := false, apart := false }
def FnCopiedSaid : Prop := fnCopiedRow.holds Try.pinned (OpenSpec.ofChange fnCopiedSpec)

/-- ITS FALSE NEIGHBOUR: 'it returns false'. Refute it at one input. -/
def fnCopiedWrong : ChangeSpec := { name := "fnCopied", fn := fun _ => fun
  | [d] => { results := [.lit (.bool false)], args := [d] }
  | _ => none }
def FnCopiedWrongFalsely : Prop := fnCopiedRow.holds Try.pinned (OpenSpec.ofChange fnCopiedWrong)

/- THE SECOND FORM. 'bulk': how many values and letters a reading holds, each counted each time it is reached (what is shared counts as often as it is met; a slice's spare places count too). A statement '..UptoSaid' is the law's where the arguments, and the package variables that the reading takes, are together of bulk at most 1048576: NARROWER than '..Said'. Prove '..Said' where nothing that the law and all that it calls make is longer than what came in: it says more and counts as full. Else prove '..UptoSaid'. A law counts once. -/
mutual
def uptoBulk {H : Type} : DataW H → Nat
  | .lit (.string bytes) => bytes.length + 1
  | .lit _ => 1
  | .nil => 1
  | .ptr d => uptoBulk d + 1
  | .slice elems spare => uptoBulkAll elems + uptoBulkAll spare + 1
  | .agg parts => uptoBulkAll parts + 1
  | .iface _ d => uptoBulk d + 1
  | .map entries => uptoBulkEntries entries + 1
  | .held _ => 1
def uptoBulkAll {H : Type} : List (DataW H) → Nat
  | [] => 0
  | d :: r => uptoBulk d + uptoBulkAll r
def uptoBulkEntries {H : Type} : List (Lit × DataW H) → Nat
  | [] => 0
  | x :: r => uptoBulkEntry x + uptoBulkEntries r
def uptoBulkEntry {H : Type} : Lit × DataW H → Nat
  | (.string bytes, d) => bytes.length + uptoBulk d + 1
  | (_, d) => uptoBulk d + 1
 end
def uptoSmall : (H : Type) → List (DataW H) → Bool := fun _ ds => decide (uptoBulkAll ds ≤ 1048576)
def OpenSpec.upto (s : _root_.Go.ChangeSpec) : _root_.Go.OpenSpec := { _root_.Go.OpenSpec.ofChange s with cond := some uptoSmall }

/-- 'laws.FnLists', WHERE WHAT IT READS IS OF BULK AT MOST 1048576: true; the input reads as it did. -/
def fnListsUptoRow : OpenClaim := { program := "ytfdnlokpadbjnaa", sum := "cb312566adf0d2c444e66d17bf143b634440d137f9ece76a6bcdb8eb1fe2c401", func := "loop.example/g00189/laws.FnLists", spec := "fnLists", unfollowed := true, recurses := true, plainKeys := false, apart := false, narrowed := true }
def FnListsUptoSaid : Prop := fnListsUptoRow.holds Try.pinned (OpenSpec.upto fnListsSpec)

/-- 'laws.FnExactValuePack', WHERE WHAT IT READS IS OF BULK AT MOST 1048576: true; the input reads as it did. -/
def fnExactValuePackUptoRow : OpenClaim := { program := "ytfdnlokpadbjnaa", sum := "cb312566adf0d2c444e66d17bf143b634440d137f9ece76a6bcdb8eb1fe2c401", func := "loop.example/g00189/laws.FnExactValuePack", spec := "fnExactValuePack", plainKeys := false, apart := false, narrowed := true }
def FnExactValuePackUptoSaid : Prop := fnExactValuePackUptoRow.holds Try.pinned (OpenSpec.upto fnExactValuePackSpec)

/-- 'laws.FnSame', WHERE WHAT IT READS IS OF BULK AT MOST 1048576: true; the input reads as it did. -/
def fnSameUptoRow : OpenClaim := { program := "ytfdnlokpadbjnaa", sum := "cb312566adf0d2c444e66d17bf143b634440d137f9ece76a6bcdb8eb1fe2c401", func := "loop.example/g00189/laws.FnSame", spec := "fnSame", recurses := true, plainKeys := false, apart := false, narrowed := true }
def FnSameUptoSaid : Prop := fnSameUptoRow.holds Try.pinned (OpenSpec.upto fnSameSpec)

/-- 'laws.FnExactCopy', WHERE WHAT IT READS IS OF BULK AT MOST 1048576: true; the input reads as it did. -/
def fnExactCopyUptoRow : OpenClaim := { program := "ytfdnlokpadbjnaa", sum := "cb312566adf0d2c444e66d17bf143b634440d137f9ece76a6bcdb8eb1fe2c401", func := "loop.example/g00189/laws.FnExactCopy", spec := "fnExactCopy", plainKeys := false, apart := false, narrowed := true }
def FnExactCopyUptoSaid : Prop := fnExactCopyUptoRow.holds Try.pinned (OpenSpec.upto fnExactCopySpec)

/-- 'laws.FnExactKeep', WHERE WHAT IT READS IS OF BULK AT MOST 1048576: true; the input reads as it did. -/
def fnExactKeepUptoRow : OpenClaim := { program := "ytfdnlokpadbjnaa", sum := "cb312566adf0d2c444e66d17bf143b634440d137f9ece76a6bcdb8eb1fe2c401", func := "loop.example/g00189/laws.FnExactKeep", spec := "fnExactKeep", unfollowed := true, recurses := true, plainKeys := false, apart := false, narrowed := true }
def FnExactKeepUptoSaid : Prop := fnExactKeepUptoRow.holds Try.pinned (OpenSpec.upto fnExactKeepSpec)

/-- 'laws.FnCopied', WHERE WHAT IT READS IS OF BULK AT MOST 1048576: true; the input reads as it did. -/
def fnCopiedUptoRow : OpenClaim := { program := "ytfdnlokpadbjnaa", sum := "cb312566adf0d2c444e66d17bf143b634440d137f9ece76a6bcdb8eb1fe2c401", func := "loop.example/g00189/laws.FnCopied", spec := "fnCopied", recurses := true, plainKeys := false, apart := false, narrowed := true }
def FnCopiedUptoSaid : Prop := fnCopiedUptoRow.holds Try.pinned (OpenSpec.upto fnCopiedSpec)

end Rows
end Go.Proofs.Ytfdnlokpadbjnaa
