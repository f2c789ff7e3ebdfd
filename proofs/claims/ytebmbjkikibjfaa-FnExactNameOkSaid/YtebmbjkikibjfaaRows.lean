/-
  No cell of these rows narrows 'for every input' (looked for: loops, veiled, ifaces, maps, wideKeys, modest, calm, conditions, laid).
  DERIVED. THE GIVEN ROWS OF THIS SEAT. 5 by the template 'for every input the law returns true; each argument reads behind the call as it read before'; 0 by the template 'total and deterministic' (their statements: YtebmbjkikibjfaaTotals.lean).
  GIVEN WITH THE SEED: the statements are not yours to turn. If you find one false, say at which input.
  Laid BY PROGRAM, IN A SANDBOX (cutbox-rows.mjs): the forced cells as the released guide's own fill.sh prints them over the translation 158aafc18cd5951b… (all of the seat's roots in one cut). By AI agents, Wed Nov 11 2026. No macro, syntax, notation, axiom, sorry.
-/
import Derived.Test.YtebmbjkikibjfaaChecked
import GoSem.Claim
import GoSem.ClaimJoined
import GoSem.ClaimMapViews
import Derived.JoinedTies
import Derived.KernelRfl
namespace Go.Proofs.Ytebmbjkikibjfaa
/- THE CELL 'sum', in the pinned program and in every row, IS THE sha256 OF THE DUMP (.gsa) THAT YtebmbjkikibjfaaProg.lean LOADS. Nothing in Lean hashes anything: it is a label: what it is worth is what the hold of that sum in a sandbox is worth. -/
noncomputable def Try.pinned : Pinned := { name := "ytebmbjkikibjfaa", sum := "158aafc18cd5951b7faa350daf9879c64b5a3815d59d55ec87b4f9fae23c52ba", checked := Try.checked }
namespace Rows
def none {H : Type} : Left H := { results := [], args := [] }

/-- 'laws.FnExactConstants': WHATEVER THE INPUT: true; the input reads as it did. -/
def fnExactConstantsSpec : ChangeSpec := { name := "fnExactConstants", fn := fun _ => fun
  | [] => { results := [.lit (.bool true)], args := [] }
  | _ => none }
def fnExactConstantsRow : OpenClaim := { program := "ytebmbjkikibjfaa", sum := "158aafc18cd5951b7faa350daf9879c64b5a3815d59d55ec87b4f9fae23c52ba", func := "loop.example/g00189/laws.FnExactConstants", spec := "fnExactConstants", apart := false }
def FnExactConstantsSaid : Prop := fnExactConstantsRow.holds Try.pinned (OpenSpec.ofChange fnExactConstantsSpec)

/-- ITS FALSE NEIGHBOUR: 'it returns false'. Refute it at one input. -/
def fnExactConstantsWrong : ChangeSpec := { name := "fnExactConstants", fn := fun _ => fun
  | [] => { results := [.lit (.bool false)], args := [] }
  | _ => none }
def FnExactConstantsWrongFalsely : Prop := fnExactConstantsRow.holds Try.pinned (OpenSpec.ofChange fnExactConstantsWrong)

/-- 'laws.FnExactPrimArgs': WHATEVER THE INPUT: true; the input reads as it did. -/
def fnExactPrimArgsSpec : ChangeSpec := { name := "fnExactPrimArgs", fn := fun _ => fun
  | [d] => { results := [.lit (.bool true)], args := [d] }
  | _ => none }
def fnExactPrimArgsRow : OpenClaim := { program := "ytebmbjkikibjfaa", sum := "158aafc18cd5951b7faa350daf9879c64b5a3815d59d55ec87b4f9fae23c52ba", func := "loop.example/g00189/laws.FnExactPrimArgs", spec := "fnExactPrimArgs", apart := false }
def FnExactPrimArgsSaid : Prop := fnExactPrimArgsRow.holds Try.pinned (OpenSpec.ofChange fnExactPrimArgsSpec)

/-- ITS FALSE NEIGHBOUR: 'it returns false'. Refute it at one input. -/
def fnExactPrimArgsWrong : ChangeSpec := { name := "fnExactPrimArgs", fn := fun _ => fun
  | [d] => { results := [.lit (.bool false)], args := [d] }
  | _ => none }
def FnExactPrimArgsWrongFalsely : Prop := fnExactPrimArgsRow.holds Try.pinned (OpenSpec.ofChange fnExactPrimArgsWrong)

/-- 'laws.FnExactPrimName': WHATEVER THE INPUT: true; the input reads as it did. -/
def fnExactPrimNameSpec : ChangeSpec := { name := "fnExactPrimName", fn := fun _ => fun
  | [d] => { results := [.lit (.bool true)], args := [d] }
  | _ => none }
def fnExactPrimNameRow : OpenClaim := { program := "ytebmbjkikibjfaa", sum := "158aafc18cd5951b7faa350daf9879c64b5a3815d59d55ec87b4f9fae23c52ba", func := "loop.example/g00189/laws.FnExactPrimName", spec := "fnExactPrimName", apart := false }
def FnExactPrimNameSaid : Prop := fnExactPrimNameRow.holds Try.pinned (OpenSpec.ofChange fnExactPrimNameSpec)

/-- ITS FALSE NEIGHBOUR: 'it returns false'. Refute it at one input. -/
def fnExactPrimNameWrong : ChangeSpec := { name := "fnExactPrimName", fn := fun _ => fun
  | [d] => { results := [.lit (.bool false)], args := [d] }
  | _ => none }
def FnExactPrimNameWrongFalsely : Prop := fnExactPrimNameRow.holds Try.pinned (OpenSpec.ofChange fnExactPrimNameWrong)

/-- 'laws.FnExactPrimOf': WHATEVER THE INPUT: true; the input reads as it did. -/
def fnExactPrimOfSpec : ChangeSpec := { name := "fnExactPrimOf", fn := fun _ => fun
  | [d] => { results := [.lit (.bool true)], args := [d] }
  | _ => none }
def fnExactPrimOfRow : OpenClaim := { program := "ytebmbjkikibjfaa", sum := "158aafc18cd5951b7faa350daf9879c64b5a3815d59d55ec87b4f9fae23c52ba", func := "loop.example/g00189/laws.FnExactPrimOf", spec := "fnExactPrimOf", apart := false }
def FnExactPrimOfSaid : Prop := fnExactPrimOfRow.holds Try.pinned (OpenSpec.ofChange fnExactPrimOfSpec)

/-- ITS FALSE NEIGHBOUR: 'it returns false'. Refute it at one input. -/
def fnExactPrimOfWrong : ChangeSpec := { name := "fnExactPrimOf", fn := fun _ => fun
  | [d] => { results := [.lit (.bool false)], args := [d] }
  | _ => none }
def FnExactPrimOfWrongFalsely : Prop := fnExactPrimOfRow.holds Try.pinned (OpenSpec.ofChange fnExactPrimOfWrong)

/-- 'laws.FnExactNameOk': WHATEVER THE INPUT: true; the input reads as it did. -/
def fnExactNameOkSpec : ChangeSpec := { name := "fnExactNameOk", fn := fun _ => fun
  | [d] => { results := [.lit (.bool true)], args := [d] }
  | _ => none }
def fnExactNameOkRow : OpenClaim := { program := "ytebmbjkikibjfaa", sum := "158aafc18cd5951b7faa350daf9879c64b5a3815d59d55ec87b4f9fae23c52ba", func := "loop.example/g00189/laws.FnExactNameOk", spec := "fnExactNameOk", apart := false }
def FnExactNameOkSaid : Prop := fnExactNameOkRow.holds Try.pinned (OpenSpec.ofChange fnExactNameOkSpec)

/-- ITS FALSE NEIGHBOUR: 'it returns false'. Refute it at one input. -/
def fnExactNameOkWrong : ChangeSpec := { name := "fnExactNameOk", fn := fun _ => fun
  | [d] => { results := [.lit (.bool false)], args := [d] }
  | _ => none }
def FnExactNameOkWrongFalsely : Prop := fnExactNameOkRow.holds Try.pinned (OpenSpec.ofChange fnExactNameOkWrong)

/- THE SECOND FORM. 'bulk': how many values and letters a reading holds, each counted each time it is reached (what is shared counts as often as it is met; a slice's spare places count too). A statement '..UptoSaid' is the law's where the arguments, and the package variables that the reading takes, are together of bulk at most 1048576: NARROWER than '..Said'. Prove '..Said' where nothing that the law and all that it calls make is longer than what came in: it says more and counts as full. Else prove '..UptoSaid'. A law counts once. -/
mutual
def uptoBulk {H : Type} : DataW H → Nat
  | .lit (.string bytes) => bytes.length + 1
  | .lit _ => 1
  | .nil => 1
  | .ptr d => uptoBulk d + 1
  | .slice elems spare => uptoBulkAll elems + uptoBulkAll spare + 1
  | .agg parts => uptoBulkAll parts + 1
  | .iface _ d => uptoBulk d + 1
  | .map entries => uptoBulkEntries entries + 1
  | .held _ => 1
def uptoBulkAll {H : Type} : List (DataW H) → Nat
  | [] => 0
  | d :: r => uptoBulk d + uptoBulkAll r
def uptoBulkEntries {H : Type} : List (Lit × DataW H) → Nat
  | [] => 0
  | x :: r => uptoBulkEntry x + uptoBulkEntries r
def uptoBulkEntry {H : Type} : Lit × DataW H → Nat
  | (.string bytes, d) => bytes.length + uptoBulk d + 1
  | (_, d) => uptoBulk d + 1
 end
def uptoSmall : (H : Type) → List (DataW H) → Bool := fun _ ds => decide (uptoBulkAll ds ≤ 1048576)
def OpenSpec.upto (s : _root_.Go.ChangeSpec) : _root_.Go.OpenSpec := { _root_.Go.OpenSpec.ofChange s with cond := some uptoSmall }

/-- 'laws.FnExactConstants', WHERE WHAT IT READS IS OF BULK AT MOST 1048576: true; the input reads as it did. -/
def fnExactConstantsUptoRow : OpenClaim := { program := "ytebmbjkikibjfaa", sum := "158aafc18cd5951b7faa350daf9879c64b5a3815d59d55ec87b4f9fae23c52ba", func := "loop.example/g00189/laws.FnExactConstants", spec := "fnExactConstants", apart := false, narrowed := true }
def FnExactConstantsUptoSaid : Prop := fnExactConstantsUptoRow.holds Try.pinned (OpenSpec.upto fnExactConstantsSpec)

/-- 'laws.FnExactPrimArgs', WHERE WHAT IT READS IS OF BULK AT MOST 1048576: true; the input reads as it did. -/
def fnExactPrimArgsUptoRow : OpenClaim := { program := "ytebmbjkikibjfaa", sum := "158aafc18cd5951b7faa350daf9879c64b5a3815d59d55ec87b4f9fae23c52ba", func := "loop.example/g00189/laws.FnExactPrimArgs", spec := "fnExactPrimArgs", apart := false, narrowed := true }
def FnExactPrimArgsUptoSaid : Prop := fnExactPrimArgsUptoRow.holds Try.pinned (OpenSpec.upto fnExactPrimArgsSpec)

/-- 'laws.FnExactPrimName', WHERE WHAT IT READS IS OF BULK AT MOST 1048576: true; the input reads as it did. -/
def fnExactPrimNameUptoRow : OpenClaim := { program := "ytebmbjkikibjfaa", sum := "158aafc18cd5951b7faa350daf9879c64b5a3815d59d55ec87b4f9fae23c52ba", func := "loop.example/g00189/laws.FnExactPrimName", spec := "fnExactPrimName", apart := false, narrowed := true }
def FnExactPrimNameUptoSaid : Prop := fnExactPrimNameUptoRow.holds Try.pinned (OpenSpec.upto fnExactPrimNameSpec)

/-- 'laws.FnExactPrimOf', WHERE WHAT IT READS IS OF BULK AT MOST 1048576: true; the input reads as it did. -/
def fnExactPrimOfUptoRow : OpenClaim := { program := "ytebmbjkikibjfaa", sum := "158aafc18cd5951b7faa350daf9879c64b5a3815d59d55ec87b4f9fae23c52ba", func := "loop.example/g00189/laws.FnExactPrimOf", spec := "fnExactPrimOf", apart := false, narrowed := true }
def FnExactPrimOfUptoSaid : Prop := fnExactPrimOfUptoRow.holds Try.pinned (OpenSpec.upto fnExactPrimOfSpec)

/-- 'laws.FnExactNameOk', WHERE WHAT IT READS IS OF BULK AT MOST 1048576: true; the input reads as it did. -/
def fnExactNameOkUptoRow : OpenClaim := { program := "ytebmbjkikibjfaa", sum := "158aafc18cd5951b7faa350daf9879c64b5a3815d59d55ec87b4f9fae23c52ba", func := "loop.example/g00189/laws.FnExactNameOk", spec := "fnExactNameOk", apart := false, narrowed := true }
def FnExactNameOkUptoSaid : Prop := fnExactNameOkUptoRow.holds Try.pinned (OpenSpec.upto fnExactNameOkSpec)

end Rows
end Go.Proofs.Ytebmbjkikibjfaa
