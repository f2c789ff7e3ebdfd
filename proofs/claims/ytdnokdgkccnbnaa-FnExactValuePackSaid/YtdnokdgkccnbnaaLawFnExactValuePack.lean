/- The law FnExactValuePack is true of every call: the call comes to an end, answers true, and leaves what was there as it was. -/
import Derived.Test.YtdnokdgkccnbnaaRows
import Derived.Test.YtdnokdgkccnbnaaLFnExactValuePack
import Derived.Test.YtdnokdgkccnbnaaAx22
import Derived.WalkKit
import Derived.ProofKit
import Derived.OpenShut
import Derived.ShutString
import Derived.ChangeOld
import Derived.Below
import Derived.SizedLaws
import Derived.RowKit
import Derived.KernelRfl
import Derived.ChangeSlices
namespace Go.Proofs.Ytdnokdgkccnbnaa.fnExactValuePack
open Go.ChangeShapes Go.WideShapes Go.ChangeAt Go.RowKit
open Go.ChangeMaps (open_string shut_string)
set_option linter.unusedVariables false
theorem own : ownKnob Try.prog.godebug = none := by kernel_rfl
theorem laidOut : laidOutB Try.prog = true := by kernel_rfl
set_option maxRecDepth 100000 in
theorem lifted (os : Os) (started : os.Started) (H : Type) (enc : TypeId × Value → H) :
    ReturnsInHanded {} Try.checked os 4 .any (Rows.fnExactValuePackSpec.pre6 enc Try.prog Try.f4 Rows.fnExactValuePackRow.domain false) (Rows.fnExactValuePackSpec.post enc Try.prog Try.f4 false true false false) := by
  refine returnsInHanded_of_change_sized (C := Try.checked) own started (by kernel_rfl) Try.func4
    (ChangeSpec.witness6 (enc := enc) (C := Try.checked) false ⟨#[], #[.agg #[.slice none 0 0], .int .i64 0], []⟩ 8 (by kernel_rfl) (by kernel_rfl) (by kernel_rfl) (by kernel_rfl)) ?_
  intro W base args ds gs before hval0 hW hcnd hsz0 _
  have hsz : (DataW.weightsEach Try.prog (Try.f4.params.toList ++ Rows.fnExactValuePackSpec.plain.varTypes Try.prog) (ds ++ gs)).all (· ≤ reachBytes) = true := hsz0
  have hval : ∀ (j : Nat) t v, Try.f4.params[j]? = some t → args[j]? = some v → Value.okWide Try.prog W .any base t v := hval0
  have hW' := hW
  obtain ⟨p, q, hA0, hV, rfl, hfz, hnd⟩ := hW
  have hA : DataW.TrodAll enc Try.prog W 0 (fun _ => true) true Try.f4.params.toList args.toList ds p := hA0
  rw [Try.params4] at hA hval hsz
  obtain ⟨v0, vs0, d0, ds0, p0, q0, hargs, rfl, rfl, h0, r0⟩ := trodAll_cons hA
  obtain ⟨v1, vs1, d1, ds1, p1, q1, rfl, rfl, rfl, h1, r1⟩ := trodAll_cons r0
  obtain ⟨rfl, rfl, rfl⟩ := trodAll_nil r1
  obtain rfl : args = #[v0, v1] := by cases args; simp_all
  obtain ⟨rfl, rfl⟩ := trodVars_none hV
  have k0 := h0
  have lt0 : ∀ x ∈ p0, x.block < W.heap.size := by obtain ⟨m, hm⟩ := k0; exact DataW.trod_lt m _ _ _ hm
  obtain ⟨c0, ob0, l0, rfl, hn0, hl0, ha0⟩ := Ax.pool_param (W := W) Try.underlying24 (by kernel_rfl) (by rfl) (by kernel_rfl) Try.underlying22 Try.underlying75 (by kernel_rfl) (by kernel_rfl) (hval 0 24 v0 rfl rfl) h0
  obtain ⟨x0, hx0, hy0⟩ := ha0 0
  obtain ⟨a1, rfl, rfl, rfl, w1⟩ := open_int Try.underlying3 (hval 1 3 v1 rfl rfl) h1
  clear hA0 hval0 hsz0 hsz
  obtain ⟨H1, n1, hc⟩ := Ax.law4 (H := Ax.obsH [ob0]) (n := 1) (hy0 _ _ (Ax.obsH_at rfl) (by decide : 0 < 1)) hl0 hn0 a1 w1
  have hwalk := Ax.obs_walk (P := Try.prog) (by kernel_rfl) [ob0] (args := [.agg ⟨[x0]⟩, .int .i64 a1]) (args' := [.agg ⟨[c0]⟩, .int .i64 a1]) (.cons (.p (.agg (.cons (.s (hx0 _ (Ax.obsG_at rfl))) .nil))) (.cons (Ax.VR.sr (.int _ _)) .nil)) hc
  refine hwalk.mono fun e W' ⟨he, bel⟩ => ?_
  subst he
  exact ⟨_, rfl, _, _, _, [], _, [], hW', trodAll_mk1 (shut_bool Try.underlying4 _), (trodAll_cons_mk (Below.trod laidOut (by kernel_rfl) (of_decide_eq_true (by kernel_rfl)) k0 bel lt0) (trodAll_cons_mk (shut_int Try.underlying3 w1) trodAll_mk0)), rfl, bel.frame _, fun h => by cases h⟩
theorem over : Rows.fnExactValuePackRow.holds Try.pinned (OpenSpec.ofChange Rows.fnExactValuePackSpec) :=
  OpenClaim.holds_of_wide 4 Try.f4 rfl rfl rfl rfl rfl rfl rfl ⟨rfl, rfl, rfl, rfl, rfl⟩ rfl rfl rfl rfl rfl (by kernel_rfl) Try.func4 (by kernel_rfl)
    (of_decide_eq_true (by kernel_rfl)) (by unfold Func.isWrapper; first | (rw [if_pos (by decide +kernel)]; kernel_rfl) | (rw [if_neg (by decide +kernel)]; exact ⟨rfl, rfl⟩))
    (fun os started H enc _ => lifted os started H enc)
theorem proved : Rows.FnExactValuePackSaid := over
#print axioms proved
end Go.Proofs.Ytdnokdgkccnbnaa.fnExactValuePack
namespace Go.Proofs.Ytdnokdgkccnbnaa
/-- The row, under a short name, for the claim. -/
theorem fnExactValuePack_holds : Rows.FnExactValuePackSaid := fnExactValuePack.proved
end Go.Proofs.Ytdnokdgkccnbnaa
