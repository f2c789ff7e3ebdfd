/- The law FnExactStep is true of every call: the call comes to an end, answers true, and leaves what was there as it was. -/
import Derived.Test.YtcffcnipmgkjfaaGreatRows
import Derived.Test.YtcffcnipmgkjfaaGreatM9
import Derived.Test.YtcffcnipmgkjfaaGreatM2
import Derived.WalkKit
import Derived.ProofKit
import Derived.OpenShut
import Derived.ShutString
import Derived.ChangeOld
import Derived.Below
import Derived.SizedLaws
import Derived.RowKit
import Derived.KernelRfl
import Derived.ChangeSlices
namespace Go.Proofs.YtcffcnipmgkjfaaGreat.fnExactStep
open Go.ChangeShapes Go.WideShapes Go.ChangeAt Go.RowKit
open Go.ChangeMaps (open_string shut_string)
set_option linter.unusedVariables false
theorem own : ownKnob Tryz.prog.godebug = none := by kernel_rfl
theorem laidOut : laidOutB Tryz.prog = true := by kernel_rfl
set_option maxRecDepth 100000 in
theorem lifted (os : Os) (started : os.Started) (H : Type) (enc : TypeId × Value → H) :
    ReturnsInHanded {} Tryz.checked os 3 .any (Rows.fnExactStepSpec.pre6 enc Tryz.prog Tryz.f3 Rows.fnExactStepRow.domain false) (Rows.fnExactStepSpec.post enc Tryz.prog Tryz.f3 false true false false) := by
  refine returnsInHanded_of_change_sized (C := Tryz.checked) own started (by kernel_rfl) Tryz.func3
    (ChangeSpec.witness6 (enc := enc) (C := Tryz.checked) false ⟨#[], #[.agg #[.slice none 0 0, .slice none 0 0, .slice none 0 0], .agg #[.slice none 0 0, .int .i64 0, .int .i64 0, .int .i64 0, .int .i64 0, .int .i64 0, .int .i64 0, .int .i64 0]], []⟩ 8 (by kernel_rfl) (by kernel_rfl) (by kernel_rfl) (by kernel_rfl)) ?_
  intro W base args ds gs before hval0 hW hcnd hsz0 _
  have hsz : (DataW.weightsEach Tryz.prog (Tryz.f3.params.toList ++ Rows.fnExactStepSpec.plain.varTypes Tryz.prog) (ds ++ gs)).all (· ≤ reachBytes) = true := hsz0
  have hval : ∀ (j : Nat) t v, Tryz.f3.params[j]? = some t → args[j]? = some v → Value.okWide Tryz.prog W .any base t v := hval0
  have hW' := hW
  obtain ⟨p, q, hA0, hV, rfl, hfz, hnd⟩ := hW
  have hA : DataW.TrodAll enc Tryz.prog W 0 (fun _ => true) true Tryz.f3.params.toList args.toList ds p := hA0
  rw [Tryz.params3] at hA hval hsz
  obtain ⟨v0, vs0, d0, ds0, p0, q0, hargs, rfl, rfl, h0, r0⟩ := trodAll_cons hA
  obtain ⟨v1, vs1, d1, ds1, p1, q1, rfl, rfl, rfl, h1, r1⟩ := trodAll_cons r0
  obtain ⟨rfl, rfl, rfl⟩ := trodAll_nil r1
  obtain rfl : args = #[v0, v1] := by cases args; simp_all
  obtain ⟨rfl, rfl⟩ := trodVars_none hV
  have k0 := h0
  have lt0 : ∀ x ∈ p0, x.block < W.heap.size := by obtain ⟨m, hm⟩ := k0; exact DataW.trod_lt m _ _ _ hm
  obtain ⟨c0, ci0, cd0, ob0, obi0, obd0, l0, li0, ld0, rfl, ⟨hn0, hl0, ha0⟩, ⟨hni0, hli0, hai0⟩, hnd0, hld0, had0⟩ := Ax.code_param (W := W) Tryz.underlying28 (by kernel_rfl) ⟨rfl, rfl, rfl⟩ ⟨(by kernel_rfl), (by kernel_rfl), (by kernel_rfl)⟩ Tryz.underlying24 ⟨rfl, (by kernel_rfl)⟩ Tryz.underlying22 Tryz.underlying117 (by kernel_rfl) (by kernel_rfl) Tryz.underlying25 Tryz.underlying81 (by kernel_rfl) (by kernel_rfl) Tryz.underlying26 Tryz.underlying84 (by kernel_rfl) (by kernel_rfl) (hval 0 28 v0 rfl rfl) h0
  obtain ⟨x0, hx0, hy0⟩ := ha0 0
  obtain ⟨xi0, hxi0, hyi0⟩ := hai0 1
  obtain ⟨xd0, hxd0, hyd0⟩ := had0 2
  have k1 := h1
  have lt1 : ∀ x ∈ p1, x.block < W.heap.size := by obtain ⟨m, hm⟩ := k1; exact DataW.trod_lt m _ _ _ hm
  obtain ⟨c1, ob1, l1, m11, m12, m13, m14, m15, m16, m17, rfl, hn1, hl1, ha1⟩ := Ax.machine_param (W := W) Tryz.underlying30 (by kernel_rfl) ⟨rfl, rfl, rfl, rfl, rfl, rfl, rfl, rfl⟩ ⟨(by kernel_rfl), (by kernel_rfl), (by kernel_rfl), (by kernel_rfl), (by kernel_rfl), (by kernel_rfl), (by kernel_rfl), (by kernel_rfl)⟩ Tryz.underlying24 ⟨rfl, (by kernel_rfl)⟩ Tryz.underlying22 Tryz.underlying117 (by kernel_rfl) (by kernel_rfl) ⟨Tryz.underlying3, Tryz.underlying3, Tryz.underlying3, Tryz.underlying3, Tryz.underlying3, Tryz.underlying3, Tryz.underlying3⟩ (hval 1 30 v1 rfl rfl) h1
  obtain ⟨x1, hx1, hy1⟩ := ha1 3
  clear hA0 hval0 hsz0 hsz
  obtain ⟨H1, n1, hc⟩ := Ax.law3 (H := Ax.obsH [ob0, obi0, obd0, ob1]) (n := 4) (hy0 _ _ (Ax.obsH_at rfl) (by decide : 0 < 4)) hl0 hn0 (hyi0 _ _ (Ax.obsH_at rfl) (by decide : 1 < 4)) hli0 hni0 (hyd0 _ _ (Ax.obsH_at rfl) (by decide : 2 < 4)) hld0 hnd0 (hy1 _ _ (Ax.obsH_at rfl) (by decide : 3 < 4)) hl1 hn1
  have hwalk := Ax.obs_walk (P := Tryz.prog) (by kernel_rfl) [ob0, obi0, obd0, ob1] (args := [.agg ⟨[x0, xi0, xd0]⟩, .agg ⟨[x1, .int .i64 m11, .int .i64 m12, .int .i64 m13, .int .i64 m14, .int .i64 m15, .int .i64 m16, .int .i64 m17]⟩]) (args' := [.agg ⟨[c0, ci0, cd0]⟩, .agg ⟨[c1, .int .i64 m11, .int .i64 m12, .int .i64 m13, .int .i64 m14, .int .i64 m15, .int .i64 m16, .int .i64 m17]⟩]) (.cons (.p (.agg (.cons (.s (hx0 _ (Ax.obsG_at rfl))) (.cons (.s (hxi0 _ (Ax.obsG_at rfl))) (.cons (.s (hxd0 _ (Ax.obsG_at rfl))) .nil))))) (.cons (.p (.agg (.cons (.s (hx1 _ (Ax.obsG_at rfl))) (.cons (.s (.int _ _)) (.cons (.s (.int _ _)) (.cons (.s (.int _ _)) (.cons (.s (.int _ _)) (.cons (.s (.int _ _)) (.cons (.s (.int _ _)) (.cons (.s (.int _ _)) .nil)))))))))) .nil)) hc
  refine hwalk.mono fun e W' ⟨he, bel⟩ => ?_
  subst he
  exact ⟨_, rfl, _, _, _, [], _, [], hW', trodAll_mk1 (shut_bool Tryz.underlying4 _), (trodAll_cons_mk (Below.trod laidOut (by kernel_rfl) (of_decide_eq_true (by kernel_rfl)) k0 bel lt0) (trodAll_cons_mk (Below.trod laidOut (by kernel_rfl) (of_decide_eq_true (by kernel_rfl)) k1 bel lt1) trodAll_mk0)), rfl, bel.frame _, fun h => by cases h⟩
theorem over : Rows.fnExactStepRow.holds Tryz.pinned (OpenSpec.ofChange Rows.fnExactStepSpec) :=
  OpenClaim.holds_of_wide 3 Tryz.f3 rfl rfl rfl rfl rfl rfl rfl ⟨rfl, rfl, rfl, rfl, rfl⟩ rfl rfl rfl rfl rfl (by kernel_rfl) Tryz.func3 (by kernel_rfl)
    (of_decide_eq_true (by kernel_rfl)) (by unfold Func.isWrapper; first | (rw [if_pos (by decide +kernel)]; kernel_rfl) | (rw [if_neg (by decide +kernel)]; exact ⟨rfl, rfl⟩))
    (fun os started H enc _ => lifted os started H enc)
theorem proved : Rows.FnExactStepSaid := over
#print axioms proved
end Go.Proofs.YtcffcnipmgkjfaaGreat.fnExactStep
namespace Go.Proofs.YtcffcnipmgkjfaaGreat
/-- The row, under a short name, for the claim. -/
theorem fnExactStep_holds : Rows.FnExactStepSaid := fnExactStep.proved
end Go.Proofs.YtcffcnipmgkjfaaGreat
