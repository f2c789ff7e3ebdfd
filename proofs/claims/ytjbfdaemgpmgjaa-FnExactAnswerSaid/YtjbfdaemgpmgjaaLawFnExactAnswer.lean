/- The law FnExactAnswer is true of every call: the call comes to an end, answers true, and leaves what was there as it was. -/
import Derived.Test.YtjbfdaemgpmgjaaRows
import Derived.Test.YtjbfdaemgpmgjaaLFnExactAnswer
import Derived.Test.YtjbfdaemgpmgjaaAx22
import Derived.WalkKit
import Derived.ProofKit
import Derived.OpenShut
import Derived.ShutString
import Derived.ChangeOld
import Derived.Below
import Derived.SizedLaws
import Derived.RowKit
import Derived.KernelRfl
import Derived.ChangeSlices
namespace Go.Proofs.Ytjbfdaemgpmgjaa.fnExactAnswer
open Go.ChangeShapes Go.WideShapes Go.ChangeAt Go.RowKit
open Go.ChangeMaps (open_string shut_string)
set_option linter.unusedVariables false
theorem own : ownKnob Try.prog.godebug = none := by kernel_rfl
theorem laidOut : laidOutB Try.prog = true := by kernel_rfl
set_option maxRecDepth 100000 in
theorem lifted (os : Os) (started : os.Started) (H : Type) (enc : TypeId × Value → H) :
    ReturnsInHanded {} Try.checked os 5 .any (Rows.fnExactAnswerSpec.pre6 enc Try.prog Try.f5 Rows.fnExactAnswerRow.domain false) (Rows.fnExactAnswerSpec.post enc Try.prog Try.f5 false true false false) := by
  refine returnsInHanded_of_change_sized (C := Try.checked) own started (by kernel_rfl) Try.func5
    (ChangeSpec.witness6 (enc := enc) (C := Try.checked) false ⟨#[], #[.agg #[.slice none 0 0, .slice none 0 0, .slice none 0 0], .agg #[.slice none 0 0, .int .i64 0, .int .i64 0, .int .i64 0, .int .i64 0, .int .i64 0, .int .i64 0, .int .i64 0], .agg #[.slice none 0 0], .int .i64 0], []⟩ 8 (by kernel_rfl) (by kernel_rfl) (by kernel_rfl) (by kernel_rfl)) ?_
  intro W base args ds gs before hval0 hW hcnd hsz0 _
  have hsz : (DataW.weightsEach Try.prog (Try.f5.params.toList ++ Rows.fnExactAnswerSpec.plain.varTypes Try.prog) (ds ++ gs)).all (· ≤ reachBytes) = true := hsz0
  have hval : ∀ (j : Nat) t v, Try.f5.params[j]? = some t → args[j]? = some v → Value.okWide Try.prog W .any base t v := hval0
  have hW' := hW
  obtain ⟨p, q, hA0, hV, rfl, hfz, hnd⟩ := hW
  have hA : DataW.TrodAll enc Try.prog W 0 (fun _ => true) true Try.f5.params.toList args.toList ds p := hA0
  rw [Try.params5] at hA hval hsz
  obtain ⟨v0, vs0, d0, ds0, p0, q0, hargs, rfl, rfl, h0, r0⟩ := trodAll_cons hA
  obtain ⟨v1, vs1, d1, ds1, p1, q1, rfl, rfl, rfl, h1, r1⟩ := trodAll_cons r0
  obtain ⟨v2, vs2, d2, ds2, p2, q2, rfl, rfl, rfl, h2, r2⟩ := trodAll_cons r1
  obtain ⟨v3, vs3, d3, ds3, p3, q3, rfl, rfl, rfl, h3, r3⟩ := trodAll_cons r2
  obtain ⟨rfl, rfl, rfl⟩ := trodAll_nil r3
  obtain rfl : args = #[v0, v1, v2, v3] := by cases args; simp_all
  obtain ⟨rfl, rfl⟩ := trodVars_none hV
  have k0 := h0
  have lt0 : ∀ x ∈ p0, x.block < W.heap.size := by obtain ⟨m, hm⟩ := k0; exact DataW.trod_lt m _ _ _ hm
  obtain ⟨c0, ci0, cd0, ob0, obi0, obd0, l0, li0, ld0, rfl, ⟨hn0, hl0, ha0⟩, ⟨hni0, hli0, hai0⟩, hnd0, hld0, had0⟩ := Ax.code_param (W := W) Try.underlying28 (by kernel_rfl) ⟨rfl, rfl, rfl⟩ ⟨(by kernel_rfl), (by kernel_rfl), (by kernel_rfl)⟩ Try.underlying24 ⟨rfl, (by kernel_rfl)⟩ Try.underlying22 Try.underlying133 (by kernel_rfl) (by kernel_rfl) Try.underlying25 Try.underlying129 (by kernel_rfl) (by kernel_rfl) Try.underlying26 Try.underlying131 (by kernel_rfl) (by kernel_rfl) (hval 0 28 v0 rfl rfl) h0
  obtain ⟨x0, hx0, hy0⟩ := ha0 0
  obtain ⟨xi0, hxi0, hyi0⟩ := hai0 1
  obtain ⟨xd0, hxd0, hyd0⟩ := had0 2
  have k1 := h1
  have lt1 : ∀ x ∈ p1, x.block < W.heap.size := by obtain ⟨m, hm⟩ := k1; exact DataW.trod_lt m _ _ _ hm
  obtain ⟨c1, ob1, l1, m11, m12, m13, m14, m15, m16, m17, rfl, hn1, hl1, ha1⟩ := Ax.machine_param (W := W) Try.underlying60 (by kernel_rfl) ⟨rfl, rfl, rfl, rfl, rfl, rfl, rfl, rfl⟩ ⟨(by kernel_rfl), (by kernel_rfl), (by kernel_rfl), (by kernel_rfl), (by kernel_rfl), (by kernel_rfl), (by kernel_rfl), (by kernel_rfl)⟩ Try.underlying24 ⟨rfl, (by kernel_rfl)⟩ Try.underlying22 Try.underlying133 (by kernel_rfl) (by kernel_rfl) ⟨Try.underlying3, Try.underlying3, Try.underlying3, Try.underlying3, Try.underlying3, Try.underlying3, Try.underlying3⟩ (hval 1 60 v1 rfl rfl) h1
  obtain ⟨x1, hx1, hy1⟩ := ha1 3
  have k2 := h2
  have lt2 : ∀ x ∈ p2, x.block < W.heap.size := by obtain ⟨m, hm⟩ := k2; exact DataW.trod_lt m _ _ _ hm
  obtain ⟨c2, ob2, l2, rfl, hn2, hl2, ha2⟩ := Ax.pool_param (W := W) Try.underlying24 (by kernel_rfl) (by rfl) (by kernel_rfl) Try.underlying22 Try.underlying133 (by kernel_rfl) (by kernel_rfl) (hval 2 24 v2 rfl rfl) h2
  obtain ⟨x2, hx2, hy2⟩ := ha2 4
  obtain ⟨a3, rfl, rfl, rfl, w3⟩ := open_int Try.underlying3 (hval 3 3 v3 rfl rfl) h3
  clear hA0 hval0 hsz0 hsz
  obtain ⟨H1, n1, hc⟩ := Ax.law5 (H := Ax.obsH [ob0, obi0, obd0, ob1, ob2]) (n := 5) (hy0 _ _ (Ax.obsH_at rfl) (by decide : 0 < 5)) hl0 hn0 (hyi0 _ _ (Ax.obsH_at rfl) (by decide : 1 < 5)) hli0 hni0 (hyd0 _ _ (Ax.obsH_at rfl) (by decide : 2 < 5)) hld0 hnd0 (hy1 _ _ (Ax.obsH_at rfl) (by decide : 3 < 5)) hl1 hn1 (hy2 _ _ (Ax.obsH_at rfl) (by decide : 4 < 5)) hl2 hn2 a3 w3
  have hwalk := Ax.obs_walk (P := Try.prog) (by kernel_rfl) [ob0, obi0, obd0, ob1, ob2] (args := [.agg ⟨[x0, xi0, xd0]⟩, .agg ⟨[x1, .int .i64 m11, .int .i64 m12, .int .i64 m13, .int .i64 m14, .int .i64 m15, .int .i64 m16, .int .i64 m17]⟩, .agg ⟨[x2]⟩, .int .i64 a3]) (args' := [.agg ⟨[c0, ci0, cd0]⟩, .agg ⟨[c1, .int .i64 m11, .int .i64 m12, .int .i64 m13, .int .i64 m14, .int .i64 m15, .int .i64 m16, .int .i64 m17]⟩, .agg ⟨[c2]⟩, .int .i64 a3]) (.cons (.p (.agg (.cons (.s (hx0 _ (Ax.obsG_at rfl))) (.cons (.s (hxi0 _ (Ax.obsG_at rfl))) (.cons (.s (hxd0 _ (Ax.obsG_at rfl))) .nil))))) (.cons (.p (.agg (.cons (.s (hx1 _ (Ax.obsG_at rfl))) (.cons (.s (.int _ _)) (.cons (.s (.int _ _)) (.cons (.s (.int _ _)) (.cons (.s (.int _ _)) (.cons (.s (.int _ _)) (.cons (.s (.int _ _)) (.cons (.s (.int _ _)) .nil)))))))))) (.cons (.p (.agg (.cons (.s (hx2 _ (Ax.obsG_at rfl))) .nil))) (.cons (Ax.VR.sr (.int _ _)) .nil)))) hc
  refine hwalk.mono fun e W' ⟨he, bel⟩ => ?_
  subst he
  exact ⟨_, rfl, _, _, _, [], _, [], hW', trodAll_mk1 (shut_bool Try.underlying4 _), (trodAll_cons_mk (Below.trod laidOut (by kernel_rfl) (of_decide_eq_true (by kernel_rfl)) k0 bel lt0) (trodAll_cons_mk (Below.trod laidOut (by kernel_rfl) (of_decide_eq_true (by kernel_rfl)) k1 bel lt1) (trodAll_cons_mk (Below.trod laidOut (by kernel_rfl) (of_decide_eq_true (by kernel_rfl)) k2 bel lt2) (trodAll_cons_mk (shut_int Try.underlying3 w3) trodAll_mk0)))), rfl, bel.frame _, fun h => by cases h⟩
theorem over : Rows.fnExactAnswerRow.holds Try.pinned (OpenSpec.ofChange Rows.fnExactAnswerSpec) :=
  OpenClaim.holds_of_wide 5 Try.f5 rfl rfl rfl rfl rfl rfl rfl ⟨rfl, rfl, rfl, rfl, rfl⟩ rfl rfl rfl rfl rfl (by kernel_rfl) Try.func5 (by kernel_rfl)
    (of_decide_eq_true (by kernel_rfl)) (by unfold Func.isWrapper; first | (rw [if_pos (by decide +kernel)]; kernel_rfl) | (rw [if_neg (by decide +kernel)]; exact ⟨rfl, rfl⟩))
    (fun os started H enc _ => lifted os started H enc)
theorem proved : Rows.FnExactAnswerSaid := over
#print axioms proved
end Go.Proofs.Ytjbfdaemgpmgjaa.fnExactAnswer
namespace Go.Proofs.Ytjbfdaemgpmgjaa
/-- The row, under a short name, for the claim. -/
theorem fnExactAnswer_holds : Rows.FnExactAnswerSaid := fnExactAnswer.proved
end Go.Proofs.Ytjbfdaemgpmgjaa
