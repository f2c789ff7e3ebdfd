/- Contracts: a right machine. -/
import Derived.Test.YtjbfdaemgpmgjaaK28
set_option linter.unusedVariables false
set_option linter.unusedSimpArgs false
set_option maxHeartbeats 4000000
namespace Go.Proofs.Ytjbfdaemgpmgjaa.Ax
open Go
def MachOk (l : List Nd) (li : List Ins) (ld : List Df) (m : List Nd) (a s e d t k r : Int) : Prop :=
  CodeOk l li ld ∧ PoolOk m ∧ (0 ≤ s ∧ s < m.length) ∧ (0 ≤ e ∧ e < m.length) ∧ (0 ≤ d ∧ d < m.length) ∧
  ((t = 0 ∧ (0 ≤ a ∧ a ≤ (li.length : Int) - 1) ∧ k = 0 ∧ r = 0) ∨
   (t = 1 ∧ (0 ≤ a ∧ a ≤ (li.length : Int) - 1) ∧ (13 ≤ k ∧ k ≤ 19) ∧ k ≠ 18 ∧ (0 ≤ r ∧ r < m.length)) ∨
   (t = 2 ∧ a = 0 ∧ k = 0 ∧ (0 ≤ r ∧ r < m.length)) ∨
   (t = 3 ∧ a = 0 ∧ (1 ≤ k ∧ k ≤ 7) ∧ r = 0))
instance (l : List Nd) (li : List Ins) (ld : List Df) (m : List Nd) (a s e d t k r : Int) : Decidable (MachOk l li ld m a s e d t k r) := by unfold MachOk; infer_instance
theorem k54 {n : Nat} {H : Hp} {v vl vd : Value} {li : List Ins} (hvl : Li eIns n H vl li) (hll : li.length ≤ 1048576) (a : Int) : Rt Try.prog 54 [.agg ⟨[v, vl, vd]⟩, .int .i64 a] H n (.bool (decide (0 ≤ a ∧ a ≤ (li.length : Int) - 1))) := by
  apply Rt.mk
  rw [c54]; unfold S54
  have hw : IntKind.i64.wrap ((li.length : Int) - 1) = li.length - 1 := w64 (by omega)
  (((repeat (first | (with_reducible apply Wp.step; case h => ((try simp (disch := omega) only [↓reduceIte, ask_true, ↓X0, X1, Nat.reduceEqDiff, Int.reduceEq, Nat.reduceAdd, Nat.reduceSub, X2, Hp_ne, Nat.reduceLeDiff, hvl.len, hw, k70]); with_reducible exact rfl)) | (apply Wp.andS) | (apply Wp.orS) | ((first | with_reducible apply Wp.gs | with_reducible apply Wp.cs | with_reducible apply Wp.cselX | with_reducible apply Wp.askT | with_reducible apply Wp.iteKT | with_reducible apply Wp.ikb | with_reducible apply Wp.askb); case h => ((try simp (disch := omega) only [↓reduceIte, ask_true, ↓X0, X1, Nat.reduceEqDiff, Int.reduceEq, Nat.reduceAdd, Nat.reduceSub, X2, Hp_ne, Nat.reduceLeDiff, hvl.len, hw, k70]); (first | done | with_reducible exact bT | with_reducible exact bF))) | (with_reducible apply Wp.gu) | (simp only [↓X3]) | (simp (disch := decide) only [asks_nil, asks_in, asks_out, askB_nil, askB_in, askB_out]) | (with_reducible apply Wp.assoc))); try simp only [outOf_exit, outOf_ret]); try (with_reducible apply Wp.cargs; case h => ((try simp (disch := omega) only [↓reduceIte, ask_true, ↓X0, X1, Nat.reduceEqDiff, Int.reduceEq, Nat.reduceAdd, Nat.reduceSub, X2, Hp_ne, Nat.reduceLeDiff, hvl.len, hw, k70]); with_reducible exact rfl)))
  exact Wp.pure ⟨by simp only; omega, (by intros; first | with_reducible rfl | simp (disch := omega) only [Hp_ne, Hp_same]), rfl⟩
end Go.Proofs.Ytjbfdaemgpmgjaa.Ax
