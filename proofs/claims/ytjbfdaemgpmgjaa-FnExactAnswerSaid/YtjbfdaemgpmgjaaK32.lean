/- . -/
import Derived.Test.YtjbfdaemgpmgjaaK21
import Derived.Test.YtjbfdaemgpmgjaaK35
set_option linter.unusedVariables false
set_option linter.unusedSimpArgs false
set_option maxHeartbeats 4000000
namespace Go.Proofs.Ytjbfdaemgpmgjaa.Ax
open Go
def tidyRoots (s e d t r : Int) : List Int := if t = 1 ∨ t = 2 then [s, e, d, r] else [s, e, d]
def tidyP (l : List Nd) (R : List Int) : List Nd := if rootsB l R = true then (inRun (reachM l R) (-1) [] l).1 else l
def tidyI (l : List Nd) (R : List Int) (x : Int) : Int := if rootsB l R = true then gi (inRun (reachM l R) (-1) [] l).2 x else x
theorem tidyP_len (l : List Nd) (R : List Int) : (tidyP l R).length ≤ l.length := by
  unfold tidyP
  split
  · have := (inRun_le (reachM l R) (-1) [] l).2; simpa using this
  · exact Nat.le_refl _
theorem k81 {n : Nat} {H : Hp} {v : Value} {l : List Nd} (hv : Li eNode n H v l) (hl : l.length ≤ 1048576) (a s e d t k r : Int) : RtN Try.prog 81 [.agg ⟨[v, .int .i64 a, .int .i64 s, .int .i64 e, .int .i64 d, .int .i64 t, .int .i64 k, .int .i64 r]⟩] H n (fun q H' n' => ∃ u, q = .agg ⟨[u, .int .i64 a, .int .i64 s, .int .i64 e, .int .i64 d, .int .i64 t, .int .i64 k, .int .i64 r]⟩ ∧ New eNode n n' H' u l) := by
  apply RtN.mk
  rw [c81]; unfold S81
  (((repeat (first | (with_reducible apply Wp.step; case h => ((try simp (disch := omega) only [↓reduceIte, ask_true, ↓X0, X1, Nat.reduceEqDiff, Int.reduceEq, Nat.reduceAdd, Nat.reduceSub, X2, Hp_ne, Nat.reduceLeDiff]); with_reducible exact rfl)) | (apply Wp.andS) | (apply Wp.orS) | ((with_reducible first | apply Wp.gs | apply Wp.cs | apply Wp.cselX | apply Wp.askT | apply Wp.iteKT | apply Wp.ikb); case h => ((try simp (disch := omega) only [↓reduceIte, ask_true, ↓X0, X1, Nat.reduceEqDiff, Int.reduceEq, Nat.reduceAdd, Nat.reduceSub, X2, Hp_ne, Nat.reduceLeDiff]); (with_reducible first | done | exact bT | exact bF))) | (with_reducible apply Wp.gu) | (simp only [↓X3]) | (with_reducible apply Wp.assoc))); try simp only [outOf_exit, outOf_ret]); try (with_reducible apply Wp.cargs; case h => ((try simp (disch := omega) only [↓reduceIte, ask_true, ↓X0, X1, Nat.reduceEqDiff, Int.reduceEq, Nat.reduceAdd, Nat.reduceSub, X2, Hp_ne, Nat.reduceLeDiff]); with_reducible exact rfl)))
  refine Wp.rtn (k55 (hv.mv (by omega) (by intros; first | with_reducible rfl | simp (disch := omega) only [Hp_ne, Hp_same])) (by omega)) ?_
  rintro _ H1 n1 q1 s1 ⟨u, rfl, id, i1, i2, i3⟩
  (((repeat (first | (with_reducible apply Wp.step; case h => ((try simp (disch := omega) only [↓reduceIte, ask_true, ↓X0, X1, Nat.reduceEqDiff, Int.reduceEq, Nat.reduceAdd, Nat.reduceSub, X2, Hp_ne, Nat.reduceLeDiff, s1]); with_reducible exact rfl)) | (apply Wp.andS) | (apply Wp.orS) | ((with_reducible first | apply Wp.gs | apply Wp.cs | apply Wp.cselX | apply Wp.askT | apply Wp.iteKT | apply Wp.ikb); case h => ((try simp (disch := omega) only [↓reduceIte, ask_true, ↓X0, X1, Nat.reduceEqDiff, Int.reduceEq, Nat.reduceAdd, Nat.reduceSub, X2, Hp_ne, Nat.reduceLeDiff, s1]); (with_reducible first | done | exact bT | exact bF))) | (with_reducible apply Wp.gu) | (simp only [↓X3]) | (with_reducible apply Wp.assoc))); try simp only [outOf_exit, outOf_ret]); try (with_reducible apply Wp.cargs; case h => ((try simp (disch := omega) only [↓reduceIte, ask_true, ↓X0, X1, Nat.reduceEqDiff, Int.reduceEq, Nat.reduceAdd, Nat.reduceSub, X2, Hp_ne, Nat.reduceLeDiff, s1]); with_reducible exact rfl)))
  exact Wp.pure ⟨by simp only; omega, (by intros; first | with_reducible rfl | simp (disch := omega) only [Hp_ne, Hp_same, s1]), u, rfl, id, by omega, by simp only; omega, i3.mv (by intros; first | with_reducible rfl | simp (disch := omega) only [Hp_ne, Hp_same])⟩
theorem k77 {n : Nat} {H : Hp} {v : Value} {l : List Nd} (hv : Li eNode n H v l) (hl : l.length ≤ 1048576) (a s e d t k r : Int) : RtN Try.prog 77 [.agg ⟨[v, .int .i64 a, .int .i64 s, .int .i64 e, .int .i64 d, .int .i64 t, .int .i64 k, .int .i64 r]⟩] H n (fun q H' n' => ∃ u, q = .agg ⟨[u, .int .i64 a, .int .i64 s, .int .i64 e, .int .i64 d, .int .i64 t, .int .i64 k, .int .i64 r]⟩ ∧ New eNode n n' H' u l) := by
  apply RtN.mk
  rw [c77]; unfold S77
  (((repeat (first | (with_reducible apply Wp.step; case h => ((try simp (disch := omega) only [↓reduceIte, ask_true, ↓X0, X1, Nat.reduceEqDiff, Int.reduceEq, Nat.reduceAdd, Nat.reduceSub, X2, Hp_ne, Nat.reduceLeDiff]); with_reducible exact rfl)) | (apply Wp.andS) | (apply Wp.orS) | ((with_reducible first | apply Wp.gs | apply Wp.cs | apply Wp.cselX | apply Wp.askT | apply Wp.iteKT | apply Wp.ikb); case h => ((try simp (disch := omega) only [↓reduceIte, ask_true, ↓X0, X1, Nat.reduceEqDiff, Int.reduceEq, Nat.reduceAdd, Nat.reduceSub, X2, Hp_ne, Nat.reduceLeDiff]); (with_reducible first | done | exact bT | exact bF))) | (with_reducible apply Wp.gu) | (simp only [↓X3]) | (with_reducible apply Wp.assoc))); try simp only [outOf_exit, outOf_ret]); try (with_reducible apply Wp.cargs; case h => ((try simp (disch := omega) only [↓reduceIte, ask_true, ↓X0, X1, Nat.reduceEqDiff, Int.reduceEq, Nat.reduceAdd, Nat.reduceSub, X2, Hp_ne, Nat.reduceLeDiff]); with_reducible exact rfl)))
  refine Wp.rtn (k47 (hv.mv (by omega) (by intros; first | with_reducible rfl | simp (disch := omega) only [Hp_ne, Hp_same])) (by omega)) ?_
  rintro _ H1 n1 q1 s1 ⟨u, rfl, id, i1, i2, i3⟩
  (((repeat (first | (with_reducible apply Wp.step; case h => ((try simp (disch := omega) only [↓reduceIte, ask_true, ↓X0, X1, Nat.reduceEqDiff, Int.reduceEq, Nat.reduceAdd, Nat.reduceSub, X2, Hp_ne, Nat.reduceLeDiff, s1]); with_reducible exact rfl)) | (apply Wp.andS) | (apply Wp.orS) | ((with_reducible first | apply Wp.gs | apply Wp.cs | apply Wp.cselX | apply Wp.askT | apply Wp.iteKT | apply Wp.ikb); case h => ((try simp (disch := omega) only [↓reduceIte, ask_true, ↓X0, X1, Nat.reduceEqDiff, Int.reduceEq, Nat.reduceAdd, Nat.reduceSub, X2, Hp_ne, Nat.reduceLeDiff, s1]); (with_reducible first | done | exact bT | exact bF))) | (with_reducible apply Wp.gu) | (simp only [↓X3]) | (with_reducible apply Wp.assoc))); try simp only [outOf_exit, outOf_ret]); try (with_reducible apply Wp.cargs; case h => ((try simp (disch := omega) only [↓reduceIte, ask_true, ↓X0, X1, Nat.reduceEqDiff, Int.reduceEq, Nat.reduceAdd, Nat.reduceSub, X2, Hp_ne, Nat.reduceLeDiff, s1]); with_reducible exact rfl)))
  exact Wp.pure ⟨by simp only; omega, (by intros; first | with_reducible rfl | simp (disch := omega) only [Hp_ne, Hp_same, s1]), u, rfl, id, by omega, by simp only; omega, i3.mv (by intros; first | with_reducible rfl | simp (disch := omega) only [Hp_ne, Hp_same])⟩
end Go.Proofs.Ytjbfdaemgpmgjaa.Ax
