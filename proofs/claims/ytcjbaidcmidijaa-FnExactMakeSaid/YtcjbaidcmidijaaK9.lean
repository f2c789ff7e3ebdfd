/- Contracts: what a right node and a right pool is. -/
import Derived.Test.YtcjbaidcmidijaaK8
import Derived.Test.YtcjbaidcmidijaaK1
set_option linter.unusedVariables false
set_option linter.unusedSimpArgs false
namespace Go.Proofs.Ytcjbaidcmidijaa.Ax
open Go
def nameOk (s : ByteArray) : Bool := decide (1 ≤ s.size ∧ s.size ≤ 12) && (numsOf s).all nameByte
def NodeOk (x : Nd) (m : Int) : Prop :=
  (x.k = 1 ∧ x.n = 0 ∧ x.s = ⟨#[]⟩ ∧ x.a = 0 ∧ x.b = 0) ∨
  (x.k = 2 ∧ (0 ≤ x.n ∧ x.n ≤ 1) ∧ x.s = ⟨#[]⟩ ∧ x.a = 0 ∧ x.b = 0) ∨
  (x.k = 3 ∧ (-1000000000 ≤ x.n ∧ x.n ≤ 1000000000) ∧ x.s = ⟨#[]⟩ ∧ x.a = 0 ∧ x.b = 0) ∨
  (x.k = 4 ∧ x.n = 0 ∧ nameOk x.s = true ∧ x.a = 0 ∧ x.b = 0) ∨
  (x.k = 5 ∧ x.n = 0 ∧ x.s = ⟨#[]⟩ ∧ (0 ≤ x.a ∧ x.a ≤ m - 1) ∧ (0 ≤ x.b ∧ x.b ≤ m - 1)) ∨
  (x.k = 6 ∧ (0 ≤ x.n ∧ x.n ≤ 1000000000) ∧ x.s = ⟨#[]⟩ ∧ (0 ≤ x.a ∧ x.a ≤ m - 1) ∧ x.b = 0) ∨
  (x.k = 7 ∧ x.n = 0 ∧ x.s = ⟨#[]⟩ ∧ (0 ≤ x.a ∧ x.a ≤ m - 1) ∧ x.b = 0) ∨
  (x.k = 8 ∧ (0 ≤ x.n ∧ x.n ≤ 99) ∧ x.s = ⟨#[]⟩ ∧ x.a = 0 ∧ x.b = 0) ∨
  (x.k = 9 ∧ (0 ≤ x.n ∧ x.n ≤ 1000000000) ∧ x.s = ⟨#[]⟩ ∧ x.a = 0 ∧ x.b = 0)
instance (x : Nd) (m : Int) : Decidable (NodeOk x m) := by unfold NodeOk; infer_instance
theorem k52 (x : Nd) (hx : x.s.size ≤ 1048576) (m : Int) (hm : 0 ≤ m ∧ m ≤ 1000000000) (H : Hp) (n : Nat) : Rt Try.prog 52 [.agg ⟨x.cells⟩, .int .i64 m] H n (.bool (decide (NodeOk x m))) := by
  apply Rt.of
  rw [c52]; unfold S52
  have hw : IntKind.i64.wrap (m - 1) = m - 1 := w64 (by omega)
  obtain ⟨xk, xn, xs, xa, xb⟩ := x
  simp only at hx
  have fin : ∀ (b : Bool) (H' : Hp) (n' : Nat), n ≤ n' → Same n H H' → b = decide (NodeOk ⟨xk, xn, xs, xa, xb⟩ m) → Wp (some (Value.bool b, H', n')) (fun q => n ≤ q.2.2 ∧ Same n H q.2.1 ∧ q.1 = .bool (decide (NodeOk ⟨xk, xn, xs, xa, xb⟩ m))) := by
    intro b H' n' h1 h2 h3
    exact Wp.pure ⟨h1, h2, by rw [h3]⟩
  by_cases e1 : xk = 1
  · subst e1
    ((repeat (first | (with_reducible apply Wp.step; case h => ((try simp (disch := omega) only [↓reduceIte, ask_true, ↓X0, X1, Nat.reduceEqDiff, Int.reduceEq, Nat.reduceAdd, Nat.reduceSub, X2, Hp_ne, Nat.reduceLeDiff, Nd.cells, k80]); with_reducible exact rfl)) | (apply Wp.andS) | (apply Wp.orS) | ((first | with_reducible apply Wp.gs | with_reducible apply Wp.cs | with_reducible apply Wp.cselX | with_reducible apply Wp.askT | with_reducible apply Wp.iteKT); case h => ((try simp (disch := omega) only [↓reduceIte, ask_true, ↓X0, X1, Nat.reduceEqDiff, Int.reduceEq, Nat.reduceAdd, Nat.reduceSub, X2, Hp_ne, Nat.reduceLeDiff, Nd.cells, k80]); (first | done | with_reducible exact bT | with_reducible exact bF))) | (with_reducible apply Wp.gu) | (simp only [↓X3]) | (with_reducible apply Wp.assoc))); try simp only [outOf_exit, outOf_ret])
    refine fin _ _ _ (by omega) (by (repeat (first | exact Same.refl _ _ | refine Same.set ?_ (by omega) _))) ?_
    rw [Bool.eq_iff_iff]; simp [NodeOk, nameOk]; try grind
  by_cases e2 : xk = 2
  · subst e2
    ((repeat (first | (with_reducible apply Wp.step; case h => ((try simp (disch := omega) only [↓reduceIte, ask_true, ↓X0, X1, Nat.reduceEqDiff, Int.reduceEq, Nat.reduceAdd, Nat.reduceSub, X2, Hp_ne, Nat.reduceLeDiff, Nd.cells, k80]); with_reducible exact rfl)) | (apply Wp.andS) | (apply Wp.orS) | ((first | with_reducible apply Wp.gs | with_reducible apply Wp.cs | with_reducible apply Wp.cselX | with_reducible apply Wp.askT | with_reducible apply Wp.iteKT); case h => ((try simp (disch := omega) only [↓reduceIte, ask_true, ↓X0, X1, Nat.reduceEqDiff, Int.reduceEq, Nat.reduceAdd, Nat.reduceSub, X2, Hp_ne, Nat.reduceLeDiff, Nd.cells, k80]); (first | done | with_reducible exact bT | with_reducible exact bF))) | (with_reducible apply Wp.gu) | (simp only [↓X3]) | (with_reducible apply Wp.assoc))); try simp only [outOf_exit, outOf_ret])
    refine fin _ _ _ (by omega) (by (repeat (first | exact Same.refl _ _ | refine Same.set ?_ (by omega) _))) ?_
    rw [Bool.eq_iff_iff]; simp [NodeOk, nameOk]; try grind
  by_cases e3 : xk = 3
  · subst e3
    ((repeat (first | (with_reducible apply Wp.step; case h => ((try simp (disch := omega) only [↓reduceIte, ask_true, ↓X0, X1, Nat.reduceEqDiff, Int.reduceEq, Nat.reduceAdd, Nat.reduceSub, X2, Hp_ne, Nat.reduceLeDiff, Nd.cells, k80]); with_reducible exact rfl)) | (apply Wp.andS) | (apply Wp.orS) | ((first | with_reducible apply Wp.gs | with_reducible apply Wp.cs | with_reducible apply Wp.cselX | with_reducible apply Wp.askT | with_reducible apply Wp.iteKT); case h => ((try simp (disch := omega) only [↓reduceIte, ask_true, ↓X0, X1, Nat.reduceEqDiff, Int.reduceEq, Nat.reduceAdd, Nat.reduceSub, X2, Hp_ne, Nat.reduceLeDiff, Nd.cells, k80]); (first | done | with_reducible exact bT | with_reducible exact bF))) | (with_reducible apply Wp.gu) | (simp only [↓X3]) | (with_reducible apply Wp.assoc))); try simp only [outOf_exit, outOf_ret])
    refine fin _ _ _ (by omega) (by (repeat (first | exact Same.refl _ _ | refine Same.set ?_ (by omega) _))) ?_
    rw [Bool.eq_iff_iff]; simp [NodeOk, nameOk]; try grind
  by_cases e4 : xk = 4
  · subst e4
    obtain ⟨H1, n1, a1, a2, a3⟩ := k79 xs hx (H.set n (some (.row [.int .i64 4, .int .i64 xn, .string xs, .int .i64 xa, .int .i64 xb] 0 true))) (n + 30)
    have b0 : H1 n = some (.row [.int .i64 4, .int .i64 xn, .string xs, .int .i64 xa, .int .i64 xb] 0 true) := by rw [a2 n (by omega)]; exact Hp_same _ _ _
    ((repeat (first | (with_reducible apply Wp.step; case h => ((try simp (disch := omega) only [↓reduceIte, ask_true, ↓X0, X1, Nat.reduceEqDiff, Int.reduceEq, Nat.reduceAdd, Nat.reduceSub, X2, Hp_ne, Nat.reduceLeDiff, Nd.cells, k80, a3, b0]); with_reducible exact rfl)) | (apply Wp.andS) | (apply Wp.orS) | ((first | with_reducible apply Wp.gs | with_reducible apply Wp.cs | with_reducible apply Wp.cselX | with_reducible apply Wp.askT | with_reducible apply Wp.iteKT); case h => ((try simp (disch := omega) only [↓reduceIte, ask_true, ↓X0, X1, Nat.reduceEqDiff, Int.reduceEq, Nat.reduceAdd, Nat.reduceSub, X2, Hp_ne, Nat.reduceLeDiff, Nd.cells, k80, a3, b0]); (first | done | with_reducible exact bT | with_reducible exact bF))) | (with_reducible apply Wp.gu) | (simp only [↓X3]) | (with_reducible apply Wp.assoc))); try simp only [outOf_exit, outOf_ret])
    refine fin _ _ _ ?_ (((Same.refl _ _).set (Nat.le_refl _) _).trans (a2.less (show n ≤ n + 30 by omega)) (Nat.le_refl _)) ?_
    · omega
    rw [Bool.eq_iff_iff]; simp [NodeOk, nameOk]; try grind
  by_cases e5 : xk = 5
  · subst e5
    ((repeat (first | (with_reducible apply Wp.step; case h => ((try simp (disch := omega) only [↓reduceIte, ask_true, ↓X0, X1, Nat.reduceEqDiff, Int.reduceEq, Nat.reduceAdd, Nat.reduceSub, X2, Hp_ne, Nat.reduceLeDiff, Nd.cells, k80, hw]); with_reducible exact rfl)) | (apply Wp.andS) | (apply Wp.orS) | ((first | with_reducible apply Wp.gs | with_reducible apply Wp.cs | with_reducible apply Wp.cselX | with_reducible apply Wp.askT | with_reducible apply Wp.iteKT); case h => ((try simp (disch := omega) only [↓reduceIte, ask_true, ↓X0, X1, Nat.reduceEqDiff, Int.reduceEq, Nat.reduceAdd, Nat.reduceSub, X2, Hp_ne, Nat.reduceLeDiff, Nd.cells, k80, hw]); (first | done | with_reducible exact bT | with_reducible exact bF))) | (with_reducible apply Wp.gu) | (simp only [↓X3]) | (with_reducible apply Wp.assoc))); try simp only [outOf_exit, outOf_ret])
    refine fin _ _ _ (by omega) (by (repeat (first | exact Same.refl _ _ | refine Same.set ?_ (by omega) _))) ?_
    rw [Bool.eq_iff_iff]; simp [NodeOk, nameOk]; try grind
  by_cases e6 : xk = 6
  · subst e6
    ((repeat (first | (with_reducible apply Wp.step; case h => ((try simp (disch := omega) only [↓reduceIte, ask_true, ↓X0, X1, Nat.reduceEqDiff, Int.reduceEq, Nat.reduceAdd, Nat.reduceSub, X2, Hp_ne, Nat.reduceLeDiff, Nd.cells, k80, hw]); with_reducible exact rfl)) | (apply Wp.andS) | (apply Wp.orS) | ((first | with_reducible apply Wp.gs | with_reducible apply Wp.cs | with_reducible apply Wp.cselX | with_reducible apply Wp.askT | with_reducible apply Wp.iteKT); case h => ((try simp (disch := omega) only [↓reduceIte, ask_true, ↓X0, X1, Nat.reduceEqDiff, Int.reduceEq, Nat.reduceAdd, Nat.reduceSub, X2, Hp_ne, Nat.reduceLeDiff, Nd.cells, k80, hw]); (first | done | with_reducible exact bT | with_reducible exact bF))) | (with_reducible apply Wp.gu) | (simp only [↓X3]) | (with_reducible apply Wp.assoc))); try simp only [outOf_exit, outOf_ret])
    refine fin _ _ _ (by omega) (by (repeat (first | exact Same.refl _ _ | refine Same.set ?_ (by omega) _))) ?_
    rw [Bool.eq_iff_iff]; simp [NodeOk, nameOk]; try grind
  by_cases e7 : xk = 7
  · subst e7
    ((repeat (first | (with_reducible apply Wp.step; case h => ((try simp (disch := omega) only [↓reduceIte, ask_true, ↓X0, X1, Nat.reduceEqDiff, Int.reduceEq, Nat.reduceAdd, Nat.reduceSub, X2, Hp_ne, Nat.reduceLeDiff, Nd.cells, k80, hw]); with_reducible exact rfl)) | (apply Wp.andS) | (apply Wp.orS) | ((first | with_reducible apply Wp.gs | with_reducible apply Wp.cs | with_reducible apply Wp.cselX | with_reducible apply Wp.askT | with_reducible apply Wp.iteKT); case h => ((try simp (disch := omega) only [↓reduceIte, ask_true, ↓X0, X1, Nat.reduceEqDiff, Int.reduceEq, Nat.reduceAdd, Nat.reduceSub, X2, Hp_ne, Nat.reduceLeDiff, Nd.cells, k80, hw]); (first | done | with_reducible exact bT | with_reducible exact bF))) | (with_reducible apply Wp.gu) | (simp only [↓X3]) | (with_reducible apply Wp.assoc))); try simp only [outOf_exit, outOf_ret])
    refine fin _ _ _ (by omega) (by (repeat (first | exact Same.refl _ _ | refine Same.set ?_ (by omega) _))) ?_
    rw [Bool.eq_iff_iff]; simp [NodeOk, nameOk]; try grind
  by_cases e8 : xk = 8
  · subst e8
    ((repeat (first | (with_reducible apply Wp.step; case h => ((try simp (disch := omega) only [↓reduceIte, ask_true, ↓X0, X1, Nat.reduceEqDiff, Int.reduceEq, Nat.reduceAdd, Nat.reduceSub, X2, Hp_ne, Nat.reduceLeDiff, Nd.cells, k80]); with_reducible exact rfl)) | (apply Wp.andS) | (apply Wp.orS) | ((first | with_reducible apply Wp.gs | with_reducible apply Wp.cs | with_reducible apply Wp.cselX | with_reducible apply Wp.askT | with_reducible apply Wp.iteKT); case h => ((try simp (disch := omega) only [↓reduceIte, ask_true, ↓X0, X1, Nat.reduceEqDiff, Int.reduceEq, Nat.reduceAdd, Nat.reduceSub, X2, Hp_ne, Nat.reduceLeDiff, Nd.cells, k80]); (first | done | with_reducible exact bT | with_reducible exact bF))) | (with_reducible apply Wp.gu) | (simp only [↓X3]) | (with_reducible apply Wp.assoc))); try simp only [outOf_exit, outOf_ret])
    refine fin _ _ _ (by omega) (by (repeat (first | exact Same.refl _ _ | refine Same.set ?_ (by omega) _))) ?_
    rw [Bool.eq_iff_iff]; simp [NodeOk, nameOk]; try grind
  by_cases e9 : xk = 9
  · subst e9
    ((repeat (first | (with_reducible apply Wp.step; case h => ((try simp (disch := omega) only [↓reduceIte, ask_true, ↓X0, X1, Nat.reduceEqDiff, Int.reduceEq, Nat.reduceAdd, Nat.reduceSub, X2, Hp_ne, Nat.reduceLeDiff, Nd.cells, k80]); with_reducible exact rfl)) | (apply Wp.andS) | (apply Wp.orS) | ((first | with_reducible apply Wp.gs | with_reducible apply Wp.cs | with_reducible apply Wp.cselX | with_reducible apply Wp.askT | with_reducible apply Wp.iteKT); case h => ((try simp (disch := omega) only [↓reduceIte, ask_true, ↓X0, X1, Nat.reduceEqDiff, Int.reduceEq, Nat.reduceAdd, Nat.reduceSub, X2, Hp_ne, Nat.reduceLeDiff, Nd.cells, k80]); (first | done | with_reducible exact bT | with_reducible exact bF))) | (with_reducible apply Wp.gu) | (simp only [↓X3]) | (with_reducible apply Wp.assoc))); try simp only [outOf_exit, outOf_ret])
    refine fin _ _ _ (by omega) (by (repeat (first | exact Same.refl _ _ | refine Same.set ?_ (by omega) _))) ?_
    rw [Bool.eq_iff_iff]; simp [NodeOk, nameOk]; try grind
  ((repeat (first | (with_reducible apply Wp.step; case h => ((try simp (disch := omega) only [↓reduceIte, ask_true, ↓X0, X1, Nat.reduceEqDiff, Int.reduceEq, Nat.reduceAdd, Nat.reduceSub, X2, Hp_ne, Nat.reduceLeDiff, Nd.cells, k80, e1, e2, e3, e4, e5, e6, e7, e8, e9]); with_reducible exact rfl)) | (apply Wp.andS) | (apply Wp.orS) | ((first | with_reducible apply Wp.gs | with_reducible apply Wp.cs | with_reducible apply Wp.cselX | with_reducible apply Wp.askT | with_reducible apply Wp.iteKT); case h => ((try simp (disch := omega) only [↓reduceIte, ask_true, ↓X0, X1, Nat.reduceEqDiff, Int.reduceEq, Nat.reduceAdd, Nat.reduceSub, X2, Hp_ne, Nat.reduceLeDiff, Nd.cells, k80, e1, e2, e3, e4, e5, e6, e7, e8, e9]); (first | done | with_reducible exact bT | with_reducible exact bF))) | (with_reducible apply Wp.gu) | (simp only [↓X3]) | (with_reducible apply Wp.assoc))); try simp only [outOf_exit, outOf_ret])
  refine fin _ _ _ (by omega) (by (repeat (first | exact Same.refl _ _ | refine Same.set ?_ (by omega) _))) ?_
  simp [NodeOk, e1, e2, e3, e4, e5, e6, e7, e8, e9]
theorem k39 (x : Nd) (hx : x.s.size ≤ 1048576) (m : Int) (hm : 0 ≤ m ∧ m ≤ 1000000000) (H : Hp) (n : Nat) : Rt Try.prog 39 [.agg ⟨x.cells⟩, .int .i64 m] H n (.bool (decide (NodeOk x m))) := by
  apply Rt.of
  rw [c39]; unfold S39
  have hw : IntKind.i64.wrap (m - 1) = m - 1 := w64 (by omega)
  obtain ⟨xk, xn, xs, xa, xb⟩ := x
  simp only at hx
  have fin : ∀ (b : Bool) (H' : Hp) (n' : Nat), n ≤ n' → Same n H H' → b = decide (NodeOk ⟨xk, xn, xs, xa, xb⟩ m) → Wp (some (Value.bool b, H', n')) (fun q => n ≤ q.2.2 ∧ Same n H q.2.1 ∧ q.1 = .bool (decide (NodeOk ⟨xk, xn, xs, xa, xb⟩ m))) := by
    intro b H' n' h1 h2 h3
    exact Wp.pure ⟨h1, h2, by rw [h3]⟩
  by_cases e1 : xk = 1
  · subst e1
    ((repeat (first | (with_reducible apply Wp.step; case h => ((try simp (disch := omega) only [↓reduceIte, ask_true, ↓X0, X1, Nat.reduceEqDiff, Int.reduceEq, Nat.reduceAdd, Nat.reduceSub, X2, Hp_ne, Nat.reduceLeDiff, Nd.cells, k68, hw]); with_reducible exact rfl)) | (apply Wp.andS) | (apply Wp.orS) | ((first | with_reducible apply Wp.gs | with_reducible apply Wp.cs | with_reducible apply Wp.cselX | with_reducible apply Wp.askT | with_reducible apply Wp.iteKT); case h => ((try simp (disch := omega) only [↓reduceIte, ask_true, ↓X0, X1, Nat.reduceEqDiff, Int.reduceEq, Nat.reduceAdd, Nat.reduceSub, X2, Hp_ne, Nat.reduceLeDiff, Nd.cells, k68, hw]); (first | done | with_reducible exact bT | with_reducible exact bF))) | (with_reducible apply Wp.gu) | (simp only [↓X3]) | (with_reducible apply Wp.assoc))); try simp only [outOf_exit, outOf_ret])
    refine fin _ _ _ (by omega) (by (repeat (first | exact Same.refl _ _ | refine Same.set ?_ (by omega) _))) ?_
    rw [Bool.eq_iff_iff]; simp [NodeOk, nameOk]; try grind
  by_cases e2 : xk = 2
  · subst e2
    by_cases c0 : 0 ≤ xn ∧ xn ≤ 1
    case neg =>
      ((repeat (first | (with_reducible apply Wp.step; case h => ((try simp (disch := omega) only [↓reduceIte, ask_true, ↓X0, X1, Nat.reduceEqDiff, Int.reduceEq, Nat.reduceAdd, Nat.reduceSub, X2, Hp_ne, Nat.reduceLeDiff, Nd.cells, k68, hw, c0]); with_reducible exact rfl)) | (apply Wp.andS) | (apply Wp.orS) | ((first | with_reducible apply Wp.gs | with_reducible apply Wp.cs | with_reducible apply Wp.cselX | with_reducible apply Wp.askT | with_reducible apply Wp.iteKT); case h => ((try simp (disch := omega) only [↓reduceIte, ask_true, ↓X0, X1, Nat.reduceEqDiff, Int.reduceEq, Nat.reduceAdd, Nat.reduceSub, X2, Hp_ne, Nat.reduceLeDiff, Nd.cells, k68, hw, c0]); (first | done | with_reducible exact bT | with_reducible exact bF))) | (with_reducible apply Wp.gu) | (simp only [↓X3]) | (with_reducible apply Wp.assoc))); try simp only [outOf_exit, outOf_ret])
      refine fin _ _ _ (by omega) (by (repeat (first | exact Same.refl _ _ | refine Same.set ?_ (by omega) _))) ?_
      rw [Bool.eq_iff_iff]; simp [NodeOk, nameOk]; try grind
    ((repeat (first | (with_reducible apply Wp.step; case h => ((try simp (disch := omega) only [↓reduceIte, ask_true, ↓X0, X1, Nat.reduceEqDiff, Int.reduceEq, Nat.reduceAdd, Nat.reduceSub, X2, Hp_ne, Nat.reduceLeDiff, Nd.cells, k68, hw, c0, and_self]); with_reducible exact rfl)) | (apply Wp.andS) | (apply Wp.orS) | ((first | with_reducible apply Wp.gs | with_reducible apply Wp.cs | with_reducible apply Wp.cselX | with_reducible apply Wp.askT | with_reducible apply Wp.iteKT); case h => ((try simp (disch := omega) only [↓reduceIte, ask_true, ↓X0, X1, Nat.reduceEqDiff, Int.reduceEq, Nat.reduceAdd, Nat.reduceSub, X2, Hp_ne, Nat.reduceLeDiff, Nd.cells, k68, hw, c0, and_self]); (first | done | with_reducible exact bT | with_reducible exact bF))) | (with_reducible apply Wp.gu) | (simp only [↓X3]) | (with_reducible apply Wp.assoc))); try simp only [outOf_exit, outOf_ret])
    refine fin _ _ _ (by omega) (by (repeat (first | exact Same.refl _ _ | refine Same.set ?_ (by omega) _))) ?_
    rw [Bool.eq_iff_iff]; simp [NodeOk, nameOk]; try grind
  by_cases e3 : xk = 3
  · subst e3
    by_cases c0 : -1000000000 ≤ xn ∧ xn ≤ 1000000000
    case neg =>
      ((repeat (first | (with_reducible apply Wp.step; case h => ((try simp (disch := omega) only [↓reduceIte, ask_true, ↓X0, X1, Nat.reduceEqDiff, Int.reduceEq, Nat.reduceAdd, Nat.reduceSub, X2, Hp_ne, Nat.reduceLeDiff, Nd.cells, k68, hw, c0]); with_reducible exact rfl)) | (apply Wp.andS) | (apply Wp.orS) | ((first | with_reducible apply Wp.gs | with_reducible apply Wp.cs | with_reducible apply Wp.cselX | with_reducible apply Wp.askT | with_reducible apply Wp.iteKT); case h => ((try simp (disch := omega) only [↓reduceIte, ask_true, ↓X0, X1, Nat.reduceEqDiff, Int.reduceEq, Nat.reduceAdd, Nat.reduceSub, X2, Hp_ne, Nat.reduceLeDiff, Nd.cells, k68, hw, c0]); (first | done | with_reducible exact bT | with_reducible exact bF))) | (with_reducible apply Wp.gu) | (simp only [↓X3]) | (with_reducible apply Wp.assoc))); try simp only [outOf_exit, outOf_ret])
      refine fin _ _ _ (by omega) (by (repeat (first | exact Same.refl _ _ | refine Same.set ?_ (by omega) _))) ?_
      rw [Bool.eq_iff_iff]; simp [NodeOk, nameOk]; try grind
    ((repeat (first | (with_reducible apply Wp.step; case h => ((try simp (disch := omega) only [↓reduceIte, ask_true, ↓X0, X1, Nat.reduceEqDiff, Int.reduceEq, Nat.reduceAdd, Nat.reduceSub, X2, Hp_ne, Nat.reduceLeDiff, Nd.cells, k68, hw, c0, and_self]); with_reducible exact rfl)) | (apply Wp.andS) | (apply Wp.orS) | ((first | with_reducible apply Wp.gs | with_reducible apply Wp.cs | with_reducible apply Wp.cselX | with_reducible apply Wp.askT | with_reducible apply Wp.iteKT); case h => ((try simp (disch := omega) only [↓reduceIte, ask_true, ↓X0, X1, Nat.reduceEqDiff, Int.reduceEq, Nat.reduceAdd, Nat.reduceSub, X2, Hp_ne, Nat.reduceLeDiff, Nd.cells, k68, hw, c0, and_self]); (first | done | with_reducible exact bT | with_reducible exact bF))) | (with_reducible apply Wp.gu) | (simp only [↓X3]) | (with_reducible apply Wp.assoc))); try simp only [outOf_exit, outOf_ret])
    refine fin _ _ _ (by omega) (by (repeat (first | exact Same.refl _ _ | refine Same.set ?_ (by omega) _))) ?_
    rw [Bool.eq_iff_iff]; simp [NodeOk, nameOk]; try grind
  by_cases e4 : xk = 4
  · subst e4
    obtain ⟨n1, a1, a3⟩ := k69 xs hx (H.set n (some (.row [.int .i64 4, .int .i64 xn, .string xs, .int .i64 xa, .int .i64 xb] 0 true))) (n + 8 + 10 + 6 + 10 + 21)
    by_cases c0 : (decide (1 ≤ xs.size ∧ xs.size ≤ 12) && (numsOf xs).all nameByte) = true
    · rw [c0] at a3
      ((repeat (first | (with_reducible apply Wp.step; case h => ((try simp (disch := omega) only [↓reduceIte, ask_true, ↓X0, X1, Nat.reduceEqDiff, Int.reduceEq, Nat.reduceAdd, Nat.reduceSub, X2, Hp_ne, Nat.reduceLeDiff, Nd.cells, k68, hw, a3]); with_reducible exact rfl)) | (apply Wp.andS) | (apply Wp.orS) | ((first | with_reducible apply Wp.gs | with_reducible apply Wp.cs | with_reducible apply Wp.cselX | with_reducible apply Wp.askT | with_reducible apply Wp.iteKT); case h => ((try simp (disch := omega) only [↓reduceIte, ask_true, ↓X0, X1, Nat.reduceEqDiff, Int.reduceEq, Nat.reduceAdd, Nat.reduceSub, X2, Hp_ne, Nat.reduceLeDiff, Nd.cells, k68, hw, a3]); (first | done | with_reducible exact bT | with_reducible exact bF))) | (with_reducible apply Wp.gu) | (simp only [↓X3]) | (with_reducible apply Wp.assoc))); try simp only [outOf_exit, outOf_ret])
      refine fin _ _ _ (by omega) (by (repeat (first | exact Same.refl _ _ | refine Same.set ?_ (by omega) _))) ?_
      rw [Bool.eq_iff_iff]; simp [NodeOk, nameOk] at c0 ⊢; try grind
    · rw [Bool.not_eq_true] at c0; rw [c0] at a3
      ((repeat (first | (with_reducible apply Wp.step; case h => ((try simp (disch := omega) only [↓reduceIte, ask_true, ↓X0, X1, Nat.reduceEqDiff, Int.reduceEq, Nat.reduceAdd, Nat.reduceSub, X2, Hp_ne, Nat.reduceLeDiff, Nd.cells, k68, hw, a3]); with_reducible exact rfl)) | (apply Wp.andS) | (apply Wp.orS) | ((first | with_reducible apply Wp.gs | with_reducible apply Wp.cs | with_reducible apply Wp.cselX | with_reducible apply Wp.askT | with_reducible apply Wp.iteKT); case h => ((try simp (disch := omega) only [↓reduceIte, ask_true, ↓X0, X1, Nat.reduceEqDiff, Int.reduceEq, Nat.reduceAdd, Nat.reduceSub, X2, Hp_ne, Nat.reduceLeDiff, Nd.cells, k68, hw, a3]); (first | done | with_reducible exact bT | with_reducible exact bF))) | (with_reducible apply Wp.gu) | (simp only [↓X3]) | (with_reducible apply Wp.assoc))); try simp only [outOf_exit, outOf_ret])
      refine fin _ _ _ (by omega) (by (repeat (first | exact Same.refl _ _ | refine Same.set ?_ (by omega) _))) ?_
      simp only [NodeOk, nameOk, c0]; simp
  by_cases e5 : xk = 5
  · subst e5
    by_cases c0 : (0 ≤ xa ∧ xa ≤ m - 1) ∧ (0 ≤ xb ∧ xb ≤ m - 1)
    case neg =>
      ((repeat (first | (with_reducible apply Wp.step; case h => ((try simp (disch := omega) only [↓reduceIte, ask_true, ↓X0, X1, Nat.reduceEqDiff, Int.reduceEq, Nat.reduceAdd, Nat.reduceSub, X2, Hp_ne, Nat.reduceLeDiff, Nd.cells, k68, hw, show (decide (0 ≤ xa ∧ xa ≤ m - 1) && decide (0 ≤ xb ∧ xb ≤ m - 1)) = false by simp only [← Bool.decide_and]; exact decide_eq_false c0]); with_reducible exact rfl)) | (apply Wp.andS) | (apply Wp.orS) | ((first | with_reducible apply Wp.gs | with_reducible apply Wp.cs | with_reducible apply Wp.cselX | with_reducible apply Wp.askT | with_reducible apply Wp.iteKT); case h => ((try simp (disch := omega) only [↓reduceIte, ask_true, ↓X0, X1, Nat.reduceEqDiff, Int.reduceEq, Nat.reduceAdd, Nat.reduceSub, X2, Hp_ne, Nat.reduceLeDiff, Nd.cells, k68, hw, show (decide (0 ≤ xa ∧ xa ≤ m - 1) && decide (0 ≤ xb ∧ xb ≤ m - 1)) = false by simp only [← Bool.decide_and]; exact decide_eq_false c0]); (first | done | with_reducible exact bT | with_reducible exact bF))) | (with_reducible apply Wp.gu) | (simp only [↓X3]) | (with_reducible apply Wp.assoc))); try simp only [outOf_exit, outOf_ret])
      refine fin _ _ _ (by omega) (by (repeat (first | exact Same.refl _ _ | refine Same.set ?_ (by omega) _))) ?_
      rw [Bool.eq_iff_iff]; simp [NodeOk, nameOk]; try grind
    by_cases c1 : xn = 0
    case neg =>
      ((repeat (first | (with_reducible apply Wp.step; case h => ((try simp (disch := omega) only [↓reduceIte, ask_true, ↓X0, X1, Nat.reduceEqDiff, Int.reduceEq, Nat.reduceAdd, Nat.reduceSub, X2, Hp_ne, Nat.reduceLeDiff, Nd.cells, k68, hw, c0.1, c0.2, and_self, c1]); with_reducible exact rfl)) | (apply Wp.andS) | (apply Wp.orS) | ((first | with_reducible apply Wp.gs | with_reducible apply Wp.cs | with_reducible apply Wp.cselX | with_reducible apply Wp.askT | with_reducible apply Wp.iteKT); case h => ((try simp (disch := omega) only [↓reduceIte, ask_true, ↓X0, X1, Nat.reduceEqDiff, Int.reduceEq, Nat.reduceAdd, Nat.reduceSub, X2, Hp_ne, Nat.reduceLeDiff, Nd.cells, k68, hw, c0.1, c0.2, and_self, c1]); (first | done | with_reducible exact bT | with_reducible exact bF))) | (with_reducible apply Wp.gu) | (simp only [↓X3]) | (with_reducible apply Wp.assoc))); try simp only [outOf_exit, outOf_ret])
      refine fin _ _ _ (by omega) (by (repeat (first | exact Same.refl _ _ | refine Same.set ?_ (by omega) _))) ?_
      rw [Bool.eq_iff_iff]; simp [NodeOk, nameOk]; try grind
    ((repeat (first | (with_reducible apply Wp.step; case h => ((try simp (disch := omega) only [↓reduceIte, ask_true, ↓X0, X1, Nat.reduceEqDiff, Int.reduceEq, Nat.reduceAdd, Nat.reduceSub, X2, Hp_ne, Nat.reduceLeDiff, Nd.cells, k68, hw, c0.1, c0.2, and_self, c1, and_self]); with_reducible exact rfl)) | (apply Wp.andS) | (apply Wp.orS) | ((first | with_reducible apply Wp.gs | with_reducible apply Wp.cs | with_reducible apply Wp.cselX | with_reducible apply Wp.askT | with_reducible apply Wp.iteKT); case h => ((try simp (disch := omega) only [↓reduceIte, ask_true, ↓X0, X1, Nat.reduceEqDiff, Int.reduceEq, Nat.reduceAdd, Nat.reduceSub, X2, Hp_ne, Nat.reduceLeDiff, Nd.cells, k68, hw, c0.1, c0.2, and_self, c1, and_self]); (first | done | with_reducible exact bT | with_reducible exact bF))) | (with_reducible apply Wp.gu) | (simp only [↓X3]) | (with_reducible apply Wp.assoc))); try simp only [outOf_exit, outOf_ret])
    refine fin _ _ _ (by omega) (by (repeat (first | exact Same.refl _ _ | refine Same.set ?_ (by omega) _))) ?_
    rw [Bool.eq_iff_iff]; simp [NodeOk, nameOk]; try grind
  by_cases e6 : xk = 6
  · subst e6
    by_cases c0 : 0 ≤ xa ∧ xa ≤ m - 1
    case neg =>
      ((repeat (first | (with_reducible apply Wp.step; case h => ((try simp (disch := omega) only [↓reduceIte, ask_true, ↓X0, X1, Nat.reduceEqDiff, Int.reduceEq, Nat.reduceAdd, Nat.reduceSub, X2, Hp_ne, Nat.reduceLeDiff, Nd.cells, k68, hw, c0]); with_reducible exact rfl)) | (apply Wp.andS) | (apply Wp.orS) | ((first | with_reducible apply Wp.gs | with_reducible apply Wp.cs | with_reducible apply Wp.cselX | with_reducible apply Wp.askT | with_reducible apply Wp.iteKT); case h => ((try simp (disch := omega) only [↓reduceIte, ask_true, ↓X0, X1, Nat.reduceEqDiff, Int.reduceEq, Nat.reduceAdd, Nat.reduceSub, X2, Hp_ne, Nat.reduceLeDiff, Nd.cells, k68, hw, c0]); (first | done | with_reducible exact bT | with_reducible exact bF))) | (with_reducible apply Wp.gu) | (simp only [↓X3]) | (with_reducible apply Wp.assoc))); try simp only [outOf_exit, outOf_ret])
      refine fin _ _ _ (by omega) (by (repeat (first | exact Same.refl _ _ | refine Same.set ?_ (by omega) _))) ?_
      rw [Bool.eq_iff_iff]; simp [NodeOk, nameOk]; try grind
    by_cases c1 : 0 ≤ xn ∧ xn ≤ 1000000000
    case neg =>
      ((repeat (first | (with_reducible apply Wp.step; case h => ((try simp (disch := omega) only [↓reduceIte, ask_true, ↓X0, X1, Nat.reduceEqDiff, Int.reduceEq, Nat.reduceAdd, Nat.reduceSub, X2, Hp_ne, Nat.reduceLeDiff, Nd.cells, k68, hw, c0, and_self, c1]); with_reducible exact rfl)) | (apply Wp.andS) | (apply Wp.orS) | ((first | with_reducible apply Wp.gs | with_reducible apply Wp.cs | with_reducible apply Wp.cselX | with_reducible apply Wp.askT | with_reducible apply Wp.iteKT); case h => ((try simp (disch := omega) only [↓reduceIte, ask_true, ↓X0, X1, Nat.reduceEqDiff, Int.reduceEq, Nat.reduceAdd, Nat.reduceSub, X2, Hp_ne, Nat.reduceLeDiff, Nd.cells, k68, hw, c0, and_self, c1]); (first | done | with_reducible exact bT | with_reducible exact bF))) | (with_reducible apply Wp.gu) | (simp only [↓X3]) | (with_reducible apply Wp.assoc))); try simp only [outOf_exit, outOf_ret])
      refine fin _ _ _ (by omega) (by (repeat (first | exact Same.refl _ _ | refine Same.set ?_ (by omega) _))) ?_
      rw [Bool.eq_iff_iff]; simp [NodeOk, nameOk]; try grind
    by_cases c2 : xb = 0
    case neg =>
      ((repeat (first | (with_reducible apply Wp.step; case h => ((try simp (disch := omega) only [↓reduceIte, ask_true, ↓X0, X1, Nat.reduceEqDiff, Int.reduceEq, Nat.reduceAdd, Nat.reduceSub, X2, Hp_ne, Nat.reduceLeDiff, Nd.cells, k68, hw, c0, and_self, c1, and_self, c2]); with_reducible exact rfl)) | (apply Wp.andS) | (apply Wp.orS) | ((first | with_reducible apply Wp.gs | with_reducible apply Wp.cs | with_reducible apply Wp.cselX | with_reducible apply Wp.askT | with_reducible apply Wp.iteKT); case h => ((try simp (disch := omega) only [↓reduceIte, ask_true, ↓X0, X1, Nat.reduceEqDiff, Int.reduceEq, Nat.reduceAdd, Nat.reduceSub, X2, Hp_ne, Nat.reduceLeDiff, Nd.cells, k68, hw, c0, and_self, c1, and_self, c2]); (first | done | with_reducible exact bT | with_reducible exact bF))) | (with_reducible apply Wp.gu) | (simp only [↓X3]) | (with_reducible apply Wp.assoc))); try simp only [outOf_exit, outOf_ret])
      refine fin _ _ _ (by omega) (by (repeat (first | exact Same.refl _ _ | refine Same.set ?_ (by omega) _))) ?_
      rw [Bool.eq_iff_iff]; simp [NodeOk, nameOk]; try grind
    ((repeat (first | (with_reducible apply Wp.step; case h => ((try simp (disch := omega) only [↓reduceIte, ask_true, ↓X0, X1, Nat.reduceEqDiff, Int.reduceEq, Nat.reduceAdd, Nat.reduceSub, X2, Hp_ne, Nat.reduceLeDiff, Nd.cells, k68, hw, c0, and_self, c1, and_self, c2, and_self]); with_reducible exact rfl)) | (apply Wp.andS) | (apply Wp.orS) | ((first | with_reducible apply Wp.gs | with_reducible apply Wp.cs | with_reducible apply Wp.cselX | with_reducible apply Wp.askT | with_reducible apply Wp.iteKT); case h => ((try simp (disch := omega) only [↓reduceIte, ask_true, ↓X0, X1, Nat.reduceEqDiff, Int.reduceEq, Nat.reduceAdd, Nat.reduceSub, X2, Hp_ne, Nat.reduceLeDiff, Nd.cells, k68, hw, c0, and_self, c1, and_self, c2, and_self]); (first | done | with_reducible exact bT | with_reducible exact bF))) | (with_reducible apply Wp.gu) | (simp only [↓X3]) | (with_reducible apply Wp.assoc))); try simp only [outOf_exit, outOf_ret])
    refine fin _ _ _ (by omega) (by (repeat (first | exact Same.refl _ _ | refine Same.set ?_ (by omega) _))) ?_
    rw [Bool.eq_iff_iff]; simp [NodeOk, nameOk]; try grind
  by_cases e7 : xk = 7
  · subst e7
    by_cases c0 : 0 ≤ xa ∧ xa ≤ m - 1
    case neg =>
      ((repeat (first | (with_reducible apply Wp.step; case h => ((try simp (disch := omega) only [↓reduceIte, ask_true, ↓X0, X1, Nat.reduceEqDiff, Int.reduceEq, Nat.reduceAdd, Nat.reduceSub, X2, Hp_ne, Nat.reduceLeDiff, Nd.cells, k68, hw, c0]); with_reducible exact rfl)) | (apply Wp.andS) | (apply Wp.orS) | ((first | with_reducible apply Wp.gs | with_reducible apply Wp.cs | with_reducible apply Wp.cselX | with_reducible apply Wp.askT | with_reducible apply Wp.iteKT); case h => ((try simp (disch := omega) only [↓reduceIte, ask_true, ↓X0, X1, Nat.reduceEqDiff, Int.reduceEq, Nat.reduceAdd, Nat.reduceSub, X2, Hp_ne, Nat.reduceLeDiff, Nd.cells, k68, hw, c0]); (first | done | with_reducible exact bT | with_reducible exact bF))) | (with_reducible apply Wp.gu) | (simp only [↓X3]) | (with_reducible apply Wp.assoc))); try simp only [outOf_exit, outOf_ret])
      refine fin _ _ _ (by omega) (by (repeat (first | exact Same.refl _ _ | refine Same.set ?_ (by omega) _))) ?_
      rw [Bool.eq_iff_iff]; simp [NodeOk, nameOk]; try grind
    by_cases c1 : xn = 0
    case neg =>
      ((repeat (first | (with_reducible apply Wp.step; case h => ((try simp (disch := omega) only [↓reduceIte, ask_true, ↓X0, X1, Nat.reduceEqDiff, Int.reduceEq, Nat.reduceAdd, Nat.reduceSub, X2, Hp_ne, Nat.reduceLeDiff, Nd.cells, k68, hw, c0, and_self, c1]); with_reducible exact rfl)) | (apply Wp.andS) | (apply Wp.orS) | ((first | with_reducible apply Wp.gs | with_reducible apply Wp.cs | with_reducible apply Wp.cselX | with_reducible apply Wp.askT | with_reducible apply Wp.iteKT); case h => ((try simp (disch := omega) only [↓reduceIte, ask_true, ↓X0, X1, Nat.reduceEqDiff, Int.reduceEq, Nat.reduceAdd, Nat.reduceSub, X2, Hp_ne, Nat.reduceLeDiff, Nd.cells, k68, hw, c0, and_self, c1]); (first | done | with_reducible exact bT | with_reducible exact bF))) | (with_reducible apply Wp.gu) | (simp only [↓X3]) | (with_reducible apply Wp.assoc))); try simp only [outOf_exit, outOf_ret])
      refine fin _ _ _ (by omega) (by (repeat (first | exact Same.refl _ _ | refine Same.set ?_ (by omega) _))) ?_
      rw [Bool.eq_iff_iff]; simp [NodeOk, nameOk]; try grind
    by_cases c2 : xb = 0
    case neg =>
      ((repeat (first | (with_reducible apply Wp.step; case h => ((try simp (disch := omega) only [↓reduceIte, ask_true, ↓X0, X1, Nat.reduceEqDiff, Int.reduceEq, Nat.reduceAdd, Nat.reduceSub, X2, Hp_ne, Nat.reduceLeDiff, Nd.cells, k68, hw, c0, and_self, c1, and_self, c2]); with_reducible exact rfl)) | (apply Wp.andS) | (apply Wp.orS) | ((first | with_reducible apply Wp.gs | with_reducible apply Wp.cs | with_reducible apply Wp.cselX | with_reducible apply Wp.askT | with_reducible apply Wp.iteKT); case h => ((try simp (disch := omega) only [↓reduceIte, ask_true, ↓X0, X1, Nat.reduceEqDiff, Int.reduceEq, Nat.reduceAdd, Nat.reduceSub, X2, Hp_ne, Nat.reduceLeDiff, Nd.cells, k68, hw, c0, and_self, c1, and_self, c2]); (first | done | with_reducible exact bT | with_reducible exact bF))) | (with_reducible apply Wp.gu) | (simp only [↓X3]) | (with_reducible apply Wp.assoc))); try simp only [outOf_exit, outOf_ret])
      refine fin _ _ _ (by omega) (by (repeat (first | exact Same.refl _ _ | refine Same.set ?_ (by omega) _))) ?_
      rw [Bool.eq_iff_iff]; simp [NodeOk, nameOk]; try grind
    ((repeat (first | (with_reducible apply Wp.step; case h => ((try simp (disch := omega) only [↓reduceIte, ask_true, ↓X0, X1, Nat.reduceEqDiff, Int.reduceEq, Nat.reduceAdd, Nat.reduceSub, X2, Hp_ne, Nat.reduceLeDiff, Nd.cells, k68, hw, c0, and_self, c1, and_self, c2, and_self]); with_reducible exact rfl)) | (apply Wp.andS) | (apply Wp.orS) | ((first | with_reducible apply Wp.gs | with_reducible apply Wp.cs | with_reducible apply Wp.cselX | with_reducible apply Wp.askT | with_reducible apply Wp.iteKT); case h => ((try simp (disch := omega) only [↓reduceIte, ask_true, ↓X0, X1, Nat.reduceEqDiff, Int.reduceEq, Nat.reduceAdd, Nat.reduceSub, X2, Hp_ne, Nat.reduceLeDiff, Nd.cells, k68, hw, c0, and_self, c1, and_self, c2, and_self]); (first | done | with_reducible exact bT | with_reducible exact bF))) | (with_reducible apply Wp.gu) | (simp only [↓X3]) | (with_reducible apply Wp.assoc))); try simp only [outOf_exit, outOf_ret])
    refine fin _ _ _ (by omega) (by (repeat (first | exact Same.refl _ _ | refine Same.set ?_ (by omega) _))) ?_
    rw [Bool.eq_iff_iff]; simp [NodeOk, nameOk]; try grind
  by_cases e8 : xk = 8
  · subst e8
    by_cases c0 : 0 ≤ xn ∧ xn ≤ 99
    case neg =>
      ((repeat (first | (with_reducible apply Wp.step; case h => ((try simp (disch := omega) only [↓reduceIte, ask_true, ↓X0, X1, Nat.reduceEqDiff, Int.reduceEq, Nat.reduceAdd, Nat.reduceSub, X2, Hp_ne, Nat.reduceLeDiff, Nd.cells, k68, hw, c0]); with_reducible exact rfl)) | (apply Wp.andS) | (apply Wp.orS) | ((first | with_reducible apply Wp.gs | with_reducible apply Wp.cs | with_reducible apply Wp.cselX | with_reducible apply Wp.askT | with_reducible apply Wp.iteKT); case h => ((try simp (disch := omega) only [↓reduceIte, ask_true, ↓X0, X1, Nat.reduceEqDiff, Int.reduceEq, Nat.reduceAdd, Nat.reduceSub, X2, Hp_ne, Nat.reduceLeDiff, Nd.cells, k68, hw, c0]); (first | done | with_reducible exact bT | with_reducible exact bF))) | (with_reducible apply Wp.gu) | (simp only [↓X3]) | (with_reducible apply Wp.assoc))); try simp only [outOf_exit, outOf_ret])
      refine fin _ _ _ (by omega) (by (repeat (first | exact Same.refl _ _ | refine Same.set ?_ (by omega) _))) ?_
      rw [Bool.eq_iff_iff]; simp [NodeOk, nameOk]; try grind
    ((repeat (first | (with_reducible apply Wp.step; case h => ((try simp (disch := omega) only [↓reduceIte, ask_true, ↓X0, X1, Nat.reduceEqDiff, Int.reduceEq, Nat.reduceAdd, Nat.reduceSub, X2, Hp_ne, Nat.reduceLeDiff, Nd.cells, k68, hw, c0, and_self]); with_reducible exact rfl)) | (apply Wp.andS) | (apply Wp.orS) | ((first | with_reducible apply Wp.gs | with_reducible apply Wp.cs | with_reducible apply Wp.cselX | with_reducible apply Wp.askT | with_reducible apply Wp.iteKT); case h => ((try simp (disch := omega) only [↓reduceIte, ask_true, ↓X0, X1, Nat.reduceEqDiff, Int.reduceEq, Nat.reduceAdd, Nat.reduceSub, X2, Hp_ne, Nat.reduceLeDiff, Nd.cells, k68, hw, c0, and_self]); (first | done | with_reducible exact bT | with_reducible exact bF))) | (with_reducible apply Wp.gu) | (simp only [↓X3]) | (with_reducible apply Wp.assoc))); try simp only [outOf_exit, outOf_ret])
    refine fin _ _ _ (by omega) (by (repeat (first | exact Same.refl _ _ | refine Same.set ?_ (by omega) _))) ?_
    rw [Bool.eq_iff_iff]; simp [NodeOk, nameOk]; try grind
  by_cases e9 : xk = 9
  · subst e9
    by_cases c0 : 0 ≤ xn ∧ xn ≤ 1000000000
    case neg =>
      ((repeat (first | (with_reducible apply Wp.step; case h => ((try simp (disch := omega) only [↓reduceIte, ask_true, ↓X0, X1, Nat.reduceEqDiff, Int.reduceEq, Nat.reduceAdd, Nat.reduceSub, X2, Hp_ne, Nat.reduceLeDiff, Nd.cells, k68, hw, c0]); with_reducible exact rfl)) | (apply Wp.andS) | (apply Wp.orS) | ((first | with_reducible apply Wp.gs | with_reducible apply Wp.cs | with_reducible apply Wp.cselX | with_reducible apply Wp.askT | with_reducible apply Wp.iteKT); case h => ((try simp (disch := omega) only [↓reduceIte, ask_true, ↓X0, X1, Nat.reduceEqDiff, Int.reduceEq, Nat.reduceAdd, Nat.reduceSub, X2, Hp_ne, Nat.reduceLeDiff, Nd.cells, k68, hw, c0]); (first | done | with_reducible exact bT | with_reducible exact bF))) | (with_reducible apply Wp.gu) | (simp only [↓X3]) | (with_reducible apply Wp.assoc))); try simp only [outOf_exit, outOf_ret])
      refine fin _ _ _ (by omega) (by (repeat (first | exact Same.refl _ _ | refine Same.set ?_ (by omega) _))) ?_
      rw [Bool.eq_iff_iff]; simp [NodeOk, nameOk]; try grind
    ((repeat (first | (with_reducible apply Wp.step; case h => ((try simp (disch := omega) only [↓reduceIte, ask_true, ↓X0, X1, Nat.reduceEqDiff, Int.reduceEq, Nat.reduceAdd, Nat.reduceSub, X2, Hp_ne, Nat.reduceLeDiff, Nd.cells, k68, hw, c0, and_self]); with_reducible exact rfl)) | (apply Wp.andS) | (apply Wp.orS) | ((first | with_reducible apply Wp.gs | with_reducible apply Wp.cs | with_reducible apply Wp.cselX | with_reducible apply Wp.askT | with_reducible apply Wp.iteKT); case h => ((try simp (disch := omega) only [↓reduceIte, ask_true, ↓X0, X1, Nat.reduceEqDiff, Int.reduceEq, Nat.reduceAdd, Nat.reduceSub, X2, Hp_ne, Nat.reduceLeDiff, Nd.cells, k68, hw, c0, and_self]); (first | done | with_reducible exact bT | with_reducible exact bF))) | (with_reducible apply Wp.gu) | (simp only [↓X3]) | (with_reducible apply Wp.assoc))); try simp only [outOf_exit, outOf_ret])
    refine fin _ _ _ (by omega) (by (repeat (first | exact Same.refl _ _ | refine Same.set ?_ (by omega) _))) ?_
    rw [Bool.eq_iff_iff]; simp [NodeOk, nameOk]; try grind
  ((repeat (first | (with_reducible apply Wp.step; case h => ((try simp (disch := omega) only [↓reduceIte, ask_true, ↓X0, X1, Nat.reduceEqDiff, Int.reduceEq, Nat.reduceAdd, Nat.reduceSub, X2, Hp_ne, Nat.reduceLeDiff, Nd.cells, k68, hw, e1, e2, e3, e4, e5, e6, e7, e8, e9]); with_reducible exact rfl)) | (apply Wp.andS) | (apply Wp.orS) | ((first | with_reducible apply Wp.gs | with_reducible apply Wp.cs | with_reducible apply Wp.cselX | with_reducible apply Wp.askT | with_reducible apply Wp.iteKT); case h => ((try simp (disch := omega) only [↓reduceIte, ask_true, ↓X0, X1, Nat.reduceEqDiff, Int.reduceEq, Nat.reduceAdd, Nat.reduceSub, X2, Hp_ne, Nat.reduceLeDiff, Nd.cells, k68, hw, e1, e2, e3, e4, e5, e6, e7, e8, e9]); (first | done | with_reducible exact bT | with_reducible exact bF))) | (with_reducible apply Wp.gu) | (simp only [↓X3]) | (with_reducible apply Wp.assoc))); try simp only [outOf_exit, outOf_ret])
  refine fin _ _ _ (by omega) (by (repeat (first | exact Same.refl _ _ | refine Same.set ?_ (by omega) _))) ?_
  simp [NodeOk, e1, e2, e3, e4, e5, e6, e7, e8, e9]
/-- All nodes are right, from number 'i' on. -/
def NodesOk : List Nd → Nat → Prop
  | [], _ => True
  | x :: l, i => NodeOk x i ∧ NodesOk l (i + 1)
instance : ∀ (l : List Nd) (i : Nat), Decidable (NodesOk l i)
  | [], _ => isTrue trivial
  | x :: l, i => @instDecidableAnd _ _ _ (instDecidableNodesOk l (i + 1))
def PoolOk (l : List Nd) : Prop := NodesOk l 0 ∧ l.length ≤ 3000
instance (l : List Nd) : Decidable (PoolOk l) := by unfold PoolOk; infer_instance
theorem NodesOk_app : ∀ (l m : List Nd) (i : Nat), NodesOk (l ++ m) i ↔ NodesOk l i ∧ NodesOk m (i + l.length)
  | [], m, i => by simp [NodesOk]
  | x :: l, m, i => by
    rw [List.cons_append, NodesOk, NodesOk, NodesOk_app l m (i + 1), List.length_cons, and_assoc, show i + 1 + l.length = i + (l.length + 1) by omega]
theorem l20 {n0 : Nat} {H0 : Hp} {v : Value} {l : List Nd} (hv : Li eNode n0 H0 v l) (hs : ∀ x ∈ l, x.s.size ≤ 1048576) (hl : l.length ≤ 1048576) : ∀ t H n, n0 ≤ n → Same n0 H0 H → t 6 = v → t 7 = .int .i64 l.length → t 8 = .int .i64 0 →
    Wp (Loop (S20L0 (Call Try.prog) Loop) t H n) (fun o => n ≤ o.n ∧ Same n H o.H ∧ ((o.e = .exit 0 ∧ o.t 1 = t 1 ∧ NodesOk l 0) ∨ (o.e = .ret ∧ o.t 2 = .bool false ∧ ¬ NodesOk l 0))) := by
  intro t H n hn0 hsm0 e6 e7 e8
  refine Loop_rule (fun d T H' n' => ∃ (j : Nat), j + d = l.length ∧ n ≤ n' ∧ Same n H H' ∧ T 1 = t 1 ∧ T 6 = v ∧ T 7 = .int .i64 l.length ∧ T 8 = .int .i64 j ∧ NodesOk (l.take j) 0) _ ?_ l.length t H n ⟨0, by omega, by omega, Same.refl _ _, rfl, e6, e7, e8, by simp [NodesOk]⟩
  rintro d T H' n' ⟨j, hj, hn, hsm, e1, e6, e7, e8, hok⟩
  unfold S20L0
  have hv' := hv.keep (hsm0.trans hsm hn0) (Nat.le_refl _)
  by_cases hlt : (j : Int) < l.length
  · have hlt' : j < l.length := by omega
    have g := hv'.nAll (by omega) hlt
    have hw := wj (j := j) (len := l.length) hlt' (by omega)
    obtain ⟨H1, n1, a1, a2, a3⟩ := k52 (gi l (j : Int)) (hs _ (gi_mem (by omega) hlt)) (j : Int) (by omega) (H'.set (n' + 4) (some (.row (gi l (j : Int)).cells 0 true))) (n' + 11)
    have s2 : Same n H H1 := (hsm.set (show n ≤ n' + 4 by omega) _).trans (a2.less (show n ≤ n' + 11 by omega)) (Nat.le_refl _)
    have hz : setAt [Value.int .i64 0, .int .i64 0, .string ⟨#[]⟩, .int .i64 0, .int .i64 0] 0 (gi l (j : Int)).cells = (gi l (j : Int)).cells := rfl
    have hc : (gi l (j : Int)).cells.length = 5 := rfl
    have hd : (List.take 5 (List.drop 0 (gi l (j : Int)).cells)) = (gi l (j : Int)).cells := rfl
    have hnx : NodesOk (l.take (j + 1)) 0 ↔ NodesOk (l.take j) 0 ∧ NodeOk (gi l (j : Int)) (j : Int) := by
      rw [take_next hlt', NodesOk_app, List.length_take, Nat.min_eq_left (by omega), Nat.zero_add, gi_nat hlt']
      simp [NodesOk]
    by_cases h : NodeOk (gi l (j : Int)) (j : Int)
    · rw [decide_eq_true h] at a3
      ((repeat (first | (with_reducible apply Wp.step; case h => ((try simp (disch := omega) only [↓reduceIte, ask_true, ↓X0, X1, Nat.reduceEqDiff, Int.reduceEq, Nat.reduceAdd, Nat.reduceSub, e6, e7, e8, hlt, g, hw, st_agg, stv_set, hc, hz, ldA_set, hd, a3, Nat.reduceLeDiff, Hp_set_set, List.length_cons, List.length_nil]); with_reducible exact rfl)) | (apply Wp.andS) | (apply Wp.orS) | ((first | with_reducible apply Wp.gs | with_reducible apply Wp.cs | with_reducible apply Wp.cselX | with_reducible apply Wp.askT | with_reducible apply Wp.iteKT); case h => ((try simp (disch := omega) only [↓reduceIte, ask_true, ↓X0, X1, Nat.reduceEqDiff, Int.reduceEq, Nat.reduceAdd, Nat.reduceSub, e6, e7, e8, hlt, g, hw, st_agg, stv_set, hc, hz, ldA_set, hd, a3, Nat.reduceLeDiff, Hp_set_set, List.length_cons, List.length_nil]); (first | done | with_reducible exact bT | with_reducible exact bF))) | (with_reducible apply Wp.gu) | (simp only [↓X3]) | (with_reducible apply Wp.assoc))); try simp only [outOf_exit, outOf_ret])
      exact Wp.pure (Nxt.go (d - 1) (by omega) ⟨j + 1, by omega, by omega, s2, by simp [put_at, e1], by simp [put_at, e6], by simp [put_at, e7], by simp [put_at], hnx.2 ⟨hok, h⟩⟩)
    · rw [decide_eq_false h] at a3
      ((repeat (first | (with_reducible apply Wp.step; case h => ((try simp (disch := omega) only [↓reduceIte, ask_true, ↓X0, X1, Nat.reduceEqDiff, Int.reduceEq, Nat.reduceAdd, Nat.reduceSub, e6, e7, e8, hlt, g, hw, st_agg, stv_set, hc, hz, ldA_set, hd, a3, Nat.reduceLeDiff, Hp_set_set, List.length_cons, List.length_nil]); with_reducible exact rfl)) | (apply Wp.andS) | (apply Wp.orS) | ((first | with_reducible apply Wp.gs | with_reducible apply Wp.cs | with_reducible apply Wp.cselX | with_reducible apply Wp.askT | with_reducible apply Wp.iteKT); case h => ((try simp (disch := omega) only [↓reduceIte, ask_true, ↓X0, X1, Nat.reduceEqDiff, Int.reduceEq, Nat.reduceAdd, Nat.reduceSub, e6, e7, e8, hlt, g, hw, st_agg, stv_set, hc, hz, ldA_set, hd, a3, Nat.reduceLeDiff, Hp_set_set, List.length_cons, List.length_nil]); (first | done | with_reducible exact bT | with_reducible exact bF))) | (with_reducible apply Wp.gu) | (simp only [↓X3]) | (with_reducible apply Wp.assoc))); try simp only [outOf_exit, outOf_ret])
      refine Wp.pure (Nxt.ret ⟨by simp only; omega, s2, .inr ⟨rfl, by simp [put_at], fun hn => ?_⟩⟩)
      have : NodesOk (l.take (j + 1)) 0 := by
        rw [← List.take_append_drop (j + 1) l, NodesOk_app] at hn
        exact hn.1
      exact h (hnx.1 this).2
  · ((repeat (first | (with_reducible apply Wp.step; case h => ((try simp (disch := omega) only [↓reduceIte, ask_true, ↓X0, X1, Nat.reduceEqDiff, Int.reduceEq, Nat.reduceAdd, Nat.reduceSub, e6, e7, e8, hlt]); with_reducible exact rfl)) | (apply Wp.andS) | (apply Wp.orS) | ((first | with_reducible apply Wp.gs | with_reducible apply Wp.cs | with_reducible apply Wp.cselX | with_reducible apply Wp.askT | with_reducible apply Wp.iteKT); case h => ((try simp (disch := omega) only [↓reduceIte, ask_true, ↓X0, X1, Nat.reduceEqDiff, Int.reduceEq, Nat.reduceAdd, Nat.reduceSub, e6, e7, e8, hlt]); (first | done | with_reducible exact bT | with_reducible exact bF))) | (with_reducible apply Wp.gu) | (simp only [↓X3]) | (with_reducible apply Wp.assoc))); try simp only [outOf_exit, outOf_ret])
    rw [List.take_of_length_le (by omega)] at hok
    exact Wp.pure (Nxt.exit ⟨Nat.le_trans hn (Nat.le_add_right _ _), hsm, .inl ⟨rfl, by simp [put_at, e1], hok⟩⟩)
theorem k20 {n : Nat} {H : Hp} {v : Value} {l : List Nd} (hv : Li eNode n H v l) (hs : ∀ x ∈ l, x.s.size ≤ 1048576) (hl : l.length ≤ 1048576) : Rt Try.prog 20 [.agg ⟨[v]⟩] H n (.bool (decide (PoolOk l))) := by
  apply Rt.of
  rw [c20]; unfold S20
  have s1 : Same n H (H.set n (some (.row [v] 0 true))) := by (repeat (first | exact Same.refl _ _ | refine Same.set ?_ (by omega) _))
  ((repeat (first | (with_reducible apply Wp.step; case h => ((try simp (disch := omega) only [↓reduceIte, ask_true, ↓X0, X1, Nat.reduceEqDiff, Int.reduceEq, Nat.reduceAdd, Nat.reduceSub, X2, Hp_ne, Nat.reduceLeDiff, hv.len]); with_reducible exact rfl)) | (apply Wp.andS) | (apply Wp.orS) | ((first | with_reducible apply Wp.gs | with_reducible apply Wp.cs | with_reducible apply Wp.cselX | with_reducible apply Wp.askT | with_reducible apply Wp.iteKT); case h => ((try simp (disch := omega) only [↓reduceIte, ask_true, ↓X0, X1, Nat.reduceEqDiff, Int.reduceEq, Nat.reduceAdd, Nat.reduceSub, X2, Hp_ne, Nat.reduceLeDiff, hv.len]); (first | done | with_reducible exact bT | with_reducible exact bF))) | (with_reducible apply Wp.gu) | (simp only [↓X3]) | (with_reducible apply Wp.assoc))); try simp only [outOf_exit, outOf_ret])
  refine Wp.bind (l20 (n0 := n) (hv.keep s1 (Nat.le_refl _)) hs hl _ _ _ (by omega) (Same.refl _ _) (by simp [put_at]) (by simp [put_at]) (by simp [put_at])) ?_
  rintro ⟨oe, ot, oH, on⟩ ⟨f2, f3, f4⟩
  simp only at f2 f3 f4
  have hb : oH n = some (.row [v] 0 true) := by rw [f3 n (by omega)]; exact Hp_same _ _ _
  rcases f4 with ⟨rfl, f4, f5⟩ | ⟨rfl, f4, f5⟩
  · have f4 : ot 1 = ptr n 0 := by rw [f4]; simp [put_at]
    ((repeat (first | (with_reducible apply Wp.step; case h => ((try simp (disch := omega) only [↓reduceIte, ask_true, ↓X0, X1, Nat.reduceEqDiff, Int.reduceEq, Nat.reduceAdd, Nat.reduceSub, outOf, f4, ld_r, hb, rowGet_row, hv.len]); with_reducible exact rfl)) | (apply Wp.andS) | (apply Wp.orS) | ((first | with_reducible apply Wp.gs | with_reducible apply Wp.cs | with_reducible apply Wp.cselX | with_reducible apply Wp.askT | with_reducible apply Wp.iteKT); case h => ((try simp (disch := omega) only [↓reduceIte, ask_true, ↓X0, X1, Nat.reduceEqDiff, Int.reduceEq, Nat.reduceAdd, Nat.reduceSub, outOf, f4, ld_r, hb, rowGet_row, hv.len]); (first | done | with_reducible exact bT | with_reducible exact bF))) | (with_reducible apply Wp.gu) | (simp only [↓X3]) | (with_reducible apply Wp.assoc))); try simp only [outOf_exit, outOf_ret])
    refine Wp.pure ⟨by simp only; omega, s1.trans (f3.less (by omega)) (Nat.le_refl _), ?_⟩
    have : decide (PoolOk l) = decide ((l.length : Int) ≤ 3000) := by
      by_cases hc : (l.length : Int) ≤ 3000
      · rw [decide_eq_true hc]; exact decide_eq_true ⟨f5, by omega⟩
      · rw [decide_eq_false hc]; exact decide_eq_false fun h => hc (by have := h.2; omega)
    rw [this]
  · ((repeat (first | (with_reducible apply Wp.step; case h => ((try simp (disch := omega) only [↓reduceIte, ask_true, ↓X0, X1, Nat.reduceEqDiff, Int.reduceEq, Nat.reduceAdd, Nat.reduceSub, f4]); with_reducible exact rfl)) | (apply Wp.andS) | (apply Wp.orS) | ((first | with_reducible apply Wp.gs | with_reducible apply Wp.cs | with_reducible apply Wp.cselX | with_reducible apply Wp.askT | with_reducible apply Wp.iteKT); case h => ((try simp (disch := omega) only [↓reduceIte, ask_true, ↓X0, X1, Nat.reduceEqDiff, Int.reduceEq, Nat.reduceAdd, Nat.reduceSub, f4]); (first | done | with_reducible exact bT | with_reducible exact bF))) | (with_reducible apply Wp.gu) | (simp only [↓X3]) | (with_reducible apply Wp.assoc))); try simp only [outOf_exit, outOf_ret])
    exact Wp.pure ⟨by simp only; omega, s1.trans (f3.less (by omega)) (Nat.le_refl _), by show ot 2 = _; rw [f4, decide_eq_false fun h => f5 h.1]⟩
theorem l21 {n0 b : Nat} {H0 : Hp} {v : Value} {l : List Nd} (hv : Li eNode n0 H0 v l) (hs : ∀ x ∈ l, x.s.size ≤ 1048576) (hl : l.length ≤ 1048576) : ∀ t H n, n0 ≤ n → Same n0 H0 H → b < n → H b = some (.row [v] 0 true) → t 1 = ptr b 0 → t 3 = .int .i64 0 →
    Wp (Loop (S21L0 (Call Try.prog) Loop) t H n) (fun o => n ≤ o.n ∧ Same n H o.H ∧ ((o.e = .exit 0 ∧ o.t 1 = ptr b 0 ∧ NodesOk l 0) ∨ (o.e = .ret ∧ o.t 2 = .bool false ∧ ¬ NodesOk l 0))) := by
  intro t H n hn0 hsm0 hb hH e1 e3
  refine Loop_rule (fun d T H' n' => ∃ (j : Nat), j + d = l.length ∧ n ≤ n' ∧ Same n H H' ∧ T 1 = ptr b 0 ∧ T 3 = .int .i64 j ∧ NodesOk (l.take j) 0) _ ?_ l.length t H n ⟨0, by omega, by omega, Same.refl _ _, e1, e3, by simp [NodesOk]⟩
  rintro d T H' n' ⟨j, hj, hn, hsm, e1, e3, hok⟩
  unfold S21L0
  have hv' := hv.keep (hsm0.trans hsm hn0) (Nat.le_refl _)
  have hb' : H' b = some (.row [v] 0 true) := by rw [hsm b hb]; exact hH
  by_cases hlt : (j : Int) < l.length
  · have hlt' : j < l.length := by omega
    have g := hv'.nAll (by omega) hlt
    have hw := wj (j := j) (len := l.length) hlt' (by omega)
    obtain ⟨H1, n1, a1, a2, a3⟩ := k39 (gi l (j : Int)) (hs _ (gi_mem (by omega) hlt)) (j : Int) (by omega) H' (n' + 13)
    have s2 : Same n H H1 := hsm.trans (a2.less (show n ≤ n' + 13 by omega)) (Nat.le_refl _)
    have hnx : NodesOk (l.take (j + 1)) 0 ↔ NodesOk (l.take j) 0 ∧ NodeOk (gi l (j : Int)) (j : Int) := by
      rw [take_next hlt', NodesOk_app, List.length_take, Nat.min_eq_left (by omega), Nat.zero_add, gi_nat hlt']
      simp [NodesOk]
    by_cases h : NodeOk (gi l (j : Int)) (j : Int)
    · rw [decide_eq_true h] at a3
      ((repeat (first | (with_reducible apply Wp.step; case h => ((try simp (disch := omega) only [↓reduceIte, ask_true, ↓X0, X1, Nat.reduceEqDiff, Int.reduceEq, Nat.reduceAdd, Nat.reduceSub, e1, e3, ld_r, hb', rowGet_row, hv'.len, hlt, g, hw, a3]); with_reducible exact rfl)) | (apply Wp.andS) | (apply Wp.orS) | ((first | with_reducible apply Wp.gs | with_reducible apply Wp.cs | with_reducible apply Wp.cselX | with_reducible apply Wp.askT | with_reducible apply Wp.iteKT); case h => ((try simp (disch := omega) only [↓reduceIte, ask_true, ↓X0, X1, Nat.reduceEqDiff, Int.reduceEq, Nat.reduceAdd, Nat.reduceSub, e1, e3, ld_r, hb', rowGet_row, hv'.len, hlt, g, hw, a3]); (first | done | with_reducible exact bT | with_reducible exact bF))) | (with_reducible apply Wp.gu) | (simp only [↓X3]) | (with_reducible apply Wp.assoc))); try simp only [outOf_exit, outOf_ret])
      exact Wp.pure (Nxt.go (d - 1) (by omega) ⟨j + 1, by omega, by omega, s2, by simp [put_at, e1], by simp [put_at], hnx.2 ⟨hok, h⟩⟩)
    · rw [decide_eq_false h] at a3
      ((repeat (first | (with_reducible apply Wp.step; case h => ((try simp (disch := omega) only [↓reduceIte, ask_true, ↓X0, X1, Nat.reduceEqDiff, Int.reduceEq, Nat.reduceAdd, Nat.reduceSub, e1, e3, ld_r, hb', rowGet_row, hv'.len, hlt, g, hw, a3]); with_reducible exact rfl)) | (apply Wp.andS) | (apply Wp.orS) | ((first | with_reducible apply Wp.gs | with_reducible apply Wp.cs | with_reducible apply Wp.cselX | with_reducible apply Wp.askT | with_reducible apply Wp.iteKT); case h => ((try simp (disch := omega) only [↓reduceIte, ask_true, ↓X0, X1, Nat.reduceEqDiff, Int.reduceEq, Nat.reduceAdd, Nat.reduceSub, e1, e3, ld_r, hb', rowGet_row, hv'.len, hlt, g, hw, a3]); (first | done | with_reducible exact bT | with_reducible exact bF))) | (with_reducible apply Wp.gu) | (simp only [↓X3]) | (with_reducible apply Wp.assoc))); try simp only [outOf_exit, outOf_ret])
      refine Wp.pure (Nxt.ret ⟨by simp only; omega, s2, .inr ⟨rfl, by simp [put_at], fun hn => ?_⟩⟩)
      have : NodesOk (l.take (j + 1)) 0 := by
        rw [← List.take_append_drop (j + 1) l, NodesOk_app] at hn
        exact hn.1
      exact h (hnx.1 this).2
  · ((repeat (first | (with_reducible apply Wp.step; case h => ((try simp (disch := omega) only [↓reduceIte, ask_true, ↓X0, X1, Nat.reduceEqDiff, Int.reduceEq, Nat.reduceAdd, Nat.reduceSub, e1, e3, ld_r, hb', rowGet_row, hv'.len, hlt]); with_reducible exact rfl)) | (apply Wp.andS) | (apply Wp.orS) | ((first | with_reducible apply Wp.gs | with_reducible apply Wp.cs | with_reducible apply Wp.cselX | with_reducible apply Wp.askT | with_reducible apply Wp.iteKT); case h => ((try simp (disch := omega) only [↓reduceIte, ask_true, ↓X0, X1, Nat.reduceEqDiff, Int.reduceEq, Nat.reduceAdd, Nat.reduceSub, e1, e3, ld_r, hb', rowGet_row, hv'.len, hlt]); (first | done | with_reducible exact bT | with_reducible exact bF))) | (with_reducible apply Wp.gu) | (simp only [↓X3]) | (with_reducible apply Wp.assoc))); try simp only [outOf_exit, outOf_ret])
    rw [List.take_of_length_le (by omega)] at hok
    exact Wp.pure (Nxt.exit ⟨Nat.le_trans hn (Nat.le_add_right _ _), hsm, .inl ⟨rfl, by simp [put_at, e1], hok⟩⟩)
theorem k21 {n : Nat} {H : Hp} {v : Value} {l : List Nd} (hv : Li eNode n H v l) (hs : ∀ x ∈ l, x.s.size ≤ 1048576) (hl : l.length ≤ 1048576) : Rt Try.prog 21 [.agg ⟨[v]⟩] H n (.bool (decide (PoolOk l))) := by
  apply Rt.of
  rw [c21]; unfold S21
  have s1 : Same n H (H.set n (some (.row [v] 0 true))) := by (repeat (first | exact Same.refl _ _ | refine Same.set ?_ (by omega) _))
  ((repeat (first | (with_reducible apply Wp.step; case h => ((try simp (disch := omega) only [↓reduceIte, ask_true, ↓X0, X1, Nat.reduceEqDiff, Int.reduceEq, Nat.reduceAdd, Nat.reduceSub, X2, Hp_ne, Nat.reduceLeDiff, hv.len]); with_reducible exact rfl)) | (apply Wp.andS) | (apply Wp.orS) | ((first | with_reducible apply Wp.gs | with_reducible apply Wp.cs | with_reducible apply Wp.cselX | with_reducible apply Wp.askT | with_reducible apply Wp.iteKT); case h => ((try simp (disch := omega) only [↓reduceIte, ask_true, ↓X0, X1, Nat.reduceEqDiff, Int.reduceEq, Nat.reduceAdd, Nat.reduceSub, X2, Hp_ne, Nat.reduceLeDiff, hv.len]); (first | done | with_reducible exact bT | with_reducible exact bF))) | (with_reducible apply Wp.gu) | (simp only [↓X3]) | (with_reducible apply Wp.assoc))); try simp only [outOf_exit, outOf_ret])
  refine Wp.bind (l21 (n0 := n) (b := n) (hv.keep s1 (Nat.le_refl _)) hs hl _ _ _ (by omega) (Same.refl _ _) (by omega) (Hp_same _ _ _) (by simp [put_at]) (by simp [put_at])) ?_
  rintro ⟨oe, ot, oH, on⟩ ⟨f2, f3, f4⟩
  simp only at f2 f3 f4
  have hb : oH n = some (.row [v] 0 true) := by rw [f3 n (by omega)]; exact Hp_same _ _ _
  rcases f4 with ⟨rfl, f4, f5⟩ | ⟨rfl, f4, f5⟩
  · ((repeat (first | (with_reducible apply Wp.step; case h => ((try simp (disch := omega) only [↓reduceIte, ask_true, ↓X0, X1, Nat.reduceEqDiff, Int.reduceEq, Nat.reduceAdd, Nat.reduceSub, f4, ld_r, hb, rowGet_row, hv.len]); with_reducible exact rfl)) | (apply Wp.andS) | (apply Wp.orS) | ((first | with_reducible apply Wp.gs | with_reducible apply Wp.cs | with_reducible apply Wp.cselX | with_reducible apply Wp.askT | with_reducible apply Wp.iteKT); case h => ((try simp (disch := omega) only [↓reduceIte, ask_true, ↓X0, X1, Nat.reduceEqDiff, Int.reduceEq, Nat.reduceAdd, Nat.reduceSub, f4, ld_r, hb, rowGet_row, hv.len]); (first | done | with_reducible exact bT | with_reducible exact bF))) | (with_reducible apply Wp.gu) | (simp only [↓X3]) | (with_reducible apply Wp.assoc))); try simp only [outOf_exit, outOf_ret])
    refine Wp.pure ⟨by simp only; omega, s1.trans (f3.less (by omega)) (Nat.le_refl _), ?_⟩
    have : decide (PoolOk l) = decide ((l.length : Int) ≤ 3000) := by
      by_cases hc : (l.length : Int) ≤ 3000
      · rw [decide_eq_true hc]; exact decide_eq_true ⟨f5, by omega⟩
      · rw [decide_eq_false hc]; exact decide_eq_false fun h => hc (by have := h.2; omega)
    rw [this]
  · ((repeat (first | (with_reducible apply Wp.step; case h => ((try simp (disch := omega) only [↓reduceIte, ask_true, ↓X0, X1, Nat.reduceEqDiff, Int.reduceEq, Nat.reduceAdd, Nat.reduceSub, f4]); with_reducible exact rfl)) | (apply Wp.andS) | (apply Wp.orS) | ((first | with_reducible apply Wp.gs | with_reducible apply Wp.cs | with_reducible apply Wp.cselX | with_reducible apply Wp.askT | with_reducible apply Wp.iteKT); case h => ((try simp (disch := omega) only [↓reduceIte, ask_true, ↓X0, X1, Nat.reduceEqDiff, Int.reduceEq, Nat.reduceAdd, Nat.reduceSub, f4]); (first | done | with_reducible exact bT | with_reducible exact bF))) | (with_reducible apply Wp.gu) | (simp only [↓X3]) | (with_reducible apply Wp.assoc))); try simp only [outOf_exit, outOf_ret])
    exact Wp.pure ⟨by simp only; omega, s1.trans (f3.less (by omega)) (Nat.le_refl _), by show ot 2 = _; rw [f4, decide_eq_false fun h => f5 h.1]⟩
end Go.Proofs.Ytcjbaidcmidijaa.Ax
