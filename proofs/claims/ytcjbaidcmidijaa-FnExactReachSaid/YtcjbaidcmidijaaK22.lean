/- Contracts: bools compared and marked. -/
import Derived.Test.YtcjbaidcmidijaaK12
set_option linter.unusedVariables false
set_option linter.unusedSimpArgs false
namespace Go.Proofs.Ytcjbaidcmidijaa.Ax
open Go
def bMark (k : Int) (i : Nat) : Bool := decide ((k + (i : Int)).tmod 3 = 0)
theorem l30 {n0 : Nat} {H0 : Hp} {v1 v2 : Value} {a b : List Bool} (h1 : Li eBool n0 H0 v1 a) (h2 : Li eBool n0 H0 v2 b) (hab : a.length = b.length) (hl : a.length ≤ 1000000000) : ∀ t n, t 0 = v1 → t 1 = v2 → t 5 = .int .i64 0 →
    Wp (Loop (S30L0 (Call Try.prog) Loop) t H0 n) (fun o => n ≤ o.n ∧ o.H = H0 ∧ ((o.e = .exit 0 ∧ a = b) ∨ (o.e = .ret ∧ o.t 4 = .bool false ∧ a ≠ b))) := by
  intro t n e0 e1 e5
  refine Loop_rule (fun d t H n' => ∃ (j : Nat), j + d = a.length ∧ n ≤ n' ∧ H = H0 ∧ t 0 = v1 ∧ t 1 = v2 ∧ t 5 = .int .i64 j ∧ a.take j = b.take j) _ ?_ a.length t H0 n ⟨0, by omega, by omega, rfl, e0, e1, e5, by simp⟩
  rintro d t H n' ⟨j, hj, hn, rfl, e0, e1, e5, htk⟩
  unfold S30L0
  by_cases hlt : (j : Int) < a.length
  · have ha : j < a.length := by omega
    have hb : j < b.length := by omega
    have q1 := h1.oAll (by omega) hlt
    have q2 := h2.oAll (i := (j : Int)) (by omega) (by omega)
    have hw := wj (j := j) (len := a.length) ha (by omega)
    by_cases he : gi a (j : Int) = gi b (j : Int)
    · (((repeat (first | (with_reducible apply Wp.step; case h => ((try simp (disch := omega) only [↓reduceIte, ask_true, ↓X0, X1, Nat.reduceEqDiff, Int.reduceEq, Nat.reduceAdd, Nat.reduceSub, e0, e1, e5, h1.len, hlt, q1, q2, he, hw]); with_reducible exact rfl)) | (apply Wp.andS) | (apply Wp.orS) | ((first | with_reducible apply Wp.gs | with_reducible apply Wp.cs | with_reducible apply Wp.cselX | with_reducible apply Wp.askT | with_reducible apply Wp.iteKT | with_reducible apply Wp.ikb | with_reducible apply Wp.askb); case h => ((try simp (disch := omega) only [↓reduceIte, ask_true, ↓X0, X1, Nat.reduceEqDiff, Int.reduceEq, Nat.reduceAdd, Nat.reduceSub, e0, e1, e5, h1.len, hlt, q1, q2, he, hw]); (first | done | with_reducible exact bT | with_reducible exact bF))) | (with_reducible apply Wp.gu) | (simp only [↓X3]) | (with_reducible apply Wp.assoc))); try simp only [outOf_exit, outOf_ret]); try (with_reducible apply Wp.cargs; case h => ((try simp (disch := omega) only [↓reduceIte, ask_true, ↓X0, X1, Nat.reduceEqDiff, Int.reduceEq, Nat.reduceAdd, Nat.reduceSub, e0, e1, e5, h1.len, hlt, q1, q2, he, hw]); with_reducible exact rfl)))
      exact Wp.pure (Nxt.go (d - 1) (by omega) ⟨j + 1, by omega, by omega, rfl, by simp [put_at, e0], by simp [put_at, e1], by simp [put_at], by rw [take_next ha, take_next hb, htk, ← gi_nat ha, ← gi_nat hb, he]⟩)
    · (((repeat (first | (with_reducible apply Wp.step; case h => ((try simp (disch := omega) only [↓reduceIte, ask_true, ↓X0, X1, Nat.reduceEqDiff, Int.reduceEq, Nat.reduceAdd, Nat.reduceSub, e0, e1, e5, h1.len, hlt, q1, q2, he, hw]); with_reducible exact rfl)) | (apply Wp.andS) | (apply Wp.orS) | ((first | with_reducible apply Wp.gs | with_reducible apply Wp.cs | with_reducible apply Wp.cselX | with_reducible apply Wp.askT | with_reducible apply Wp.iteKT | with_reducible apply Wp.ikb | with_reducible apply Wp.askb); case h => ((try simp (disch := omega) only [↓reduceIte, ask_true, ↓X0, X1, Nat.reduceEqDiff, Int.reduceEq, Nat.reduceAdd, Nat.reduceSub, e0, e1, e5, h1.len, hlt, q1, q2, he, hw]); (first | done | with_reducible exact bT | with_reducible exact bF))) | (with_reducible apply Wp.gu) | (simp only [↓X3]) | (with_reducible apply Wp.assoc))); try simp only [outOf_exit, outOf_ret]); try (with_reducible apply Wp.cargs; case h => ((try simp (disch := omega) only [↓reduceIte, ask_true, ↓X0, X1, Nat.reduceEqDiff, Int.reduceEq, Nat.reduceAdd, Nat.reduceSub, e0, e1, e5, h1.len, hlt, q1, q2, he, hw]); with_reducible exact rfl)))
      exact Wp.pure (Nxt.ret ⟨by simp only; omega, rfl, .inr ⟨rfl, by simp [put_at], fun h => he (by rw [h])⟩⟩)
  · (((repeat (first | (with_reducible apply Wp.step; case h => ((try simp (disch := omega) only [↓reduceIte, ask_true, ↓X0, X1, Nat.reduceEqDiff, Int.reduceEq, Nat.reduceAdd, Nat.reduceSub, e0, e1, e5, h1.len, hlt]); with_reducible exact rfl)) | (apply Wp.andS) | (apply Wp.orS) | ((first | with_reducible apply Wp.gs | with_reducible apply Wp.cs | with_reducible apply Wp.cselX | with_reducible apply Wp.askT | with_reducible apply Wp.iteKT | with_reducible apply Wp.ikb | with_reducible apply Wp.askb); case h => ((try simp (disch := omega) only [↓reduceIte, ask_true, ↓X0, X1, Nat.reduceEqDiff, Int.reduceEq, Nat.reduceAdd, Nat.reduceSub, e0, e1, e5, h1.len, hlt]); (first | done | with_reducible exact bT | with_reducible exact bF))) | (with_reducible apply Wp.gu) | (simp only [↓X3]) | (with_reducible apply Wp.assoc))); try simp only [outOf_exit, outOf_ret]); try (with_reducible apply Wp.cargs; case h => ((try simp (disch := omega) only [↓reduceIte, ask_true, ↓X0, X1, Nat.reduceEqDiff, Int.reduceEq, Nat.reduceAdd, Nat.reduceSub, e0, e1, e5, h1.len, hlt]); with_reducible exact rfl)))
    rw [List.take_of_length_le (by omega), List.take_of_length_le (by omega)] at htk
    exact Wp.pure (Nxt.exit ⟨Nat.le_trans hn (Nat.le_add_right _ _), rfl, .inl ⟨rfl, htk⟩⟩)
theorem k30 {n : Nat} {H : Hp} {v1 v2 : Value} {a b : List Bool} (h1 : Li eBool n H v1 a) (h2 : Li eBool n H v2 b) (hl : a.length ≤ 1000000000) : Rt Try.prog 30 [v1, v2] H n (.bool (decide (a = b))) := by
  apply Rt.mk
  rw [c30]; unfold S30
  by_cases hab : (a.length : Int) = b.length
  · (((repeat (first | (with_reducible apply Wp.step; case h => ((try simp (disch := omega) only [↓reduceIte, ask_true, ↓X0, X1, Nat.reduceEqDiff, Int.reduceEq, Nat.reduceAdd, Nat.reduceSub, h1.len, h2.len, hab]); with_reducible exact rfl)) | (apply Wp.andS) | (apply Wp.orS) | ((first | with_reducible apply Wp.gs | with_reducible apply Wp.cs | with_reducible apply Wp.cselX | with_reducible apply Wp.askT | with_reducible apply Wp.iteKT | with_reducible apply Wp.ikb | with_reducible apply Wp.askb); case h => ((try simp (disch := omega) only [↓reduceIte, ask_true, ↓X0, X1, Nat.reduceEqDiff, Int.reduceEq, Nat.reduceAdd, Nat.reduceSub, h1.len, h2.len, hab]); (first | done | with_reducible exact bT | with_reducible exact bF))) | (with_reducible apply Wp.gu) | (simp only [↓X3]) | (with_reducible apply Wp.assoc))); try simp only [outOf_exit, outOf_ret]); try (with_reducible apply Wp.cargs; case h => ((try simp (disch := omega) only [↓reduceIte, ask_true, ↓X0, X1, Nat.reduceEqDiff, Int.reduceEq, Nat.reduceAdd, Nat.reduceSub, h1.len, h2.len, hab]); with_reducible exact rfl)))
    refine Wp.bind (l30 h1 h2 (by omega) hl _ _ (by simp [put_at, argsT_at]) (by simp [put_at, argsT_at]) (by simp [put_at])) ?_
    rintro ⟨oe, ot, oH, on⟩ ⟨f1, rfl, f2⟩
    simp only at f1 f2
    rcases f2 with ⟨rfl, f2⟩ | ⟨rfl, f2, f3⟩
    · simp (disch := omega) only [↓reduceIte, ask_true, ↓X0, X1, Nat.reduceEqDiff, Int.reduceEq, Nat.reduceAdd, Nat.reduceSub]
      exact Wp.pure ⟨by simp only; omega, fun _ _ => rfl, by simp only [f2, decide_true]⟩
    · simp (disch := omega) only [↓reduceIte, ask_true, ↓X0, X1, Nat.reduceEqDiff, Int.reduceEq, Nat.reduceAdd, Nat.reduceSub, f2]
      exact Wp.pure ⟨by simp only; omega, fun _ _ => rfl, by simp only [f3, decide_false]⟩
  · (((repeat (first | (with_reducible apply Wp.step; case h => ((try simp (disch := omega) only [↓reduceIte, ask_true, ↓X0, X1, Nat.reduceEqDiff, Int.reduceEq, Nat.reduceAdd, Nat.reduceSub, h1.len, h2.len, hab]); with_reducible exact rfl)) | (apply Wp.andS) | (apply Wp.orS) | ((first | with_reducible apply Wp.gs | with_reducible apply Wp.cs | with_reducible apply Wp.cselX | with_reducible apply Wp.askT | with_reducible apply Wp.iteKT | with_reducible apply Wp.ikb | with_reducible apply Wp.askb); case h => ((try simp (disch := omega) only [↓reduceIte, ask_true, ↓X0, X1, Nat.reduceEqDiff, Int.reduceEq, Nat.reduceAdd, Nat.reduceSub, h1.len, h2.len, hab]); (first | done | with_reducible exact bT | with_reducible exact bF))) | (with_reducible apply Wp.gu) | (simp only [↓X3]) | (with_reducible apply Wp.assoc))); try simp only [outOf_exit, outOf_ret]); try (with_reducible apply Wp.cargs; case h => ((try simp (disch := omega) only [↓reduceIte, ask_true, ↓X0, X1, Nat.reduceEqDiff, Int.reduceEq, Nat.reduceAdd, Nat.reduceSub, h1.len, h2.len, hab]); with_reducible exact rfl)))
    exact Wp.pure ⟨by simp only; omega, fun _ _ => rfl, by simp only [show ¬ a = b from fun h => hab (by rw [h]), decide_false]⟩
theorem l33 {id n0 : Nat} {H0 : Hp} {l : List Bool} {k : Int} (hk : 0 ≤ k ∧ k ≤ 100000000) (hl : l.length ≤ 100000000) (hid : id < n0) (h : H0 id = some (.row (l.flatMap eBool.cells) 1 true)) : ∀ t n, n0 ≤ n → t 0 = sl id 0 l.length → t 1 = .int .i64 k → t 5 = .int .i64 0 →
    Wp (Loop (S33L0 (Call Try.prog) Loop) t H0 n) (fun o => n ≤ o.n ∧ (∀ i, i < n0 → i ≠ id → o.H i = H0 i) ∧ o.e = .exit 0 ∧ o.t 1 = .int .i64 (k + l.length) ∧ o.H id = some (.row ((fam (bMark k) l.length).flatMap eBool.cells) 1 true)) := by
  intro t n hn0 e0 e1 e5
  refine Loop_rule (fun d t H n' => ∃ (j : Nat), j + d = l.length ∧ n ≤ n' ∧ (∀ i, i < n0 → i ≠ id → H i = H0 i) ∧ t 0 = sl id 0 l.length ∧ t 1 = .int .i64 (k + j) ∧ t 5 = .int .i64 j ∧ H id = some (.row ((fam (bMark k) j ++ l.drop j).flatMap eBool.cells) 1 true)) _ ?_ l.length t H0 n ⟨0, by omega, by omega, fun _ _ _ => rfl, e0, by simpa using e1, e5, by simpa [fam] using h⟩
  rintro d t H n' ⟨j, hj, hn, s0, e0, e1, e5, hH⟩
  unfold S33L0
  by_cases hlt : j < l.length
  · have hlti : (j : Int) < l.length := by omega
    have hw := wj (j := j) (len := l.length) hlt (by omega)
    have hw2 : IntKind.i64.wrap (k + (j : Int) + 1) = k + ((j + 1 : Nat) : Int) := by rw [w64 (by omega)]; omega
    have hst := st_el1 (E := eBool) hH (j := j) (by rw [fam_drop_len _ (by omega)]; exact hlt) (y := bMark k j) rfl rfl rfl
    rw [fam_set (bMark k) hlt] at hst
    have hix := idx_sl (sz := 1) (id := id) (k := .i64) hlt
    rw [Nat.mul_one] at hix
    rw [bMark] at hst
    (((repeat (first | (with_reducible apply Wp.step; case h => ((try simp (disch := omega) only [↓reduceIte, ask_true, ↓X0, X1, Nat.reduceEqDiff, Int.reduceEq, Nat.reduceAdd, Nat.reduceSub, e0, e1, e5, hlti, hix, hst, hw, hw2]); with_reducible exact rfl)) | (apply Wp.andS) | (apply Wp.orS) | ((first | with_reducible apply Wp.gs | with_reducible apply Wp.cs | with_reducible apply Wp.cselX | with_reducible apply Wp.askT | with_reducible apply Wp.iteKT | with_reducible apply Wp.ikb | with_reducible apply Wp.askb); case h => ((try simp (disch := omega) only [↓reduceIte, ask_true, ↓X0, X1, Nat.reduceEqDiff, Int.reduceEq, Nat.reduceAdd, Nat.reduceSub, e0, e1, e5, hlti, hix, hst, hw, hw2]); (first | done | with_reducible exact bT | with_reducible exact bF))) | (with_reducible apply Wp.gu) | (simp only [↓X3]) | (with_reducible apply Wp.assoc))); try simp only [outOf_exit, outOf_ret]); try (with_reducible apply Wp.cargs; case h => ((try simp (disch := omega) only [↓reduceIte, ask_true, ↓X0, X1, Nat.reduceEqDiff, Int.reduceEq, Nat.reduceAdd, Nat.reduceSub, e0, e1, e5, hlti, hix, hst, hw, hw2]); with_reducible exact rfl)))
    exact Wp.pure (Nxt.go (d - 1) (by omega) ⟨j + 1, by omega, by omega, (by intros; simp (disch := omega) only [Hp_ne, Hp_same, s0]), by simp [put_at, e0], by simp [put_at], by simp [put_at], Hp_same _ _ _⟩)
  · have hlti : ¬ (j : Int) < l.length := by omega
    (((repeat (first | (with_reducible apply Wp.step; case h => ((try simp (disch := omega) only [↓reduceIte, ask_true, ↓X0, X1, Nat.reduceEqDiff, Int.reduceEq, Nat.reduceAdd, Nat.reduceSub, e0, e1, e5, hlti]); with_reducible exact rfl)) | (apply Wp.andS) | (apply Wp.orS) | ((first | with_reducible apply Wp.gs | with_reducible apply Wp.cs | with_reducible apply Wp.cselX | with_reducible apply Wp.askT | with_reducible apply Wp.iteKT | with_reducible apply Wp.ikb | with_reducible apply Wp.askb); case h => ((try simp (disch := omega) only [↓reduceIte, ask_true, ↓X0, X1, Nat.reduceEqDiff, Int.reduceEq, Nat.reduceAdd, Nat.reduceSub, e0, e1, e5, hlti]); (first | done | with_reducible exact bT | with_reducible exact bF))) | (with_reducible apply Wp.gu) | (simp only [↓X3]) | (with_reducible apply Wp.assoc))); try simp only [outOf_exit, outOf_ret]); try (with_reducible apply Wp.cargs; case h => ((try simp (disch := omega) only [↓reduceIte, ask_true, ↓X0, X1, Nat.reduceEqDiff, Int.reduceEq, Nat.reduceAdd, Nat.reduceSub, e0, e1, e5, hlti]); with_reducible exact rfl)))
    have hjl : j = l.length := by omega
    subst hjl
    exact Wp.pure (Nxt.exit ⟨Nat.le_trans hn (Nat.le_add_right _ _), s0, rfl, by simp [put_at, e1], by simpa using hH⟩)
theorem k33 {id n : Nat} {H : Hp} {v : Value} {l : List Bool} (h : At eBool id H v l) (hid : id < n) (k : Int) (hk : 0 ≤ k ∧ k ≤ 100000000) (hl : l.length ≤ 100000000) : RtM Try.prog 33 [v, .int .i64 k] id H n (.int .i64 (k + l.length)) (fun H' n' => At eBool id H' v (fam (bMark k) l.length)) := by
  apply RtM.of
  rw [c33]; unfold S33
  rcases h with ⟨rfl, rfl⟩ | ⟨rfl, h⟩
  · rw [Loop_eq]
    unfold S33L0
    simp (disch := omega) only [↓reduceIte, ask_true, ↓X0, X1, Nat.reduceEqDiff, Int.reduceEq, Nat.reduceAdd, Nat.reduceSub, thenO]
    exact Wp.pure ⟨by simp only; omega, fun _ _ _ => rfl, by simp [put_at, argsT_at], .inl ⟨rfl, rfl⟩⟩
  · refine Wp.bind (l33 hk hl hid h _ _ (by omega) (by simp [put_at, argsT_at]) (by simp [put_at, argsT_at]) (by simp [put_at])) ?_
    rintro ⟨oe, ot, oH, on⟩ ⟨f1, f2, rfl, f4, f5⟩
    simp only at f1 f2 f4 f5
    simp (disch := omega) only [↓reduceIte, ask_true, ↓X0, X1, Nat.reduceEqDiff, Int.reduceEq, Nat.reduceAdd, Nat.reduceSub, f4]
    exact Wp.pure ⟨by simp only; omega, f2, rfl, .inr ⟨by rw [fam_len], f5⟩⟩
theorem k34 {n : Nat} {H : Hp} {v : Value} {m : Nat} {k : Int} (hv : Li eBool n H v (fam (bMark k) m)) (hk : 0 ≤ k ∧ k ≤ 100000000) (hl : m ≤ 100000000) : Rt Try.prog 34 [v, .int .i64 k] H n (.int .i64 (k + m)) := by
  apply Rt.mk
  rw [c34]; unfold S34
  have hlen := hv.len
  rw [fam_len] at hlen
  refine Wp.bind (Loop_rule (fun d t H' n' => ∃ (j : Nat), j + d = m ∧ n ≤ n' ∧ H' = H ∧ t 0 = v ∧ t 1 = .int .i64 (k + j) ∧ t 5 = .int .i64 j) (fun o => n ≤ o.n ∧ o.H = H ∧ o.e = .exit 0 ∧ o.t 1 = .int .i64 (k + m)) ?_ m _ H _ ⟨0, by omega, by omega, rfl, by simp [put_at, argsT_at], by simp [put_at, argsT_at], by simp [put_at]⟩) ?_
  · rintro d t H n' ⟨j, hj, hn, rfl, e0, e1, e5⟩
    unfold S34L0
    by_cases hlt : j < m
    · have hlti : (j : Int) < m := by omega
      have hw := wj (j := j) (len := m) hlt (by omega)
      have hw2 : IntKind.i64.wrap (k + (j : Int) + 1) = k + ((j + 1 : Nat) : Int) := by rw [w64 (by omega)]; omega
      have g := hv.oAll (i := (j : Int)) (by omega) (by rw [fam_len]; exact hlti)
      rw [fam_gi _ hlt, bMark] at g
      (((repeat (first | (with_reducible apply Wp.step; case h => ((try simp (disch := omega) only [↓reduceIte, ask_true, ↓X0, X1, Nat.reduceEqDiff, Int.reduceEq, Nat.reduceAdd, Nat.reduceSub, e0, e1, e5, hlen, hlti, g, hw, hw2, eq_self.{1}]); with_reducible exact rfl)) | (apply Wp.andS) | (apply Wp.orS) | ((first | with_reducible apply Wp.gs | with_reducible apply Wp.cs | with_reducible apply Wp.cselX | with_reducible apply Wp.askT | with_reducible apply Wp.iteKT | with_reducible apply Wp.ikb | with_reducible apply Wp.askb); case h => ((try simp (disch := omega) only [↓reduceIte, ask_true, ↓X0, X1, Nat.reduceEqDiff, Int.reduceEq, Nat.reduceAdd, Nat.reduceSub, e0, e1, e5, hlen, hlti, g, hw, hw2, eq_self.{1}]); (first | done | with_reducible exact bT | with_reducible exact bF))) | (with_reducible apply Wp.gu) | (simp only [↓X3]) | (with_reducible apply Wp.assoc))); try simp only [outOf_exit, outOf_ret]); try (with_reducible apply Wp.cargs; case h => ((try simp (disch := omega) only [↓reduceIte, ask_true, ↓X0, X1, Nat.reduceEqDiff, Int.reduceEq, Nat.reduceAdd, Nat.reduceSub, e0, e1, e5, hlen, hlti, g, hw, hw2, eq_self.{1}]); with_reducible exact rfl)))
      exact Wp.pure (Nxt.go (d - 1) (by omega) ⟨j + 1, by omega, by omega, rfl, by simp [put_at, e0], by simp [put_at], by simp [put_at]⟩)
    · have hlti : ¬ (j : Int) < m := by omega
      (((repeat (first | (with_reducible apply Wp.step; case h => ((try simp (disch := omega) only [↓reduceIte, ask_true, ↓X0, X1, Nat.reduceEqDiff, Int.reduceEq, Nat.reduceAdd, Nat.reduceSub, e0, e1, e5, hlen, hlti]); with_reducible exact rfl)) | (apply Wp.andS) | (apply Wp.orS) | ((first | with_reducible apply Wp.gs | with_reducible apply Wp.cs | with_reducible apply Wp.cselX | with_reducible apply Wp.askT | with_reducible apply Wp.iteKT | with_reducible apply Wp.ikb | with_reducible apply Wp.askb); case h => ((try simp (disch := omega) only [↓reduceIte, ask_true, ↓X0, X1, Nat.reduceEqDiff, Int.reduceEq, Nat.reduceAdd, Nat.reduceSub, e0, e1, e5, hlen, hlti]); (first | done | with_reducible exact bT | with_reducible exact bF))) | (with_reducible apply Wp.gu) | (simp only [↓X3]) | (with_reducible apply Wp.assoc))); try simp only [outOf_exit, outOf_ret]); try (with_reducible apply Wp.cargs; case h => ((try simp (disch := omega) only [↓reduceIte, ask_true, ↓X0, X1, Nat.reduceEqDiff, Int.reduceEq, Nat.reduceAdd, Nat.reduceSub, e0, e1, e5, hlen, hlti]); with_reducible exact rfl)))
      have hjl : j = m := by omega
      subst hjl
      exact Wp.pure (Nxt.exit ⟨Nat.le_trans hn (Nat.le_add_right _ _), rfl, rfl, by simp [put_at, e1]⟩)
  · rintro ⟨oe, ot, oH, on⟩ ⟨f1, rfl, rfl, f4⟩
    simp only at f1 f4
    simp (disch := omega) only [↓reduceIte, ask_true, ↓X0, X1, Nat.reduceEqDiff, Int.reduceEq, Nat.reduceAdd, Nat.reduceSub, f4]
    exact Wp.pure ⟨by simp only; omega, fun _ _ => rfl, rfl⟩
end Go.Proofs.Ytcjbaidcmidijaa.Ax
