/- Contracts: numbers in decimal digits. -/
import Derived.Test.YtdnokdgkccnbnaaK47
set_option linter.unusedVariables false
set_option linter.unusedSimpArgs false
set_option maxHeartbeats 4000000
namespace Go.Proofs.Ytdnokdgkccnbnaa.Ax
open Go
theorem conv_is (id : Nat) (k : IntKind) (x : Int) (H : Hp) : conv .intToStr id (.int k x) H = some (.string (Utf8.encode x), H) := rfl
theorem nt_div (m : Nat) : ((m : Int)).tdiv 10 = ((m / 10 : Nat) : Int) := by rw [Int.tdiv_eq_ediv_of_nonneg (by omega)]; omega
theorem nt_mod (m : Nat) : ((m : Int)).tmod 10 = ((m % 10 : Nat) : Int) := by rw [Int.tmod_eq_emod_of_nonneg (by omega)]; omega
theorem ng_div (m : Nat) : (-(m : Int)).tdiv 10 = -((m / 10 : Nat) : Int) := by rw [Int.neg_tdiv, nt_div]
theorem ng_mod (m : Nat) : (-(m : Int)).tmod 10 = -((m % 10 : Nat) : Int) := by rw [Int.neg_tmod, nt_mod]
theorem digs_sz {m : Nat} (h : m ≤ 1000000000000) : (strOf (digs m)).size ≤ 13 := by
  rw [strOf_size]; exact digs_len 12 m (by omega)
theorem kN57 : ∀ (m : Nat), m ≤ 1000000000000 → ∀ (H : Hp) (n : Nat), Rt Try.prog 57 [.int .i64 (m : Int)] H n (.string (strOf (digs m))) := by
  intro m
  induction m using Nat.strongRecOn with
  | ind m ih =>
    intro hm H n
    apply Rt.mk
    rw [c57]; unfold S57
    have c0 : ¬ (m : Int) < 0 := by omega
    by_cases h : m < 10
    · have c1 : (m : Int) < 10 := by omega
      have hw : IntKind.i64.wrap (48 + (m : Int)) = 48 + m := w64 (by omega)
      have hw2 : IntKind.i32.wrap (48 + (m : Int)) = 48 + m := IntWalk.i32_in _ (by omega)
      (((repeat (first | (with_reducible apply Wp.step; case h => ((try simp (disch := omega) only [↓reduceIte, ask_true, ↓X0, X1, Nat.reduceEqDiff, Int.reduceEq, Nat.reduceAdd, Nat.reduceSub, X2, Hp_ne, Nat.reduceLeDiff, c0, c1, hw, hw2, conv_is]); with_reducible exact rfl)) | (apply Wp.andS) | (apply Wp.orS) | ((with_reducible first | apply Wp.gs | apply Wp.cs | apply Wp.cselX | apply Wp.askT | apply Wp.iteKT | apply Wp.ikb | apply Wp.askb); case h => ((try simp (disch := omega) only [↓reduceIte, ask_true, ↓X0, X1, Nat.reduceEqDiff, Int.reduceEq, Nat.reduceAdd, Nat.reduceSub, X2, Hp_ne, Nat.reduceLeDiff, c0, c1, hw, hw2, conv_is]); (with_reducible first | done | exact bT | exact bF))) | (with_reducible apply Wp.gu) | (simp only [↓X3]) | (with_reducible apply Wp.assoc))); try simp only [outOf_exit, outOf_ret]); try (with_reducible apply Wp.cargs; case h => ((try simp (disch := omega) only [↓reduceIte, ask_true, ↓X0, X1, Nat.reduceEqDiff, Int.reduceEq, Nat.reduceAdd, Nat.reduceSub, X2, Hp_ne, Nat.reduceLeDiff, c0, c1, hw, hw2, conv_is]); with_reducible exact rfl)))
      exact Wp.pure ⟨by simp only; omega, (by intros; first | with_reducible rfl | simp (disch := omega) only [Hp_ne, Hp_same]), by rw [enc_digit (by omega) (by omega), digs_lt h]⟩
    · have c1 : ¬ (m : Int) < 10 := by omega
      have hw : IntKind.i64.wrap (((m / 10 : Nat) : Int)) = ((m / 10 : Nat) : Int) := w64 (by omega)
      have hw1 : IntKind.i64.wrap (48 + ((m % 10 : Nat) : Int)) = 48 + ((m % 10 : Nat) : Int) := w64 (by omega)
      have hw2 : IntKind.i32.wrap (48 + ((m % 10 : Nat) : Int)) = 48 + ((m % 10 : Nat) : Int) := IntWalk.i32_in _ (by omega)
      have he := enc_digit (d := ((m % 10 : Nat) : Int)) (by omega) (by omega)
      have hz := digs_sz (m := m / 10) (by omega)
      have ha := s_add (a := strOf (digs (m / 10))) (b := strOf [48 + ((m % 10 : Nat) : Int)]) (by rw [strOf1_size]; omega)
      (((repeat (first | (with_reducible apply Wp.step; case h => ((try simp (disch := omega) only [↓reduceIte, ask_true, ↓X0, X1, Nat.reduceEqDiff, Int.reduceEq, Nat.reduceAdd, Nat.reduceSub, X2, Hp_ne, Nat.reduceLeDiff, c0, c1, nt_div, hw]); with_reducible exact rfl)) | (apply Wp.andS) | (apply Wp.orS) | ((with_reducible first | apply Wp.gs | apply Wp.cs | apply Wp.cselX | apply Wp.askT | apply Wp.iteKT | apply Wp.ikb | apply Wp.askb); case h => ((try simp (disch := omega) only [↓reduceIte, ask_true, ↓X0, X1, Nat.reduceEqDiff, Int.reduceEq, Nat.reduceAdd, Nat.reduceSub, X2, Hp_ne, Nat.reduceLeDiff, c0, c1, nt_div, hw]); (with_reducible first | done | exact bT | exact bF))) | (with_reducible apply Wp.gu) | (simp only [↓X3]) | (with_reducible apply Wp.assoc))); try simp only [outOf_exit, outOf_ret]); try (with_reducible apply Wp.cargs; case h => ((try simp (disch := omega) only [↓reduceIte, ask_true, ↓X0, X1, Nat.reduceEqDiff, Int.reduceEq, Nat.reduceAdd, Nat.reduceSub, X2, Hp_ne, Nat.reduceLeDiff, c0, c1, nt_div, hw]); with_reducible exact rfl)))
      refine Wp.rt (ih (m / 10) (by omega) (by omega) _ _) ?_
      intro H1 n1 q1 s1
      (((repeat (first | (with_reducible apply Wp.step; case h => ((try simp (disch := omega) only [↓reduceIte, ask_true, ↓X0, X1, Nat.reduceEqDiff, Int.reduceEq, Nat.reduceAdd, Nat.reduceSub, X2, Hp_ne, Nat.reduceLeDiff, nt_mod, hw1, hw2, conv_is, he, ha]); with_reducible exact rfl)) | (apply Wp.andS) | (apply Wp.orS) | ((with_reducible first | apply Wp.gs | apply Wp.cs | apply Wp.cselX | apply Wp.askT | apply Wp.iteKT | apply Wp.ikb | apply Wp.askb); case h => ((try simp (disch := omega) only [↓reduceIte, ask_true, ↓X0, X1, Nat.reduceEqDiff, Int.reduceEq, Nat.reduceAdd, Nat.reduceSub, X2, Hp_ne, Nat.reduceLeDiff, nt_mod, hw1, hw2, conv_is, he, ha]); (with_reducible first | done | exact bT | exact bF))) | (with_reducible apply Wp.gu) | (simp only [↓X3]) | (with_reducible apply Wp.assoc))); try simp only [outOf_exit, outOf_ret]); try (with_reducible apply Wp.cargs; case h => ((try simp (disch := omega) only [↓reduceIte, ask_true, ↓X0, X1, Nat.reduceEqDiff, Int.reduceEq, Nat.reduceAdd, Nat.reduceSub, X2, Hp_ne, Nat.reduceLeDiff, nt_mod, hw1, hw2, conv_is, he, ha]); with_reducible exact rfl)))
      exact Wp.pure ⟨by simp only; omega, (by intros; first | with_reducible rfl | simp (disch := omega) only [Hp_ne, Hp_same, s1]), by rw [digs_ge h, str_app]⟩
theorem kM57 : ∀ (m : Nat), 0 < m → m ≤ 1000000000000 → ∀ (H : Hp) (n : Nat), Rt Try.prog 57 [.int .i64 (-(m : Int))] H n (.string (strOf (45 :: digs m))) := by
  intro m
  induction m using Nat.strongRecOn with
  | ind m ih =>
    intro h0 hm H n
    apply Rt.mk
    rw [c57]; unfold S57
    have c0 : -(m : Int) < 0 := by omega
    by_cases h : m < 10
    · have c1 : -10 < -(m : Int) := by omega
      have hw : IntKind.i64.wrap (0 - -(m : Int)) = (m : Int) := by rw [w64 (by omega)]; omega
      have hz := digs_sz hm
      have ha := s_add (a := ⟨#[45]⟩) (b := strOf (digs m)) (by show 1 + _ ≤ _; omega)
      (((repeat (first | (with_reducible apply Wp.step; case h => ((try simp (disch := omega) only [↓reduceIte, ask_true, ↓X0, X1, Nat.reduceEqDiff, Int.reduceEq, Nat.reduceAdd, Nat.reduceSub, X2, Hp_ne, Nat.reduceLeDiff, c0, c1, hw]); with_reducible exact rfl)) | (apply Wp.andS) | (apply Wp.orS) | ((with_reducible first | apply Wp.gs | apply Wp.cs | apply Wp.cselX | apply Wp.askT | apply Wp.iteKT | apply Wp.ikb | apply Wp.askb); case h => ((try simp (disch := omega) only [↓reduceIte, ask_true, ↓X0, X1, Nat.reduceEqDiff, Int.reduceEq, Nat.reduceAdd, Nat.reduceSub, X2, Hp_ne, Nat.reduceLeDiff, c0, c1, hw]); (with_reducible first | done | exact bT | exact bF))) | (with_reducible apply Wp.gu) | (simp only [↓X3]) | (with_reducible apply Wp.assoc))); try simp only [outOf_exit, outOf_ret]); try (with_reducible apply Wp.cargs; case h => ((try simp (disch := omega) only [↓reduceIte, ask_true, ↓X0, X1, Nat.reduceEqDiff, Int.reduceEq, Nat.reduceAdd, Nat.reduceSub, X2, Hp_ne, Nat.reduceLeDiff, c0, c1, hw]); with_reducible exact rfl)))
      refine Wp.rt (kN57 m hm _ _) ?_
      intro H1 n1 q1 s1
      (((repeat (first | (with_reducible apply Wp.step; case h => ((try simp (disch := omega) only [↓reduceIte, ask_true, ↓X0, X1, Nat.reduceEqDiff, Int.reduceEq, Nat.reduceAdd, Nat.reduceSub, X2, Hp_ne, Nat.reduceLeDiff, ha]); with_reducible exact rfl)) | (apply Wp.andS) | (apply Wp.orS) | ((with_reducible first | apply Wp.gs | apply Wp.cs | apply Wp.cselX | apply Wp.askT | apply Wp.iteKT | apply Wp.ikb | apply Wp.askb); case h => ((try simp (disch := omega) only [↓reduceIte, ask_true, ↓X0, X1, Nat.reduceEqDiff, Int.reduceEq, Nat.reduceAdd, Nat.reduceSub, X2, Hp_ne, Nat.reduceLeDiff, ha]); (with_reducible first | done | exact bT | exact bF))) | (with_reducible apply Wp.gu) | (simp only [↓X3]) | (with_reducible apply Wp.assoc))); try simp only [outOf_exit, outOf_ret]); try (with_reducible apply Wp.cargs; case h => ((try simp (disch := omega) only [↓reduceIte, ask_true, ↓X0, X1, Nat.reduceEqDiff, Int.reduceEq, Nat.reduceAdd, Nat.reduceSub, X2, Hp_ne, Nat.reduceLeDiff, ha]); with_reducible exact rfl)))
      exact Wp.pure ⟨by simp only; omega, (by intros; first | with_reducible rfl | simp (disch := omega) only [Hp_ne, Hp_same, s1]), by rw [show (45 :: digs m) = [45] ++ digs m from rfl, str_app]; rfl⟩
    · have c1 : ¬ -10 < -(m : Int) := by omega
      have hw : IntKind.i64.wrap (-((m / 10 : Nat) : Int)) = -((m / 10 : Nat) : Int) := w64 (by omega)
      have hw1 : IntKind.i64.wrap (0 - -((m % 10 : Nat) : Int)) = ((m % 10 : Nat) : Int) := by rw [w64 (by omega)]; omega
      have hz := digs_sz (m := m / 10) (by omega)
      have hz2 := digs_sz (m := m % 10) (by omega)
      have ha := s_add (a := strOf (45 :: digs (m / 10))) (b := strOf (digs (m % 10))) (by rw [strOf_size] at hz hz2; rw [strOf_size, strOf_size, List.length_cons]; omega)
      (((repeat (first | (with_reducible apply Wp.step; case h => ((try simp (disch := omega) only [↓reduceIte, ask_true, ↓X0, X1, Nat.reduceEqDiff, Int.reduceEq, Nat.reduceAdd, Nat.reduceSub, X2, Hp_ne, Nat.reduceLeDiff, c0, c1, ng_div, hw]); with_reducible exact rfl)) | (apply Wp.andS) | (apply Wp.orS) | ((with_reducible first | apply Wp.gs | apply Wp.cs | apply Wp.cselX | apply Wp.askT | apply Wp.iteKT | apply Wp.ikb | apply Wp.askb); case h => ((try simp (disch := omega) only [↓reduceIte, ask_true, ↓X0, X1, Nat.reduceEqDiff, Int.reduceEq, Nat.reduceAdd, Nat.reduceSub, X2, Hp_ne, Nat.reduceLeDiff, c0, c1, ng_div, hw]); (with_reducible first | done | exact bT | exact bF))) | (with_reducible apply Wp.gu) | (simp only [↓X3]) | (with_reducible apply Wp.assoc))); try simp only [outOf_exit, outOf_ret]); try (with_reducible apply Wp.cargs; case h => ((try simp (disch := omega) only [↓reduceIte, ask_true, ↓X0, X1, Nat.reduceEqDiff, Int.reduceEq, Nat.reduceAdd, Nat.reduceSub, X2, Hp_ne, Nat.reduceLeDiff, c0, c1, ng_div, hw]); with_reducible exact rfl)))
      refine Wp.rt (ih (m / 10) (by omega) (by omega) (by omega) _ _) ?_
      intro H1 n1 q1 s1
      (((repeat (first | (with_reducible apply Wp.step; case h => ((try simp (disch := omega) only [↓reduceIte, ask_true, ↓X0, X1, Nat.reduceEqDiff, Int.reduceEq, Nat.reduceAdd, Nat.reduceSub, X2, Hp_ne, Nat.reduceLeDiff, ng_mod, hw1]); with_reducible exact rfl)) | (apply Wp.andS) | (apply Wp.orS) | ((with_reducible first | apply Wp.gs | apply Wp.cs | apply Wp.cselX | apply Wp.askT | apply Wp.iteKT | apply Wp.ikb | apply Wp.askb); case h => ((try simp (disch := omega) only [↓reduceIte, ask_true, ↓X0, X1, Nat.reduceEqDiff, Int.reduceEq, Nat.reduceAdd, Nat.reduceSub, X2, Hp_ne, Nat.reduceLeDiff, ng_mod, hw1]); (with_reducible first | done | exact bT | exact bF))) | (with_reducible apply Wp.gu) | (simp only [↓X3]) | (with_reducible apply Wp.assoc))); try simp only [outOf_exit, outOf_ret]); try (with_reducible apply Wp.cargs; case h => ((try simp (disch := omega) only [↓reduceIte, ask_true, ↓X0, X1, Nat.reduceEqDiff, Int.reduceEq, Nat.reduceAdd, Nat.reduceSub, X2, Hp_ne, Nat.reduceLeDiff, ng_mod, hw1]); with_reducible exact rfl)))
      refine Wp.rt (kN57 (m % 10) (by omega) _ _) ?_
      intro H2 n2 q2 s2
      (((repeat (first | (with_reducible apply Wp.step; case h => ((try simp (disch := omega) only [↓reduceIte, ask_true, ↓X0, X1, Nat.reduceEqDiff, Int.reduceEq, Nat.reduceAdd, Nat.reduceSub, X2, Hp_ne, Nat.reduceLeDiff, ha]); with_reducible exact rfl)) | (apply Wp.andS) | (apply Wp.orS) | ((with_reducible first | apply Wp.gs | apply Wp.cs | apply Wp.cselX | apply Wp.askT | apply Wp.iteKT | apply Wp.ikb | apply Wp.askb); case h => ((try simp (disch := omega) only [↓reduceIte, ask_true, ↓X0, X1, Nat.reduceEqDiff, Int.reduceEq, Nat.reduceAdd, Nat.reduceSub, X2, Hp_ne, Nat.reduceLeDiff, ha]); (with_reducible first | done | exact bT | exact bF))) | (with_reducible apply Wp.gu) | (simp only [↓X3]) | (with_reducible apply Wp.assoc))); try simp only [outOf_exit, outOf_ret]); try (with_reducible apply Wp.cargs; case h => ((try simp (disch := omega) only [↓reduceIte, ask_true, ↓X0, X1, Nat.reduceEqDiff, Int.reduceEq, Nat.reduceAdd, Nat.reduceSub, X2, Hp_ne, Nat.reduceLeDiff, ha]); with_reducible exact rfl)))
      exact Wp.pure ⟨by simp only; omega, (by intros; first | with_reducible rfl | simp (disch := omega) only [Hp_ne, Hp_same, s2, s1]), by rw [digs_ge h, digs_lt (n := m % 10) (by omega), ← str_app]; rfl⟩
theorem k57 (x : Int) (hx : -1000000000 ≤ x ∧ x ≤ 1000000000) (H : Hp) (n : Nat) : Rt Try.prog 57 [.int .i64 x] H n (.string (strOf (decOf x))) := by
  by_cases h : x < 0
  · rw [decOf_neg h]
    have := kM57 x.natAbs (by omega) (by omega) H n
    rw [show -(x.natAbs : Int) = x by omega] at this
    exact this
  · rw [decOf_nat h]
    have := kN57 x.natAbs (by omega) H n
    rw [show (x.natAbs : Int) = x by omega] at this
    exact this
def digs0 (m : Nat) : List Int := if m = 0 then [] else digs m
theorem digs0_step {m : Nat} (h : 0 < m) : digs0 m = digs0 (m / 10) ++ [48 + ((m % 10 : Nat) : Int)] := by
  unfold digs0
  rw [if_neg (by omega)]
  by_cases h1 : m < 10
  · rw [digs_lt h1, if_pos (by omega)]; simp; omega
  · rw [digs_ge h1, if_neg (by omega)]
theorem digs0_len {m : Nat} (h : m ≤ 1000000000000) : (digs0 m).length ≤ 13 := by
  unfold digs0; split
  · simp
  · exact digs_len 12 m (by omega)
theorem kN52 (m : Nat) (hm : m ≤ 1000000000000) (H : Hp) (n : Nat) : Rt Try.prog 52 [.int .i64 (m : Int)] H n (.string (strOf (digs m))) := by
  apply Rt.mk
  rw [c52]; unfold S52
  have c0 : ¬ (m : Int) < 0 := by omega
  by_cases h : m = 0
  · subst h
    (((repeat (first | (with_reducible apply Wp.step; case h => ((try simp (disch := omega) only [↓reduceIte, ask_true, ↓X0, X1, Nat.reduceEqDiff, Int.reduceEq, Nat.reduceAdd, Nat.reduceSub, X2, Hp_ne, Nat.reduceLeDiff, show ¬ ((0 : Nat) : Int) < 0 by decide, show ((0 : Nat) : Int) = 0 from rfl]); with_reducible exact rfl)) | (apply Wp.andS) | (apply Wp.orS) | ((with_reducible first | apply Wp.gs | apply Wp.cs | apply Wp.cselX | apply Wp.askT | apply Wp.iteKT | apply Wp.ikb | apply Wp.askb); case h => ((try simp (disch := omega) only [↓reduceIte, ask_true, ↓X0, X1, Nat.reduceEqDiff, Int.reduceEq, Nat.reduceAdd, Nat.reduceSub, X2, Hp_ne, Nat.reduceLeDiff, show ¬ ((0 : Nat) : Int) < 0 by decide, show ((0 : Nat) : Int) = 0 from rfl]); (with_reducible first | done | exact bT | exact bF))) | (with_reducible apply Wp.gu) | (simp only [↓X3]) | (with_reducible apply Wp.assoc))); try simp only [outOf_exit, outOf_ret]); try (with_reducible apply Wp.cargs; case h => ((try simp (disch := omega) only [↓reduceIte, ask_true, ↓X0, X1, Nat.reduceEqDiff, Int.reduceEq, Nat.reduceAdd, Nat.reduceSub, X2, Hp_ne, Nat.reduceLeDiff, show ¬ ((0 : Nat) : Int) < 0 by decide, show ((0 : Nat) : Int) = 0 from rfl]); with_reducible exact rfl)))
    exact Wp.pure ⟨by simp only; omega, (by intros; first | with_reducible rfl | simp (disch := omega) only [Hp_ne, Hp_same]), by rw [digs_lt (by omega)]; rfl⟩
  · have c1 : ¬ (m : Int) = 0 := by omega
    (((repeat (first | (with_reducible apply Wp.step; case h => ((try simp (disch := omega) only [↓reduceIte, ask_true, ↓X0, X1, Nat.reduceEqDiff, Int.reduceEq, Nat.reduceAdd, Nat.reduceSub, X2, Hp_ne, Nat.reduceLeDiff, c0, c1]); with_reducible exact rfl)) | (apply Wp.andS) | (apply Wp.orS) | ((with_reducible first | apply Wp.gs | apply Wp.cs | apply Wp.cselX | apply Wp.askT | apply Wp.iteKT | apply Wp.ikb | apply Wp.askb); case h => ((try simp (disch := omega) only [↓reduceIte, ask_true, ↓X0, X1, Nat.reduceEqDiff, Int.reduceEq, Nat.reduceAdd, Nat.reduceSub, X2, Hp_ne, Nat.reduceLeDiff, c0, c1]); (with_reducible first | done | exact bT | exact bF))) | (with_reducible apply Wp.gu) | (simp only [↓X3]) | (with_reducible apply Wp.assoc))); try simp only [outOf_exit, outOf_ret]); try (with_reducible apply Wp.cargs; case h => ((try simp (disch := omega) only [↓reduceIte, ask_true, ↓X0, X1, Nat.reduceEqDiff, Int.reduceEq, Nat.reduceAdd, Nat.reduceSub, X2, Hp_ne, Nat.reduceLeDiff, c0, c1]); with_reducible exact rfl)))
    refine Wp.bind (Loop_rule (fun d T H' n' => ∃ (q : Nat) (o : List Int), q = d ∧ n ≤ n' ∧ (∀ i, i < n → H' i = H i) ∧ T 0 = .int .i64 (q : Int) ∧ q ≤ 1000000000000 ∧ o.length ≤ 13 ∧ T 3 = .string (strOf o) ∧ digs0 m = digs0 q ++ o) (fun o => n ≤ o.n ∧ (∀ i, i < n → o.H i = H i) ∧ o.e = .exit 0 ∧ o.t 3 = .string (strOf (digs m))) ?_ m _ _ _ ⟨m, [], rfl, by omega, (by intros; first | with_reducible rfl | simp (disch := omega) only [Hp_ne, Hp_same]), by simp [put_at, argsT_at], hm, by simp, by simp [put_at]; rfl, by simp⟩) ?_
    · rintro d T H' n' ⟨q, o, rfl, hn, s1, e0, hq, ho, e3, heq⟩
      unfold S52L0
      by_cases hq0 : q = 0
      · subst hq0
        (((repeat (first | (with_reducible apply Wp.step; case h => ((try simp (disch := omega) only [↓reduceIte, ask_true, ↓X0, X1, Nat.reduceEqDiff, Int.reduceEq, Nat.reduceAdd, Nat.reduceSub, e0, show ¬ (0 : Int) < ((0 : Nat) : Int) by decide]); with_reducible exact rfl)) | (apply Wp.andS) | (apply Wp.orS) | ((with_reducible first | apply Wp.gs | apply Wp.cs | apply Wp.cselX | apply Wp.askT | apply Wp.iteKT | apply Wp.ikb | apply Wp.askb); case h => ((try simp (disch := omega) only [↓reduceIte, ask_true, ↓X0, X1, Nat.reduceEqDiff, Int.reduceEq, Nat.reduceAdd, Nat.reduceSub, e0, show ¬ (0 : Int) < ((0 : Nat) : Int) by decide]); (with_reducible first | done | exact bT | exact bF))) | (with_reducible apply Wp.gu) | (simp only [↓X3]) | (with_reducible apply Wp.assoc))); try simp only [outOf_exit, outOf_ret]); try (with_reducible apply Wp.cargs; case h => ((try simp (disch := omega) only [↓reduceIte, ask_true, ↓X0, X1, Nat.reduceEqDiff, Int.reduceEq, Nat.reduceAdd, Nat.reduceSub, e0, show ¬ (0 : Int) < ((0 : Nat) : Int) by decide]); with_reducible exact rfl)))
        refine Wp.pure (Nxt.exit ⟨by simp only; omega, s1, rfl, ?_⟩)
        have : digs m = o := by
          unfold digs0 at heq; rw [if_neg h, if_pos rfl, List.nil_append] at heq; exact heq
        simp [put_at, e3, this]
      · have hq1 : (0 : Int) < (q : Int) := by omega
        have hw1 : IntKind.i64.wrap (48 + ((q % 10 : Nat) : Int)) = 48 + ((q % 10 : Nat) : Int) := w64 (by omega)
        have hw2 : IntKind.u8.wrap (48 + ((q % 10 : Nat) : Int)) = 48 + ((q % 10 : Nat) : Int) := IntWalk.u8_in _ (by omega)
        have hw3 : IntKind.i64.wrap (((q / 10 : Nat) : Int)) = ((q / 10 : Nat) : Int) := w64 (by omega)
        have ha := s_add (a := strOf [48 + ((q % 10 : Nat) : Int)]) (b := strOf o) (by rw [strOf1_size, strOf_size]; omega)
        (((repeat (first | (with_reducible apply Wp.step; case h => ((try simp (disch := omega) only [↓reduceIte, ask_true, ↓X0, X1, Nat.reduceEqDiff, Int.reduceEq, Nat.reduceAdd, Nat.reduceSub, e0, e3, hq1, nt_mod, nt_div, hw1, hw2, hw3, bsl_b, conv_b, ha]); with_reducible exact rfl)) | (apply Wp.andS) | (apply Wp.orS) | ((with_reducible first | apply Wp.gs | apply Wp.cs | apply Wp.cselX | apply Wp.askT | apply Wp.iteKT | apply Wp.ikb | apply Wp.askb); case h => ((try simp (disch := omega) only [↓reduceIte, ask_true, ↓X0, X1, Nat.reduceEqDiff, Int.reduceEq, Nat.reduceAdd, Nat.reduceSub, e0, e3, hq1, nt_mod, nt_div, hw1, hw2, hw3, bsl_b, conv_b, ha]); (with_reducible first | done | exact bT | exact bF))) | (with_reducible apply Wp.gu) | (simp only [↓X3]) | (with_reducible apply Wp.assoc))); try simp only [outOf_exit, outOf_ret]); try (with_reducible apply Wp.cargs; case h => ((try simp (disch := omega) only [↓reduceIte, ask_true, ↓X0, X1, Nat.reduceEqDiff, Int.reduceEq, Nat.reduceAdd, Nat.reduceSub, e0, e3, hq1, nt_mod, nt_div, hw1, hw2, hw3, bsl_b, conv_b, ha]); with_reducible exact rfl)))
        have hst := digs0_step (m := q) (by omega)
        rw [hst, List.append_assoc] at heq
        have hl := congrArg List.length heq
        have hl2 := digs0_len hm
        rw [List.length_append] at hl
        refine Wp.pure (Nxt.go (q / 10) (by omega) ⟨q / 10, [48 + ((q % 10 : Nat) : Int)] ++ o, rfl, by omega, (by intros; first | with_reducible rfl | simp (disch := omega) only [Hp_ne, Hp_same, s1]), by simp [put_at], by omega, by omega, by simp [put_at]; rw [show (48 + ((q : Int) % 10)) :: o = [48 + ((q : Int) % 10)] ++ o from rfl, str_app], heq⟩)
    · rintro ⟨oe, ot, oH, on⟩ ⟨f1, f2, rfl, f4⟩
      simp only at f1 f2 f4
      (((repeat (first | (with_reducible apply Wp.step; case h => ((try simp (disch := omega) only [↓reduceIte, ask_true, ↓X0, X1, Nat.reduceEqDiff, Int.reduceEq, Nat.reduceAdd, Nat.reduceSub, f4]); with_reducible exact rfl)) | (apply Wp.andS) | (apply Wp.orS) | ((with_reducible first | apply Wp.gs | apply Wp.cs | apply Wp.cselX | apply Wp.askT | apply Wp.iteKT | apply Wp.ikb | apply Wp.askb); case h => ((try simp (disch := omega) only [↓reduceIte, ask_true, ↓X0, X1, Nat.reduceEqDiff, Int.reduceEq, Nat.reduceAdd, Nat.reduceSub, f4]); (with_reducible first | done | exact bT | exact bF))) | (with_reducible apply Wp.gu) | (simp only [↓X3]) | (with_reducible apply Wp.assoc))); try simp only [outOf_exit, outOf_ret]); try (with_reducible apply Wp.cargs; case h => ((try simp (disch := omega) only [↓reduceIte, ask_true, ↓X0, X1, Nat.reduceEqDiff, Int.reduceEq, Nat.reduceAdd, Nat.reduceSub, f4]); with_reducible exact rfl)))
      exact Wp.pure ⟨by simp only; omega, f2, f4⟩
theorem k52 (x : Int) (hx : -1000000000 ≤ x ∧ x ≤ 1000000000) (H : Hp) (n : Nat) : Rt Try.prog 52 [.int .i64 x] H n (.string (strOf (decOf x))) := by
  by_cases h : x < 0
  · rw [decOf_neg h]
    apply Rt.mk
    rw [c52]; unfold S52
    have hw : IntKind.i64.wrap (0 - x) = ((x.natAbs : Nat) : Int) := by rw [w64 (by omega)]; omega
    have hz := digs_sz (m := x.natAbs) (by omega)
    have ha := s_add (a := ⟨#[45]⟩) (b := strOf (digs x.natAbs)) (by show 1 + _ ≤ _; omega)
    (((repeat (first | (with_reducible apply Wp.step; case h => ((try simp (disch := omega) only [↓reduceIte, ask_true, ↓X0, X1, Nat.reduceEqDiff, Int.reduceEq, Nat.reduceAdd, Nat.reduceSub, X2, Hp_ne, Nat.reduceLeDiff, h, hw]); with_reducible exact rfl)) | (apply Wp.andS) | (apply Wp.orS) | ((with_reducible first | apply Wp.gs | apply Wp.cs | apply Wp.cselX | apply Wp.askT | apply Wp.iteKT | apply Wp.ikb | apply Wp.askb); case h => ((try simp (disch := omega) only [↓reduceIte, ask_true, ↓X0, X1, Nat.reduceEqDiff, Int.reduceEq, Nat.reduceAdd, Nat.reduceSub, X2, Hp_ne, Nat.reduceLeDiff, h, hw]); (with_reducible first | done | exact bT | exact bF))) | (with_reducible apply Wp.gu) | (simp only [↓X3]) | (with_reducible apply Wp.assoc))); try simp only [outOf_exit, outOf_ret]); try (with_reducible apply Wp.cargs; case h => ((try simp (disch := omega) only [↓reduceIte, ask_true, ↓X0, X1, Nat.reduceEqDiff, Int.reduceEq, Nat.reduceAdd, Nat.reduceSub, X2, Hp_ne, Nat.reduceLeDiff, h, hw]); with_reducible exact rfl)))
    refine Wp.rt (kN52 x.natAbs (by omega) _ _) ?_
    intro H1 n1 q1 s1
    (((repeat (first | (with_reducible apply Wp.step; case h => ((try simp (disch := omega) only [↓reduceIte, ask_true, ↓X0, X1, Nat.reduceEqDiff, Int.reduceEq, Nat.reduceAdd, Nat.reduceSub, X2, Hp_ne, Nat.reduceLeDiff, ha]); with_reducible exact rfl)) | (apply Wp.andS) | (apply Wp.orS) | ((with_reducible first | apply Wp.gs | apply Wp.cs | apply Wp.cselX | apply Wp.askT | apply Wp.iteKT | apply Wp.ikb | apply Wp.askb); case h => ((try simp (disch := omega) only [↓reduceIte, ask_true, ↓X0, X1, Nat.reduceEqDiff, Int.reduceEq, Nat.reduceAdd, Nat.reduceSub, X2, Hp_ne, Nat.reduceLeDiff, ha]); (with_reducible first | done | exact bT | exact bF))) | (with_reducible apply Wp.gu) | (simp only [↓X3]) | (with_reducible apply Wp.assoc))); try simp only [outOf_exit, outOf_ret]); try (with_reducible apply Wp.cargs; case h => ((try simp (disch := omega) only [↓reduceIte, ask_true, ↓X0, X1, Nat.reduceEqDiff, Int.reduceEq, Nat.reduceAdd, Nat.reduceSub, X2, Hp_ne, Nat.reduceLeDiff, ha]); with_reducible exact rfl)))
    exact Wp.pure ⟨by simp only; omega, (by intros; first | with_reducible rfl | simp (disch := omega) only [Hp_ne, Hp_same, s1]), by rw [show (45 :: digs x.natAbs) = [45] ++ digs x.natAbs from rfl, str_app]; rfl⟩
  · rw [decOf_nat h]
    have := kN52 x.natAbs (by omega) H n
    rw [show (x.natAbs : Int) = x by omega] at this
    exact this
end Go.Proofs.Ytdnokdgkccnbnaa.Ax
