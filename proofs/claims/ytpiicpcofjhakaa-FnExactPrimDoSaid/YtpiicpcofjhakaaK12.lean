/- Contracts: marks, numbers copied and compared. -/
import Derived.Test.YtpiicpcofjhakaaAy7
import Derived.Test.YtpiicpcofjhakaaK8
set_option linter.unusedVariables false
set_option linter.unusedSimpArgs false
namespace Go.Proofs.Ytpiicpcofjhakaa.Ax
open Go
def mAcc : Nat → Int → ByteArray → ByteArray
  | 0, _, acc => acc
  | f + 1, k, acc => if 0 < k then mAcc f (k.tdiv 10) (strOf [IntKind.u8.wrap (48 + k.tmod 10)] ++ acc) else acc
/-- A mark's text. -/
def mText (k : Int) : ByteArray := if k ≤ 0 then ⟨#[109, 48]⟩ else ⟨#[109]⟩ ++ mAcc k.toNat k ⟨#[]⟩
theorem tdiv10 {k : Int} (h : 0 < k) : 0 ≤ k.tdiv 10 ∧ k.tdiv 10 < k := by
  rw [Int.tdiv_eq_ediv_of_nonneg (by omega)]; omega
theorem tmod10 {k : Int} (h : 0 ≤ k) : 0 ≤ k.tmod 10 ∧ k.tmod 10 < 10 := by
  rw [Int.tmod_eq_emod_of_nonneg (by omega)]; omega
theorem l115 {m : Int} (hm : m ≤ 1000000000) : ∀ t H n, t 0 = .int .i64 m → t 3 = .string ⟨#[]⟩ → 0 ≤ m →
    Wp (Loop (S115L0 (Call Try.prog) Loop) t H n) (fun o => n ≤ o.n ∧ (∀ i, i < n → o.H i = H i) ∧ o.e = .exit 0 ∧ o.t 3 = .string (mAcc m.toNat m ⟨#[]⟩) ∧ (mAcc m.toNat m ⟨#[]⟩).size ≤ 1000000000) := by
  intro t H n e0 e3 hm0
  refine Loop_rule (fun d T H' n' => ∃ (k : Int) (acc : ByteArray), 0 ≤ k ∧ k ≤ m ∧ k.toNat ≤ d ∧ n ≤ n' ∧ (∀ i, i < n → H' i = H i) ∧ T 0 = .int .i64 k ∧ T 3 = .string acc ∧ acc.size + d = m.toNat ∧ mAcc d k acc = mAcc m.toNat m ⟨#[]⟩) _ ?_ m.toNat t H n ⟨m, ⟨#[]⟩, by omega, by omega, by omega, by omega, fun _ _ => rfl, e0, e3, by simp [ByteArray.size], rfl⟩
  rintro d T H' n' ⟨k, acc, hk0, hkm, hd, hn, s0, e0, e3, hsz, hres⟩
  unfold S115L0
  by_cases hk : 0 < k
  · have h1 := tdiv10 hk
    have h2 := tmod10 hk0
    obtain ⟨d, rfl⟩ : ∃ d', d = d' + 1 := ⟨d - 1, by omega⟩
    have w1 : IntKind.i64.wrap (48 + k.tmod 10) = 48 + k.tmod 10 := w64 (by omega)
    have w2 : IntKind.i64.wrap (k.tdiv 10) = k.tdiv 10 := w64 (by omega)
    have w3 := s_add (a := strOf [IntKind.u8.wrap (48 + k.tmod 10)]) (b := acc) (by rw [strOf1_size]; omega)
    (((repeat (first | (with_reducible apply Wp.step; case h => ((try simp (disch := omega) only [↓reduceIte, ask_true, ↓X0, X1, Nat.reduceEqDiff, Int.reduceEq, Nat.reduceAdd, Nat.reduceSub, X2, Hp_ne, Nat.reduceLeDiff, e0, e3, hk, w1, w2, bsl_b, conv_b, w3]); with_reducible exact rfl)) | (apply Wp.andS) | (apply Wp.orS) | ((first | with_reducible apply Wp.gs | with_reducible apply Wp.cs | with_reducible apply Wp.cselX | with_reducible apply Wp.askT | with_reducible apply Wp.iteKT | with_reducible apply Wp.ikb | with_reducible apply Wp.askb); case h => ((try simp (disch := omega) only [↓reduceIte, ask_true, ↓X0, X1, Nat.reduceEqDiff, Int.reduceEq, Nat.reduceAdd, Nat.reduceSub, X2, Hp_ne, Nat.reduceLeDiff, e0, e3, hk, w1, w2, bsl_b, conv_b, w3]); (first | done | with_reducible exact bT | with_reducible exact bF))) | (with_reducible apply Wp.gu) | (simp only [↓X3]) | (simp (disch := decide) only [asks_nil, asks_in, asks_out, askB_nil, askB_in, askB_out]) | (with_reducible apply Wp.assoc))); try simp only [outOf_exit, outOf_ret]); try (with_reducible apply Wp.cargs; case h => ((try simp (disch := omega) only [↓reduceIte, ask_true, ↓X0, X1, Nat.reduceEqDiff, Int.reduceEq, Nat.reduceAdd, Nat.reduceSub, X2, Hp_ne, Nat.reduceLeDiff, e0, e3, hk, w1, w2, bsl_b, conv_b, w3]); with_reducible exact rfl)))
    rw [mAcc, if_pos hk] at hres
    exact Wp.pure (Nxt.go d (by omega) ⟨k.tdiv 10, _, by omega, by omega, by omega, by omega, (by intros; first | with_reducible rfl | simp (disch := omega) only [Hp_ne, Hp_same, s0]), by simp [put_at], by simp [put_at], by rw [ba_app, strOf1_size]; omega, hres⟩)
  · (((repeat (first | (with_reducible apply Wp.step; case h => ((try simp (disch := omega) only [↓reduceIte, ask_true, ↓X0, X1, Nat.reduceEqDiff, Int.reduceEq, Nat.reduceAdd, Nat.reduceSub, e0, e3, hk]); with_reducible exact rfl)) | (apply Wp.andS) | (apply Wp.orS) | ((first | with_reducible apply Wp.gs | with_reducible apply Wp.cs | with_reducible apply Wp.cselX | with_reducible apply Wp.askT | with_reducible apply Wp.iteKT | with_reducible apply Wp.ikb | with_reducible apply Wp.askb); case h => ((try simp (disch := omega) only [↓reduceIte, ask_true, ↓X0, X1, Nat.reduceEqDiff, Int.reduceEq, Nat.reduceAdd, Nat.reduceSub, e0, e3, hk]); (first | done | with_reducible exact bT | with_reducible exact bF))) | (with_reducible apply Wp.gu) | (simp only [↓X3]) | (simp (disch := decide) only [asks_nil, asks_in, asks_out, askB_nil, askB_in, askB_out]) | (with_reducible apply Wp.assoc))); try simp only [outOf_exit, outOf_ret]); try (with_reducible apply Wp.cargs; case h => ((try simp (disch := omega) only [↓reduceIte, ask_true, ↓X0, X1, Nat.reduceEqDiff, Int.reduceEq, Nat.reduceAdd, Nat.reduceSub, e0, e3, hk]); with_reducible exact rfl)))
    have hk' : k = 0 := by omega
    have hr : mAcc d k acc = acc := by cases d <;> simp [mAcc, hk]
    rw [hr] at hres
    exact Wp.pure (Nxt.exit ⟨by simp only; omega, s0, rfl, by simp [put_at, e3, hres], by rw [← hres]; omega⟩)
theorem k115 (k : Int) (hk : k ≤ 1000000000) (H : Hp) (n : Nat) : Rt Try.prog 115 [.int .i64 k] H n (.string (mText k)) := by
  apply Rt.mk
  rw [c115]; unfold S115 mText
  by_cases h : k ≤ 0
  · (((repeat (first | (with_reducible apply Wp.step; case h => ((try simp (disch := omega) only [↓reduceIte, ask_true, ↓X0, X1, Nat.reduceEqDiff, Int.reduceEq, Nat.reduceAdd, Nat.reduceSub, h]); with_reducible exact rfl)) | (apply Wp.andS) | (apply Wp.orS) | ((first | with_reducible apply Wp.gs | with_reducible apply Wp.cs | with_reducible apply Wp.cselX | with_reducible apply Wp.askT | with_reducible apply Wp.iteKT | with_reducible apply Wp.ikb | with_reducible apply Wp.askb); case h => ((try simp (disch := omega) only [↓reduceIte, ask_true, ↓X0, X1, Nat.reduceEqDiff, Int.reduceEq, Nat.reduceAdd, Nat.reduceSub, h]); (first | done | with_reducible exact bT | with_reducible exact bF))) | (with_reducible apply Wp.gu) | (simp only [↓X3]) | (simp (disch := decide) only [asks_nil, asks_in, asks_out, askB_nil, askB_in, askB_out]) | (with_reducible apply Wp.assoc))); try simp only [outOf_exit, outOf_ret]); try (with_reducible apply Wp.cargs; case h => ((try simp (disch := omega) only [↓reduceIte, ask_true, ↓X0, X1, Nat.reduceEqDiff, Int.reduceEq, Nat.reduceAdd, Nat.reduceSub, h]); with_reducible exact rfl)))
    exact Wp.pure ⟨by simp only; omega, fun _ _ => rfl, by simp only [h, if_true]⟩
  · (((repeat (first | (with_reducible apply Wp.step; case h => ((try simp (disch := omega) only [↓reduceIte, ask_true, ↓X0, X1, Nat.reduceEqDiff, Int.reduceEq, Nat.reduceAdd, Nat.reduceSub, h]); with_reducible exact rfl)) | (apply Wp.andS) | (apply Wp.orS) | ((first | with_reducible apply Wp.gs | with_reducible apply Wp.cs | with_reducible apply Wp.cselX | with_reducible apply Wp.askT | with_reducible apply Wp.iteKT | with_reducible apply Wp.ikb | with_reducible apply Wp.askb); case h => ((try simp (disch := omega) only [↓reduceIte, ask_true, ↓X0, X1, Nat.reduceEqDiff, Int.reduceEq, Nat.reduceAdd, Nat.reduceSub, h]); (first | done | with_reducible exact bT | with_reducible exact bF))) | (with_reducible apply Wp.gu) | (simp only [↓X3]) | (simp (disch := decide) only [asks_nil, asks_in, asks_out, askB_nil, askB_in, askB_out]) | (with_reducible apply Wp.assoc))); try simp only [outOf_exit, outOf_ret]); try (with_reducible apply Wp.cargs; case h => ((try simp (disch := omega) only [↓reduceIte, ask_true, ↓X0, X1, Nat.reduceEqDiff, Int.reduceEq, Nat.reduceAdd, Nat.reduceSub, h]); with_reducible exact rfl)))
    refine Wp.bind (l115 hk _ _ _ (by simp [put_at, argsT_at]) (by simp [put_at]) (by omega)) ?_
    rintro ⟨oe, ot, oH, on⟩ ⟨f1, f2, rfl, f4, f5⟩
    simp only at f1 f2 f4 f5
    have w3 := s_add (a := ⟨#[109]⟩) (b := mAcc k.toNat k ⟨#[]⟩) (by have : (⟨#[109]⟩ : ByteArray).size = 1 := rfl; omega)
    (((repeat (first | (with_reducible apply Wp.step; case h => ((try simp (disch := omega) only [↓reduceIte, ask_true, ↓X0, X1, Nat.reduceEqDiff, Int.reduceEq, Nat.reduceAdd, Nat.reduceSub, f4, w3]); with_reducible exact rfl)) | (apply Wp.andS) | (apply Wp.orS) | ((first | with_reducible apply Wp.gs | with_reducible apply Wp.cs | with_reducible apply Wp.cselX | with_reducible apply Wp.askT | with_reducible apply Wp.iteKT | with_reducible apply Wp.ikb | with_reducible apply Wp.askb); case h => ((try simp (disch := omega) only [↓reduceIte, ask_true, ↓X0, X1, Nat.reduceEqDiff, Int.reduceEq, Nat.reduceAdd, Nat.reduceSub, f4, w3]); (first | done | with_reducible exact bT | with_reducible exact bF))) | (with_reducible apply Wp.gu) | (simp only [↓X3]) | (simp (disch := decide) only [asks_nil, asks_in, asks_out, askB_nil, askB_in, askB_out]) | (with_reducible apply Wp.assoc))); try simp only [outOf_exit, outOf_ret]); try (with_reducible apply Wp.cargs; case h => ((try simp (disch := omega) only [↓reduceIte, ask_true, ↓X0, X1, Nat.reduceEqDiff, Int.reduceEq, Nat.reduceAdd, Nat.reduceSub, f4, w3]); with_reducible exact rfl)))
    exact Wp.pure ⟨by simp only; omega, (by intros; first | with_reducible rfl | simp (disch := omega) only [Hp_ne, Hp_same, f2]), by simp only [h, if_false]⟩
/-! ### Numbers -/
theorem l30 {n0 : Nat} {H0 : Hp} {v1 v2 : Value} {a b : List Int} (h1 : Li eInt n0 H0 v1 a) (h2 : Li eInt n0 H0 v2 b) (hab : a.length = b.length) (hl : a.length ≤ 1000000000) : ∀ t n, t 0 = v1 → t 1 = v2 → t 5 = .int .i64 0 →
    Wp (Loop (S30L0 (Call Try.prog) Loop) t H0 n) (fun o => n ≤ o.n ∧ o.H = H0 ∧ ((o.e = .exit 0 ∧ a = b) ∨ (o.e = .ret ∧ o.t 4 = .bool false ∧ a ≠ b))) := by
  intro t n e0 e1 e5
  refine Loop_rule (fun d t H n' => ∃ (j : Nat), j + d = a.length ∧ n ≤ n' ∧ H = H0 ∧ t 0 = v1 ∧ t 1 = v2 ∧ t 5 = .int .i64 j ∧ a.take j = b.take j) _ ?_ a.length t H0 n ⟨0, by omega, by omega, rfl, e0, e1, e5, by simp⟩
  rintro d t H n' ⟨j, hj, hn, rfl, e0, e1, e5, htk⟩
  unfold S30L0
  by_cases hlt : (j : Int) < a.length
  · have ha : j < a.length := by omega
    have hb : j < b.length := by omega
    have q1 := h1.iAll (by omega) hlt
    have q2 := h2.iAll (i := (j : Int)) (by omega) (by omega)
    have hw := wj (j := j) (len := a.length) ha (by omega)
    by_cases he : gi a (j : Int) = gi b (j : Int)
    · (((repeat (first | (with_reducible apply Wp.step; case h => ((try simp (disch := omega) only [↓reduceIte, ask_true, ↓X0, X1, Nat.reduceEqDiff, Int.reduceEq, Nat.reduceAdd, Nat.reduceSub, e0, e1, e5, h1.len, hlt, q1, q2, he, hw]); with_reducible exact rfl)) | (apply Wp.andS) | (apply Wp.orS) | ((first | with_reducible apply Wp.gs | with_reducible apply Wp.cs | with_reducible apply Wp.cselX | with_reducible apply Wp.askT | with_reducible apply Wp.iteKT | with_reducible apply Wp.ikb | with_reducible apply Wp.askb); case h => ((try simp (disch := omega) only [↓reduceIte, ask_true, ↓X0, X1, Nat.reduceEqDiff, Int.reduceEq, Nat.reduceAdd, Nat.reduceSub, e0, e1, e5, h1.len, hlt, q1, q2, he, hw]); (first | done | with_reducible exact bT | with_reducible exact bF))) | (with_reducible apply Wp.gu) | (simp only [↓X3]) | (simp (disch := decide) only [asks_nil, asks_in, asks_out, askB_nil, askB_in, askB_out]) | (with_reducible apply Wp.assoc))); try simp only [outOf_exit, outOf_ret]); try (with_reducible apply Wp.cargs; case h => ((try simp (disch := omega) only [↓reduceIte, ask_true, ↓X0, X1, Nat.reduceEqDiff, Int.reduceEq, Nat.reduceAdd, Nat.reduceSub, e0, e1, e5, h1.len, hlt, q1, q2, he, hw]); with_reducible exact rfl)))
      exact Wp.pure (Nxt.go (d - 1) (by omega) ⟨j + 1, by omega, by omega, rfl, by simp [put_at, e0], by simp [put_at, e1], by simp [put_at], by rw [take_next ha, take_next hb, htk, ← gi_nat ha, ← gi_nat hb, he]⟩)
    · (((repeat (first | (with_reducible apply Wp.step; case h => ((try simp (disch := omega) only [↓reduceIte, ask_true, ↓X0, X1, Nat.reduceEqDiff, Int.reduceEq, Nat.reduceAdd, Nat.reduceSub, e0, e1, e5, h1.len, hlt, q1, q2, he, hw]); with_reducible exact rfl)) | (apply Wp.andS) | (apply Wp.orS) | ((first | with_reducible apply Wp.gs | with_reducible apply Wp.cs | with_reducible apply Wp.cselX | with_reducible apply Wp.askT | with_reducible apply Wp.iteKT | with_reducible apply Wp.ikb | with_reducible apply Wp.askb); case h => ((try simp (disch := omega) only [↓reduceIte, ask_true, ↓X0, X1, Nat.reduceEqDiff, Int.reduceEq, Nat.reduceAdd, Nat.reduceSub, e0, e1, e5, h1.len, hlt, q1, q2, he, hw]); (first | done | with_reducible exact bT | with_reducible exact bF))) | (with_reducible apply Wp.gu) | (simp only [↓X3]) | (simp (disch := decide) only [asks_nil, asks_in, asks_out, askB_nil, askB_in, askB_out]) | (with_reducible apply Wp.assoc))); try simp only [outOf_exit, outOf_ret]); try (with_reducible apply Wp.cargs; case h => ((try simp (disch := omega) only [↓reduceIte, ask_true, ↓X0, X1, Nat.reduceEqDiff, Int.reduceEq, Nat.reduceAdd, Nat.reduceSub, e0, e1, e5, h1.len, hlt, q1, q2, he, hw]); with_reducible exact rfl)))
      exact Wp.pure (Nxt.ret ⟨by simp only; omega, rfl, .inr ⟨rfl, by simp [put_at], fun h => he (by rw [h])⟩⟩)
  · (((repeat (first | (with_reducible apply Wp.step; case h => ((try simp (disch := omega) only [↓reduceIte, ask_true, ↓X0, X1, Nat.reduceEqDiff, Int.reduceEq, Nat.reduceAdd, Nat.reduceSub, e0, e1, e5, h1.len, hlt]); with_reducible exact rfl)) | (apply Wp.andS) | (apply Wp.orS) | ((first | with_reducible apply Wp.gs | with_reducible apply Wp.cs | with_reducible apply Wp.cselX | with_reducible apply Wp.askT | with_reducible apply Wp.iteKT | with_reducible apply Wp.ikb | with_reducible apply Wp.askb); case h => ((try simp (disch := omega) only [↓reduceIte, ask_true, ↓X0, X1, Nat.reduceEqDiff, Int.reduceEq, Nat.reduceAdd, Nat.reduceSub, e0, e1, e5, h1.len, hlt]); (first | done | with_reducible exact bT | with_reducible exact bF))) | (with_reducible apply Wp.gu) | (simp only [↓X3]) | (simp (disch := decide) only [asks_nil, asks_in, asks_out, askB_nil, askB_in, askB_out]) | (with_reducible apply Wp.assoc))); try simp only [outOf_exit, outOf_ret]); try (with_reducible apply Wp.cargs; case h => ((try simp (disch := omega) only [↓reduceIte, ask_true, ↓X0, X1, Nat.reduceEqDiff, Int.reduceEq, Nat.reduceAdd, Nat.reduceSub, e0, e1, e5, h1.len, hlt]); with_reducible exact rfl)))
    rw [List.take_of_length_le (by omega), List.take_of_length_le (by omega)] at htk
    exact Wp.pure (Nxt.exit ⟨Nat.le_trans hn (Nat.le_add_right _ _), rfl, .inl ⟨rfl, htk⟩⟩)
theorem k30 {n : Nat} {H : Hp} {v1 v2 : Value} {a b : List Int} (h1 : Li eInt n H v1 a) (h2 : Li eInt n H v2 b) (hl : a.length ≤ 1000000000) : Rt Try.prog 30 [v1, v2] H n (.bool (decide (a = b))) := by
  apply Rt.mk
  rw [c30]; unfold S30
  by_cases hab : (a.length : Int) = b.length
  · (((repeat (first | (with_reducible apply Wp.step; case h => ((try simp (disch := omega) only [↓reduceIte, ask_true, ↓X0, X1, Nat.reduceEqDiff, Int.reduceEq, Nat.reduceAdd, Nat.reduceSub, h1.len, h2.len, hab]); with_reducible exact rfl)) | (apply Wp.andS) | (apply Wp.orS) | ((first | with_reducible apply Wp.gs | with_reducible apply Wp.cs | with_reducible apply Wp.cselX | with_reducible apply Wp.askT | with_reducible apply Wp.iteKT | with_reducible apply Wp.ikb | with_reducible apply Wp.askb); case h => ((try simp (disch := omega) only [↓reduceIte, ask_true, ↓X0, X1, Nat.reduceEqDiff, Int.reduceEq, Nat.reduceAdd, Nat.reduceSub, h1.len, h2.len, hab]); (first | done | with_reducible exact bT | with_reducible exact bF))) | (with_reducible apply Wp.gu) | (simp only [↓X3]) | (simp (disch := decide) only [asks_nil, asks_in, asks_out, askB_nil, askB_in, askB_out]) | (with_reducible apply Wp.assoc))); try simp only [outOf_exit, outOf_ret]); try (with_reducible apply Wp.cargs; case h => ((try simp (disch := omega) only [↓reduceIte, ask_true, ↓X0, X1, Nat.reduceEqDiff, Int.reduceEq, Nat.reduceAdd, Nat.reduceSub, h1.len, h2.len, hab]); with_reducible exact rfl)))
    refine Wp.bind (l30 h1 h2 (by omega) hl _ _ (by simp [put_at, argsT_at]) (by simp [put_at, argsT_at]) (by simp [put_at])) ?_
    rintro ⟨oe, ot, oH, on⟩ ⟨f1, rfl, f2⟩
    simp only at f1 f2
    rcases f2 with ⟨rfl, f2⟩ | ⟨rfl, f2, f3⟩
    · simp (disch := omega) only [↓reduceIte, ask_true, ↓X0, X1, Nat.reduceEqDiff, Int.reduceEq, Nat.reduceAdd, Nat.reduceSub]
      exact Wp.pure ⟨by simp only; omega, fun _ _ => rfl, by simp only [f2, decide_true]⟩
    · simp (disch := omega) only [↓reduceIte, ask_true, ↓X0, X1, Nat.reduceEqDiff, Int.reduceEq, Nat.reduceAdd, Nat.reduceSub, f2]
      exact Wp.pure ⟨by simp only; omega, fun _ _ => rfl, by simp only [f3, decide_false]⟩
  · (((repeat (first | (with_reducible apply Wp.step; case h => ((try simp (disch := omega) only [↓reduceIte, ask_true, ↓X0, X1, Nat.reduceEqDiff, Int.reduceEq, Nat.reduceAdd, Nat.reduceSub, h1.len, h2.len, hab]); with_reducible exact rfl)) | (apply Wp.andS) | (apply Wp.orS) | ((first | with_reducible apply Wp.gs | with_reducible apply Wp.cs | with_reducible apply Wp.cselX | with_reducible apply Wp.askT | with_reducible apply Wp.iteKT | with_reducible apply Wp.ikb | with_reducible apply Wp.askb); case h => ((try simp (disch := omega) only [↓reduceIte, ask_true, ↓X0, X1, Nat.reduceEqDiff, Int.reduceEq, Nat.reduceAdd, Nat.reduceSub, h1.len, h2.len, hab]); (first | done | with_reducible exact bT | with_reducible exact bF))) | (with_reducible apply Wp.gu) | (simp only [↓X3]) | (simp (disch := decide) only [asks_nil, asks_in, asks_out, askB_nil, askB_in, askB_out]) | (with_reducible apply Wp.assoc))); try simp only [outOf_exit, outOf_ret]); try (with_reducible apply Wp.cargs; case h => ((try simp (disch := omega) only [↓reduceIte, ask_true, ↓X0, X1, Nat.reduceEqDiff, Int.reduceEq, Nat.reduceAdd, Nat.reduceSub, h1.len, h2.len, hab]); with_reducible exact rfl)))
    exact Wp.pure ⟨by simp only; omega, fun _ _ => rfl, by simp only [show ¬ a = b from fun h => hab (by rw [h]), decide_false]⟩
theorem l32 {id n0 : Nat} {H0 : Hp} {l : List Int} {k : Int} (hk : 0 ≤ k ∧ k ≤ 100000000) (hl : l.length ≤ 100000000) (hid : id < n0) (h : H0 id = some (.row (l.flatMap eInt.cells) 1 true)) : ∀ t n, n0 ≤ n → t 0 = sl id 0 l.length → t 1 = .int .i64 k → t 5 = .int .i64 0 →
    Wp (Loop (S32L0 (Call Try.prog) Loop) t H0 n) (fun o => n ≤ o.n ∧ (∀ i, i < n0 → i ≠ id → o.H i = H0 i) ∧ o.e = .exit 0 ∧ o.t 1 = .int .i64 (k + l.length) ∧ o.H id = some (.row ((fam (fun i => k + (i : Int)) l.length).flatMap eInt.cells) 1 true)) := by
  intro t n hn0 e0 e1 e5
  refine Loop_rule (fun d t H n' => ∃ (j : Nat), j + d = l.length ∧ n ≤ n' ∧ (∀ i, i < n0 → i ≠ id → H i = H0 i) ∧ t 0 = sl id 0 l.length ∧ t 1 = .int .i64 (k + j) ∧ t 5 = .int .i64 j ∧ H id = some (.row ((fam (fun i => k + (i : Int)) j ++ l.drop j).flatMap eInt.cells) 1 true)) _ ?_ l.length t H0 n ⟨0, by omega, by omega, fun _ _ _ => rfl, e0, by simpa using e1, e5, by simpa [fam] using h⟩
  rintro d t H n' ⟨j, hj, hn, s0, e0, e1, e5, hH⟩
  unfold S32L0
  by_cases hlt : j < l.length
  · have hlti : (j : Int) < l.length := by omega
    have hw := wj (j := j) (len := l.length) hlt (by omega)
    have hw2 : IntKind.i64.wrap (k + (j : Int) + 1) = k + ((j + 1 : Nat) : Int) := by rw [w64 (by omega)]; omega
    have hst := st_el1 (E := eInt) hH (j := j) (by rw [fam_drop_len _ (by omega)]; exact hlt) (y := k + (j : Int)) rfl rfl rfl
    rw [fam_set (fun i => k + (i : Int)) hlt] at hst
    have hix := idx_sl (sz := 1) (id := id) (k := .i64) hlt
    rw [Nat.mul_one] at hix
    (((repeat (first | (with_reducible apply Wp.step; case h => ((try simp (disch := omega) only [↓reduceIte, ask_true, ↓X0, X1, Nat.reduceEqDiff, Int.reduceEq, Nat.reduceAdd, Nat.reduceSub, e0, e1, e5, hlti, hix, hst, hw, hw2]); with_reducible exact rfl)) | (apply Wp.andS) | (apply Wp.orS) | ((first | with_reducible apply Wp.gs | with_reducible apply Wp.cs | with_reducible apply Wp.cselX | with_reducible apply Wp.askT | with_reducible apply Wp.iteKT | with_reducible apply Wp.ikb | with_reducible apply Wp.askb); case h => ((try simp (disch := omega) only [↓reduceIte, ask_true, ↓X0, X1, Nat.reduceEqDiff, Int.reduceEq, Nat.reduceAdd, Nat.reduceSub, e0, e1, e5, hlti, hix, hst, hw, hw2]); (first | done | with_reducible exact bT | with_reducible exact bF))) | (with_reducible apply Wp.gu) | (simp only [↓X3]) | (simp (disch := decide) only [asks_nil, asks_in, asks_out, askB_nil, askB_in, askB_out]) | (with_reducible apply Wp.assoc))); try simp only [outOf_exit, outOf_ret]); try (with_reducible apply Wp.cargs; case h => ((try simp (disch := omega) only [↓reduceIte, ask_true, ↓X0, X1, Nat.reduceEqDiff, Int.reduceEq, Nat.reduceAdd, Nat.reduceSub, e0, e1, e5, hlti, hix, hst, hw, hw2]); with_reducible exact rfl)))
    exact Wp.pure (Nxt.go (d - 1) (by omega) ⟨j + 1, by omega, by omega, (by intros; first | with_reducible rfl | simp (disch := omega) only [Hp_ne, Hp_same, s0]), by simp [put_at, e0], by simp [put_at], by simp [put_at], Hp_same _ _ _⟩)
  · have hlti : ¬ (j : Int) < l.length := by omega
    (((repeat (first | (with_reducible apply Wp.step; case h => ((try simp (disch := omega) only [↓reduceIte, ask_true, ↓X0, X1, Nat.reduceEqDiff, Int.reduceEq, Nat.reduceAdd, Nat.reduceSub, e0, e1, e5, hlti]); with_reducible exact rfl)) | (apply Wp.andS) | (apply Wp.orS) | ((first | with_reducible apply Wp.gs | with_reducible apply Wp.cs | with_reducible apply Wp.cselX | with_reducible apply Wp.askT | with_reducible apply Wp.iteKT | with_reducible apply Wp.ikb | with_reducible apply Wp.askb); case h => ((try simp (disch := omega) only [↓reduceIte, ask_true, ↓X0, X1, Nat.reduceEqDiff, Int.reduceEq, Nat.reduceAdd, Nat.reduceSub, e0, e1, e5, hlti]); (first | done | with_reducible exact bT | with_reducible exact bF))) | (with_reducible apply Wp.gu) | (simp only [↓X3]) | (simp (disch := decide) only [asks_nil, asks_in, asks_out, askB_nil, askB_in, askB_out]) | (with_reducible apply Wp.assoc))); try simp only [outOf_exit, outOf_ret]); try (with_reducible apply Wp.cargs; case h => ((try simp (disch := omega) only [↓reduceIte, ask_true, ↓X0, X1, Nat.reduceEqDiff, Int.reduceEq, Nat.reduceAdd, Nat.reduceSub, e0, e1, e5, hlti]); with_reducible exact rfl)))
    have hjl : j = l.length := by omega
    subst hjl
    exact Wp.pure (Nxt.exit ⟨Nat.le_trans hn (Nat.le_add_right _ _), s0, rfl, by simp [put_at, e1], by simpa using hH⟩)
theorem k32 {id n : Nat} {H : Hp} {v : Value} {l : List Int} (h : At eInt id H v l) (hid : id < n) (k : Int) (hk : 0 ≤ k ∧ k ≤ 100000000) (hl : l.length ≤ 100000000) : RtM Try.prog 32 [v, .int .i64 k] id H n (.int .i64 (k + l.length)) (fun H' n' => At eInt id H' v (fam (fun i => k + (i : Int)) l.length)) := by
  apply RtM.of
  rw [c32]; unfold S32
  rcases h with ⟨rfl, rfl⟩ | ⟨rfl, h⟩
  · rw [Loop_eq]
    unfold S32L0
    simp (disch := omega) only [↓reduceIte, ask_true, ↓X0, X1, Nat.reduceEqDiff, Int.reduceEq, Nat.reduceAdd, Nat.reduceSub, thenO]
    exact Wp.pure ⟨by simp only; omega, fun _ _ _ => rfl, by simp [put_at, argsT_at], .inl ⟨rfl, rfl⟩⟩
  · refine Wp.bind (l32 hk hl hid h _ _ (by omega) (by simp [put_at, argsT_at]) (by simp [put_at, argsT_at]) (by simp [put_at])) ?_
    rintro ⟨oe, ot, oH, on⟩ ⟨f1, f2, rfl, f4, f5⟩
    simp only at f1 f2 f4 f5
    simp (disch := omega) only [↓reduceIte, ask_true, ↓X0, X1, Nat.reduceEqDiff, Int.reduceEq, Nat.reduceAdd, Nat.reduceSub, f4]
    exact Wp.pure ⟨by simp only; omega, f2, rfl, .inr ⟨by rw [fam_len], f5⟩⟩
theorem set_next {α : Type} {l : List α} {j d : Nat} {z : α} (h : j < l.length) : (l.take j ++ List.replicate (d + 1) z).set j l[j] = l.take (j + 1) ++ List.replicate d z := by
  rw [take_next h, List.replicate_succ, List.set_append_right _ _ (by rw [List.length_take]; omega), List.length_take, Nat.min_eq_left (by omega), Nat.sub_self, List.set_cons_zero, List.append_assoc]
  rfl
theorem k28 {n : Nat} {H : Hp} {v : Value} {l : List Int} (hv : Li eInt n H v l) (hl : l.length ≤ 100000000) : RtN Try.prog 28 [v] H n (fun w H' n' => New eInt n n' H' w l) := by
  apply RtN.mk
  rw [c28]; unfold S28
  have hm := mks_new eInt (0 : Int) (id := n + 3) (bytes := 8) (k := l.length) H (by decide) (by omega)
  (((repeat (first | (with_reducible apply Wp.step; case h => ((try simp (disch := omega) only [↓reduceIte, ask_true, ↓X0, X1, Nat.reduceEqDiff, Int.reduceEq, Nat.reduceAdd, Nat.reduceSub, hv.len, hm]); with_reducible exact rfl)) | (apply Wp.andS) | (apply Wp.orS) | ((first | with_reducible apply Wp.gs | with_reducible apply Wp.cs | with_reducible apply Wp.cselX | with_reducible apply Wp.askT | with_reducible apply Wp.iteKT | with_reducible apply Wp.ikb | with_reducible apply Wp.askb); case h => ((try simp (disch := omega) only [↓reduceIte, ask_true, ↓X0, X1, Nat.reduceEqDiff, Int.reduceEq, Nat.reduceAdd, Nat.reduceSub, hv.len, hm]); (first | done | with_reducible exact bT | with_reducible exact bF))) | (with_reducible apply Wp.gu) | (simp only [↓X3]) | (simp (disch := decide) only [asks_nil, asks_in, asks_out, askB_nil, askB_in, askB_out]) | (with_reducible apply Wp.assoc))); try simp only [outOf_exit, outOf_ret]); try (with_reducible apply Wp.cargs; case h => ((try simp (disch := omega) only [↓reduceIte, ask_true, ↓X0, X1, Nat.reduceEqDiff, Int.reduceEq, Nat.reduceAdd, Nat.reduceSub, hv.len, hm]); with_reducible exact rfl)))
  refine Wp.bind (Loop_rule (fun d t H' n' => ∃ j : Nat, j + d = l.length ∧ n + 6 ≤ n' ∧ (∀ i, i < n → H' i = H i) ∧ t 0 = v ∧ t 3 = sl (n + 3) 0 l.length ∧ t 4 = .int .i64 j ∧ H' (n + 3) = some (.row ((l.take j ++ List.replicate d (0 : Int)).flatMap eInt.cells) 1 true)) (fun o => n + 6 ≤ o.n ∧ (∀ i, i < n → o.H i = H i) ∧ o.e = .exit 0 ∧ o.t 3 = sl (n + 3) 0 l.length ∧ o.H (n + 3) = some (.row (l.flatMap eInt.cells) 1 true)) ?_ l.length _ (H.set (n + 3) (some (.row ((List.replicate l.length (0 : Int)).flatMap eInt.cells) eInt.sz true))) _ ⟨0, by omega, by omega, (by intros; first | with_reducible rfl | simp (disch := omega) only [Hp_ne, Hp_same]), by simp [put_at, argsT_at], by simp [put_at], by simp [put_at], Hp_same _ _ _⟩) ?_
  · rintro d t H' n' ⟨j, hj, hn, s0, e0, e3, e4, hH⟩
    unfold S28L0
    have hlen := (hv.mv (H' := H') (Nat.le_refl _) s0).len
    by_cases hlt : j < l.length
    · have hlti : (j : Int) < l.length := by omega
      obtain ⟨d, rfl⟩ : ∃ d', d = d' + 1 := ⟨d - 1, by omega⟩
      have hw := wj (j := j) (len := l.length) hlt (by omega)
      have g := (hv.mv (H' := H') (Nat.le_refl _) s0).iAll (i := (j : Int)) (by omega) hlti
      rw [gi_nat hlt] at g
      have hst := st_el1 (E := eInt) hH (j := j) (by simp; omega) (y := l[j]) rfl rfl rfl
      rw [set_next hlt] at hst
      have hix := idx_sl (sz := 1) (id := n + 3) (k := .i64) hlt
      rw [Nat.mul_one] at hix
      (((repeat (first | (with_reducible apply Wp.step; case h => ((try simp (disch := omega) only [↓reduceIte, ask_true, ↓X0, X1, Nat.reduceEqDiff, Int.reduceEq, Nat.reduceAdd, Nat.reduceSub, e0, e3, e4, hlen, hlti, g, hix, hst, hw]); with_reducible exact rfl)) | (apply Wp.andS) | (apply Wp.orS) | ((first | with_reducible apply Wp.gs | with_reducible apply Wp.cs | with_reducible apply Wp.cselX | with_reducible apply Wp.askT | with_reducible apply Wp.iteKT | with_reducible apply Wp.ikb | with_reducible apply Wp.askb); case h => ((try simp (disch := omega) only [↓reduceIte, ask_true, ↓X0, X1, Nat.reduceEqDiff, Int.reduceEq, Nat.reduceAdd, Nat.reduceSub, e0, e3, e4, hlen, hlti, g, hix, hst, hw]); (first | done | with_reducible exact bT | with_reducible exact bF))) | (with_reducible apply Wp.gu) | (simp only [↓X3]) | (simp (disch := decide) only [asks_nil, asks_in, asks_out, askB_nil, askB_in, askB_out]) | (with_reducible apply Wp.assoc))); try simp only [outOf_exit, outOf_ret]); try (with_reducible apply Wp.cargs; case h => ((try simp (disch := omega) only [↓reduceIte, ask_true, ↓X0, X1, Nat.reduceEqDiff, Int.reduceEq, Nat.reduceAdd, Nat.reduceSub, e0, e3, e4, hlen, hlti, g, hix, hst, hw]); with_reducible exact rfl)))
      exact Wp.pure (Nxt.go d (by omega) ⟨j + 1, by omega, by omega, (by intros; first | with_reducible rfl | simp (disch := omega) only [Hp_ne, Hp_same, s0]), by simp [put_at, e0], by simp [put_at, e3], by simp [put_at], Hp_same _ _ _⟩)
    · have hlti : ¬ (j : Int) < l.length := by omega
      (((repeat (first | (with_reducible apply Wp.step; case h => ((try simp (disch := omega) only [↓reduceIte, ask_true, ↓X0, X1, Nat.reduceEqDiff, Int.reduceEq, Nat.reduceAdd, Nat.reduceSub, e0, e3, e4, hlen, hlti]); with_reducible exact rfl)) | (apply Wp.andS) | (apply Wp.orS) | ((first | with_reducible apply Wp.gs | with_reducible apply Wp.cs | with_reducible apply Wp.cselX | with_reducible apply Wp.askT | with_reducible apply Wp.iteKT | with_reducible apply Wp.ikb | with_reducible apply Wp.askb); case h => ((try simp (disch := omega) only [↓reduceIte, ask_true, ↓X0, X1, Nat.reduceEqDiff, Int.reduceEq, Nat.reduceAdd, Nat.reduceSub, e0, e3, e4, hlen, hlti]); (first | done | with_reducible exact bT | with_reducible exact bF))) | (with_reducible apply Wp.gu) | (simp only [↓X3]) | (simp (disch := decide) only [asks_nil, asks_in, asks_out, askB_nil, askB_in, askB_out]) | (with_reducible apply Wp.assoc))); try simp only [outOf_exit, outOf_ret]); try (with_reducible apply Wp.cargs; case h => ((try simp (disch := omega) only [↓reduceIte, ask_true, ↓X0, X1, Nat.reduceEqDiff, Int.reduceEq, Nat.reduceAdd, Nat.reduceSub, e0, e3, e4, hlen, hlti]); with_reducible exact rfl)))
      have hd : d = 0 := by omega
      subst hd
      rw [List.take_of_length_le (by omega)] at hH
      exact Wp.pure (Nxt.exit ⟨by simp only; omega, s0, rfl, by simp [put_at, e3], by simpa using hH⟩)
  · rintro ⟨oe, ot, oH, on⟩ ⟨f1, f2, rfl, f4, f5⟩
    simp only at f1 f2 f4 f5
    (((repeat (first | (with_reducible apply Wp.step; case h => ((try simp (disch := omega) only [↓reduceIte, ask_true, ↓X0, X1, Nat.reduceEqDiff, Int.reduceEq, Nat.reduceAdd, Nat.reduceSub, f4]); with_reducible exact rfl)) | (apply Wp.andS) | (apply Wp.orS) | ((first | with_reducible apply Wp.gs | with_reducible apply Wp.cs | with_reducible apply Wp.cselX | with_reducible apply Wp.askT | with_reducible apply Wp.iteKT | with_reducible apply Wp.ikb | with_reducible apply Wp.askb); case h => ((try simp (disch := omega) only [↓reduceIte, ask_true, ↓X0, X1, Nat.reduceEqDiff, Int.reduceEq, Nat.reduceAdd, Nat.reduceSub, f4]); (first | done | with_reducible exact bT | with_reducible exact bF))) | (with_reducible apply Wp.gu) | (simp only [↓X3]) | (simp (disch := decide) only [asks_nil, asks_in, asks_out, askB_nil, askB_in, askB_out]) | (with_reducible apply Wp.assoc))); try simp only [outOf_exit, outOf_ret]); try (with_reducible apply Wp.cargs; case h => ((try simp (disch := omega) only [↓reduceIte, ask_true, ↓X0, X1, Nat.reduceEqDiff, Int.reduceEq, Nat.reduceAdd, Nat.reduceSub, f4]); with_reducible exact rfl)))
    exact Wp.pure ⟨by simp only; omega, f2, n + 3, by omega, by simp only; omega, .inr ⟨f4, f5⟩⟩
end Go.Proofs.Ytpiicpcofjhakaa.Ax
