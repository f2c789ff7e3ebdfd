/- . -/
import Derived.Test.YtjbfdaemgpmgjaaAy7
import Derived.Test.YtjbfdaemgpmgjaaK8
set_option linter.unusedVariables false
set_option linter.unusedSimpArgs false
namespace Go.Proofs.Ytjbfdaemgpmgjaa.Ax
open Go
def mAcc : Nat → Int → ByteArray → ByteArray
  | 0, _, acc => acc
  | f + 1, k, acc => if 0 < k then mAcc f (k.tdiv 10) (strOf [IntKind.u8.wrap (48 + k.tmod 10)] ++ acc) else acc
def mText (k : Int) : ByteArray := if k ≤ 0 then ⟨#[109, 48]⟩ else ⟨#[109]⟩ ++ mAcc k.toNat k ⟨#[]⟩
theorem tdiv10 {k : Int} (h : 0 < k) : 0 ≤ k.tdiv 10 ∧ k.tdiv 10 < k := by
  rw [Int.tdiv_eq_ediv_of_nonneg (by omega)]; omega
theorem tmod10 {k : Int} (h : 0 ≤ k) : 0 ≤ k.tmod 10 ∧ k.tmod 10 < 10 := by
  rw [Int.tmod_eq_emod_of_nonneg (by omega)]; omega
theorem l107 {m : Int} (hm : m ≤ 1000000000) : ∀ t H n, t 0 = .int .i64 m → t 3 = .string ⟨#[]⟩ → 0 ≤ m →
    Wp (Loop (S107L0 (Call Try.prog) Loop) t H n) (fun o => n ≤ o.n ∧ (∀ i, i < n → o.H i = H i) ∧ o.e = .exit 0 ∧ o.t 3 = .string (mAcc m.toNat m ⟨#[]⟩) ∧ (mAcc m.toNat m ⟨#[]⟩).size ≤ 1000000000) := by
  intro t H n e0 e3 hm0
  refine Loop_rule (fun d T H' n' => ∃ (k : Int) (acc : ByteArray), 0 ≤ k ∧ k ≤ m ∧ k.toNat ≤ d ∧ n ≤ n' ∧ (∀ i, i < n → H' i = H i) ∧ T 0 = .int .i64 k ∧ T 3 = .string acc ∧ acc.size + d = m.toNat ∧ mAcc d k acc = mAcc m.toNat m ⟨#[]⟩) _ ?_ m.toNat t H n ⟨m, ⟨#[]⟩, by omega, by omega, by omega, by omega, fun _ _ => rfl, e0, e3, by simp [ByteArray.size], rfl⟩
  rintro d T H' n' ⟨k, acc, hk0, hkm, hd, hn, s0, e0, e3, hsz, hres⟩
  unfold S107L0
  by_cases hk : 0 < k
  · have h1 := tdiv10 hk
    have h2 := tmod10 hk0
    obtain ⟨d, rfl⟩ : ∃ d', d = d' + 1 := ⟨d - 1, by omega⟩
    have w1 : IntKind.i64.wrap (48 + k.tmod 10) = 48 + k.tmod 10 := w64 (by omega)
    have w2 : IntKind.i64.wrap (k.tdiv 10) = k.tdiv 10 := w64 (by omega)
    have w3 := s_add (a := strOf [IntKind.u8.wrap (48 + k.tmod 10)]) (b := acc) (by rw [strOf1_size]; omega)
    (((repeat (first | (with_reducible apply Wp.step; case h => ((try simp (disch := omega) only [↓reduceIte, ask_true, ↓X0, X1, Nat.reduceEqDiff, Int.reduceEq, Nat.reduceAdd, Nat.reduceSub, X2, Hp_ne, Nat.reduceLeDiff, e0, e3, hk, w1, w2, bsl_b, conv_b, w3]); with_reducible exact rfl)) | (apply Wp.andS) | (apply Wp.orS) | ((with_reducible first | apply Wp.gs | apply Wp.cs | apply Wp.cselX | apply Wp.askT | apply Wp.iteKT | apply Wp.ikb); case h => ((try simp (disch := omega) only [↓reduceIte, ask_true, ↓X0, X1, Nat.reduceEqDiff, Int.reduceEq, Nat.reduceAdd, Nat.reduceSub, X2, Hp_ne, Nat.reduceLeDiff, e0, e3, hk, w1, w2, bsl_b, conv_b, w3]); (with_reducible first | done | exact bT | exact bF))) | (with_reducible apply Wp.gu) | (simp only [↓X3]) | (with_reducible apply Wp.assoc))); try simp only [outOf_exit, outOf_ret]); try (with_reducible apply Wp.cargs; case h => ((try simp (disch := omega) only [↓reduceIte, ask_true, ↓X0, X1, Nat.reduceEqDiff, Int.reduceEq, Nat.reduceAdd, Nat.reduceSub, X2, Hp_ne, Nat.reduceLeDiff, e0, e3, hk, w1, w2, bsl_b, conv_b, w3]); with_reducible exact rfl)))
    rw [mAcc, if_pos hk] at hres
    exact Wp.pure (Nxt.go d (by omega) ⟨k.tdiv 10, _, by omega, by omega, by omega, by omega, (by intros; first | with_reducible rfl | simp (disch := omega) only [Hp_ne, Hp_same, s0]), by simp [put_at], by simp [put_at], by rw [ba_app, strOf1_size]; omega, hres⟩)
  · (((repeat (first | (with_reducible apply Wp.step; case h => ((try simp (disch := omega) only [↓reduceIte, ask_true, ↓X0, X1, Nat.reduceEqDiff, Int.reduceEq, Nat.reduceAdd, Nat.reduceSub, e0, e3, hk]); with_reducible exact rfl)) | (apply Wp.andS) | (apply Wp.orS) | ((with_reducible first | apply Wp.gs | apply Wp.cs | apply Wp.cselX | apply Wp.askT | apply Wp.iteKT | apply Wp.ikb); case h => ((try simp (disch := omega) only [↓reduceIte, ask_true, ↓X0, X1, Nat.reduceEqDiff, Int.reduceEq, Nat.reduceAdd, Nat.reduceSub, e0, e3, hk]); (with_reducible first | done | exact bT | exact bF))) | (with_reducible apply Wp.gu) | (simp only [↓X3]) | (with_reducible apply Wp.assoc))); try simp only [outOf_exit, outOf_ret]); try (with_reducible apply Wp.cargs; case h => ((try simp (disch := omega) only [↓reduceIte, ask_true, ↓X0, X1, Nat.reduceEqDiff, Int.reduceEq, Nat.reduceAdd, Nat.reduceSub, e0, e3, hk]); with_reducible exact rfl)))
    have hk' : k = 0 := by omega
    have hr : mAcc d k acc = acc := by cases d <;> simp [mAcc, hk]
    rw [hr] at hres
    exact Wp.pure (Nxt.exit ⟨by simp only; omega, s0, rfl, by simp [put_at, e3, hres], by rw [← hres]; omega⟩)
theorem k107 (k : Int) (hk : k ≤ 1000000000) (H : Hp) (n : Nat) : Rt Try.prog 107 [.int .i64 k] H n (.string (mText k)) := by
  apply Rt.mk
  rw [c107]; unfold S107 mText
  by_cases h : k ≤ 0
  · (((repeat (first | (with_reducible apply Wp.step; case h => ((try simp (disch := omega) only [↓reduceIte, ask_true, ↓X0, X1, Nat.reduceEqDiff, Int.reduceEq, Nat.reduceAdd, Nat.reduceSub, h]); with_reducible exact rfl)) | (apply Wp.andS) | (apply Wp.orS) | ((with_reducible first | apply Wp.gs | apply Wp.cs | apply Wp.cselX | apply Wp.askT | apply Wp.iteKT | apply Wp.ikb); case h => ((try simp (disch := omega) only [↓reduceIte, ask_true, ↓X0, X1, Nat.reduceEqDiff, Int.reduceEq, Nat.reduceAdd, Nat.reduceSub, h]); (with_reducible first | done | exact bT | exact bF))) | (with_reducible apply Wp.gu) | (simp only [↓X3]) | (with_reducible apply Wp.assoc))); try simp only [outOf_exit, outOf_ret]); try (with_reducible apply Wp.cargs; case h => ((try simp (disch := omega) only [↓reduceIte, ask_true, ↓X0, X1, Nat.reduceEqDiff, Int.reduceEq, Nat.reduceAdd, Nat.reduceSub, h]); with_reducible exact rfl)))
    exact Wp.pure ⟨by simp only; omega, fun _ _ => rfl, by simp only [h, if_true]⟩
  · (((repeat (first | (with_reducible apply Wp.step; case h => ((try simp (disch := omega) only [↓reduceIte, ask_true, ↓X0, X1, Nat.reduceEqDiff, Int.reduceEq, Nat.reduceAdd, Nat.reduceSub, h]); with_reducible exact rfl)) | (apply Wp.andS) | (apply Wp.orS) | ((with_reducible first | apply Wp.gs | apply Wp.cs | apply Wp.cselX | apply Wp.askT | apply Wp.iteKT | apply Wp.ikb); case h => ((try simp (disch := omega) only [↓reduceIte, ask_true, ↓X0, X1, Nat.reduceEqDiff, Int.reduceEq, Nat.reduceAdd, Nat.reduceSub, h]); (with_reducible first | done | exact bT | exact bF))) | (with_reducible apply Wp.gu) | (simp only [↓X3]) | (with_reducible apply Wp.assoc))); try simp only [outOf_exit, outOf_ret]); try (with_reducible apply Wp.cargs; case h => ((try simp (disch := omega) only [↓reduceIte, ask_true, ↓X0, X1, Nat.reduceEqDiff, Int.reduceEq, Nat.reduceAdd, Nat.reduceSub, h]); with_reducible exact rfl)))
    refine Wp.bind (l107 hk _ _ _ (by simp [put_at, argsT_at]) (by simp [put_at]) (by omega)) ?_
    rintro ⟨oe, ot, oH, on⟩ ⟨f1, f2, rfl, f4, f5⟩
    simp only at f1 f2 f4 f5
    have w3 := s_add (a := ⟨#[109]⟩) (b := mAcc k.toNat k ⟨#[]⟩) (by have : (⟨#[109]⟩ : ByteArray).size = 1 := rfl; omega)
    (((repeat (first | (with_reducible apply Wp.step; case h => ((try simp (disch := omega) only [↓reduceIte, ask_true, ↓X0, X1, Nat.reduceEqDiff, Int.reduceEq, Nat.reduceAdd, Nat.reduceSub, f4, w3]); with_reducible exact rfl)) | (apply Wp.andS) | (apply Wp.orS) | ((with_reducible first | apply Wp.gs | apply Wp.cs | apply Wp.cselX | apply Wp.askT | apply Wp.iteKT | apply Wp.ikb); case h => ((try simp (disch := omega) only [↓reduceIte, ask_true, ↓X0, X1, Nat.reduceEqDiff, Int.reduceEq, Nat.reduceAdd, Nat.reduceSub, f4, w3]); (with_reducible first | done | exact bT | exact bF))) | (with_reducible apply Wp.gu) | (simp only [↓X3]) | (with_reducible apply Wp.assoc))); try simp only [outOf_exit, outOf_ret]); try (with_reducible apply Wp.cargs; case h => ((try simp (disch := omega) only [↓reduceIte, ask_true, ↓X0, X1, Nat.reduceEqDiff, Int.reduceEq, Nat.reduceAdd, Nat.reduceSub, f4, w3]); with_reducible exact rfl)))
    exact Wp.pure ⟨by simp only; omega, (by intros; first | with_reducible rfl | simp (disch := omega) only [Hp_ne, Hp_same, f2]), by simp only [h, if_false]⟩
theorem set_next {α : Type} {l : List α} {j d : Nat} {z : α} (h : j < l.length) : (l.take j ++ List.replicate (d + 1) z).set j l[j] = l.take (j + 1) ++ List.replicate d z := by
  rw [take_next h, List.replicate_succ, List.set_append_right _ _ (by rw [List.length_take]; omega), List.length_take, Nat.min_eq_left (by omega), Nat.sub_self, List.set_cons_zero, List.append_assoc]
  rfl
end Go.Proofs.Ytjbfdaemgpmgjaa.Ax
