/- Contracts: how great a value is; what a list has. -/
import Derived.Test.YtdnokdgkccnbnaaK9
set_option linter.unusedVariables false
set_option linter.unusedSimpArgs false
namespace Go.Proofs.Ytdnokdgkccnbnaa.Ax
open Go
theorem NodesOk_at : ∀ {l : List Nd} {i : Nat}, NodesOk l i → ∀ {j : Nat}, j < l.length → NodeOk (gi l (j : Int)) ((i + j : Nat) : Int)
  | x :: l, i, h, 0, _ => h.1
  | x :: l, i, h, j + 1, hj => by
    have := NodesOk_at h.2 (j := j) (by simpa using hj)
    rw [show i + 1 + j = i + (j + 1) by omega] at this
    exact this
theorem PoolOk.at {l : List Nd} (h : PoolOk l) {v : Int} (h0 : 0 ≤ v) (h1 : v < l.length) : NodeOk (gi l v) v := by
  obtain ⟨j, rfl⟩ := Int.eq_ofNat_of_zero_le h0
  have := NodesOk_at h.1 (j := j) (by omega)
  rw [Nat.zero_add] at this
  exact this
theorem NodeOk.pair {x : Nd} {m : Int} (h : NodeOk x m) (hk : x.k = 5) : (0 ≤ x.a ∧ x.a < m) ∧ (0 ≤ x.b ∧ x.b < m) := by
  rcases h with h | h | h | h | h | h | h | h | h <;> (obtain ⟨h1, h2⟩ := h; rw [hk] at h1; try (exact absurd h1 (by decide)))
  omega
theorem NodeOk.one {x : Nd} {m : Int} (h : NodeOk x m) (hk : x.k = 6 ∨ x.k = 7) : 0 ≤ x.a ∧ x.a < m := by
  rcases h with h | h | h | h | h | h | h | h | h <;> obtain ⟨h1, h2⟩ := h <;> omega
theorem k25 {n : Nat} {H : Hp} {v : Value} {l : List Nd} (hv : Li eNode n H v l) (hl : l.length ≤ 1048576) (i : Int) : Rt Try.prog 25 [.agg ⟨[v]⟩, .int .i64 i] H n (.bool (decide (0 ≤ i ∧ i < l.length))) := by
  apply Rt.of
  rw [c25]; unfold S25
  have hw : IntKind.i64.wrap ((l.length : Int) - 1) = l.length - 1 := w64 (by omega)
  have he : (0 ≤ i ∧ i ≤ (l.length : Int) - 1) = (0 ≤ i ∧ i < (l.length : Int)) := propext (by omega)
  (((repeat (first | (with_reducible apply Wp.step; case h => ((try simp (disch := omega) only [↓reduceIte, ask_true, ↓X0, X1, Nat.reduceEqDiff, Int.reduceEq, Nat.reduceAdd, Nat.reduceSub, X2, Hp_ne, Nat.reduceLeDiff, hv.len, hw, k51, he]); with_reducible exact rfl)) | (apply Wp.andS) | (apply Wp.orS) | ((with_reducible first | apply Wp.gs | apply Wp.cs | apply Wp.cselX | apply Wp.askT | apply Wp.iteKT | apply Wp.ikb | apply Wp.askb); case h => ((try simp (disch := omega) only [↓reduceIte, ask_true, ↓X0, X1, Nat.reduceEqDiff, Int.reduceEq, Nat.reduceAdd, Nat.reduceSub, X2, Hp_ne, Nat.reduceLeDiff, hv.len, hw, k51, he]); (with_reducible first | done | exact bT | exact bF))) | (with_reducible apply Wp.gu) | (simp only [↓X3]) | (with_reducible apply Wp.assoc))); try simp only [outOf_exit, outOf_ret]); try (with_reducible apply Wp.cargs; case h => ((try simp (disch := omega) only [↓reduceIte, ask_true, ↓X0, X1, Nat.reduceEqDiff, Int.reduceEq, Nat.reduceAdd, Nat.reduceSub, X2, Hp_ne, Nat.reduceLeDiff, hv.len, hw, k51, he]); with_reducible exact rfl)))
  exact Wp.pure ⟨by simp only; omega, by (repeat (first | exact Same.refl _ _ | refine Same.set ?_ (by omega) _)), rfl⟩
theorem k28 {n : Nat} {H : Hp} {v : Value} {l : List Nd} (hv : Li eNode n H v l) (hl : l.length ≤ 1048576) (i : Int) : Rt Try.prog 28 [.agg ⟨[v]⟩, .int .i64 i] H n (.bool (decide (0 ≤ i ∧ i < l.length))) := by
  apply Rt.of
  rw [c28]; unfold S28
  have hw : IntKind.i64.wrap ((l.length : Int) - 1) = l.length - 1 := w64 (by omega)
  have he : (0 ≤ i ∧ i ≤ (l.length : Int) - 1) = (0 ≤ i ∧ i < (l.length : Int)) := propext (by omega)
  (((repeat (first | (with_reducible apply Wp.step; case h => ((try simp (disch := omega) only [↓reduceIte, ask_true, ↓X0, X1, Nat.reduceEqDiff, Int.reduceEq, Nat.reduceAdd, Nat.reduceSub, X2, Hp_ne, Nat.reduceLeDiff, hv.len, hw, k54, he]); with_reducible exact rfl)) | (apply Wp.andS) | (apply Wp.orS) | ((with_reducible first | apply Wp.gs | apply Wp.cs | apply Wp.cselX | apply Wp.askT | apply Wp.iteKT | apply Wp.ikb | apply Wp.askb); case h => ((try simp (disch := omega) only [↓reduceIte, ask_true, ↓X0, X1, Nat.reduceEqDiff, Int.reduceEq, Nat.reduceAdd, Nat.reduceSub, X2, Hp_ne, Nat.reduceLeDiff, hv.len, hw, k54, he]); (with_reducible first | done | exact bT | exact bF))) | (with_reducible apply Wp.gu) | (simp only [↓X3]) | (with_reducible apply Wp.assoc))); try simp only [outOf_exit, outOf_ret]); try (with_reducible apply Wp.cargs; case h => ((try simp (disch := omega) only [↓reduceIte, ask_true, ↓X0, X1, Nat.reduceEqDiff, Int.reduceEq, Nat.reduceAdd, Nat.reduceSub, X2, Hp_ne, Nat.reduceLeDiff, hv.len, hw, k54, he]); with_reducible exact rfl)))
  exact Wp.pure ⟨by simp only; omega, by (repeat (first | exact Same.refl _ _ | refine Same.set ?_ (by omega) _)), rfl⟩
def szStep (acc : List Int) (x : Nd) : Int :=
  let s := if x.k = 5 then 1 + gi acc x.a + gi acc x.b else if x.k = 6 ∨ x.k = 7 then 1 + gi acc x.a else 1
  if s < 1000000000 then s else 1000000000
def sizes (l : List Nd) : List Int := l.foldl (fun acc x => acc ++ [szStep acc x]) []
theorem sizes_snoc (l : List Nd) (x : Nd) : sizes (l ++ [x]) = sizes l ++ [szStep (sizes l) x] := by simp [sizes, List.foldl_append]
theorem sizes_aux (m : List Nd) : ∀ acc : List Int, ∃ r, m.foldl (fun acc x => acc ++ [szStep acc x]) acc = acc ++ r ∧ r.length = m.length := by
  induction m with
  | nil => intro acc; exact ⟨[], by simp, rfl⟩
  | cons x m ih =>
    intro acc
    obtain ⟨r, h1, h2⟩ := ih (acc ++ [szStep acc x])
    exact ⟨szStep acc x :: r, by rw [List.foldl_cons, h1]; simp, by simp [h2]⟩
theorem sizes_len (l : List Nd) : (sizes l).length = l.length := by
  obtain ⟨r, h1, h2⟩ := sizes_aux l []
  unfold sizes; rw [h1]; simpa using h2
theorem sizes_app (l m : List Nd) : ∃ r, sizes (l ++ m) = sizes l ++ r := by
  obtain ⟨r, h1, h2⟩ := sizes_aux m (sizes l)
  exact ⟨r, by unfold sizes at *; rw [List.foldl_append]; exact h1⟩
theorem sizes_take {l : List Nd} {j : Nat} (hj : j < l.length) : sizes (l.take (j + 1)) = sizes (l.take j) ++ [szStep (sizes (l.take j)) (gi l (j : Int))] := by
  rw [take_next hj, sizes_snoc, gi_nat hj]
theorem sizes_gi {l : List Nd} {v : Int} {j : Nat} (h0 : 0 ≤ v) (h1 : v < j) (hj : j ≤ l.length) : gi (sizes (l.take j)) v = gi (sizes l) v := by
  obtain ⟨r, hr⟩ := sizes_app (l.take j) (l.drop j)
  rw [List.take_append_drop] at hr
  rw [hr, gi_app (by rw [sizes_len, List.length_take]; omega) h0]
theorem minV_i (a b : Int) : minV (.int .i64 a) (.int .i64 b) = some (.int .i64 (if b < a then b else a)) := rfl
theorem szStep_rng (acc : List Int) (x : Nd) (ha : ∀ y ∈ acc, 1 ≤ y ∧ y ≤ 1000000000) (h5 : x.k = 5 → (0 ≤ x.a ∧ x.a < acc.length) ∧ (0 ≤ x.b ∧ x.b < acc.length)) (h6 : x.k = 6 ∨ x.k = 7 → 0 ≤ x.a ∧ x.a < acc.length) : 1 ≤ szStep acc x ∧ szStep acc x ≤ 1000000000 := by
  unfold szStep
  simp only
  by_cases c5 : x.k = 5
  · have h := h5 c5
    have g1 := ha _ (gi_mem h.1.1 h.1.2)
    have g2 := ha _ (gi_mem h.2.1 h.2.2)
    rw [if_pos c5]
    split <;> omega
  · rw [if_neg c5]
    by_cases c6 : x.k = 6 ∨ x.k = 7
    · have h := h6 c6
      have g1 := ha _ (gi_mem h.1 h.2)
      rw [if_pos c6]
      split <;> omega
    · rw [if_neg c6]
      split <;> omega
/-- How great a value is. -/
def sizeOf (l : List Nd) (v : Int) : Int := if PoolOk l ∧ 0 ≤ v ∧ v < l.length then gi (sizes l) v else 0
end Go.Proofs.Ytdnokdgkccnbnaa.Ax
