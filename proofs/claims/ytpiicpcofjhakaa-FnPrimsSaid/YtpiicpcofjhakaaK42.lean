/- Pure laws of prims. -/
import Derived.Test.YtpiicpcofjhakaaK38
set_option linter.unusedVariables false
set_option linter.unusedSimpArgs false
set_option maxHeartbeats 4000000
namespace Go.Proofs.Ytpiicpcofjhakaa.Ax
open Go
theorem nodes_snoc {x : Nd} : ∀ {l : List Nd} {i : Nat}, NodesOk l i → NodeOk x ((i + l.length : Nat) : Int) → NodesOk (l ++ [x]) i
  | [], i, _, hx => ⟨by simpa using hx, trivial⟩
  | y :: l, i, h, hx => ⟨h.1, nodes_snoc h.2 (by rw [List.length_cons] at hx; rw [show i + 1 + l.length = i + (l.length + 1) by omega]; exact hx)⟩
theorem pool_snoc {l : List Nd} {x : Nd} (h : PoolOk l) (hx : NodeOk x (l.length : Int)) (hl : l.length + 1 ≤ 3000) : PoolOk (l ++ [x]) :=
  ⟨nodes_snoc h.1 (by rw [Nat.zero_add]; exact hx), by simp; omega⟩
theorem bNd_ok (b : Bool) (m : Int) : NodeOk (bNd b) m := by
  refine .inr (.inl ⟨rfl, ?_, rfl, rfl, rfl⟩)
  unfold bNd; cases b <;> simp
theorem nNd_ok {k : Int} (h : -1000000000 ≤ k ∧ k ≤ 1000000000) (m : Int) : NodeOk (nNd k) m := .inr (.inr (.inl ⟨rfl, h, rfl, rfl, rfl⟩))
theorem pNode_ok {l : List Nd} {k : Int} {xs : List Int} (hk : 1 ≤ k ∧ k ≤ 12) (hxs : (xs.length : Int) = primArgs k) (hr : ∀ x ∈ xs, 0 ≤ x ∧ x < (l.length : Int)) (hn : -1000000000 ≤ (pNode l k xs).n ∧ (pNode l k xs).n ≤ 1000000000) : NodeOk (pNode l k xs) (l.length : Int) := by
  rw [argsLen hk] at hxs
  unfold pNode at hn ⊢
  by_cases c6 : k = 6
  · rw [if_pos c6] at hn ⊢
    rw [if_pos (by omega)] at hxs
    have r0 := hr _ (gi_mem (l := xs) (i := 0) (by omega) (by omega))
    have r1 := hr _ (gi_mem (l := xs) (i := 1) (by omega) (by omega))
    exact .inr (.inr (.inr (.inr (.inl ⟨rfl, rfl, rfl, ⟨r0.1, by simp only; omega⟩, ⟨r1.1, by simp only; omega⟩⟩))))
  rw [if_neg c6] at hn ⊢
  by_cases c9 : k = 9
  · rw [if_pos c9]; exact bNd_ok _ _
  rw [if_neg c9] at hn ⊢
  by_cases c10 : k = 10
  · rw [if_pos c10]; exact bNd_ok _ _
  rw [if_neg c10] at hn ⊢
  by_cases c11 : k = 11
  · rw [if_pos c11]; exact bNd_ok _ _
  rw [if_neg c11] at hn ⊢
  by_cases c12 : k = 12
  · rw [if_pos c12]; exact bNd_ok _ _
  rw [if_neg c12] at hn ⊢
  unfold numNode at hn ⊢
  by_cases c1 : k = 1
  · rw [if_pos c1] at hn ⊢; exact nNd_ok hn _
  rw [if_neg c1] at hn ⊢
  by_cases c2 : k = 2
  · rw [if_pos c2] at hn ⊢; exact nNd_ok hn _
  rw [if_neg c2] at hn ⊢
  by_cases c3 : k = 3
  · rw [if_pos c3] at hn ⊢; exact nNd_ok hn _
  rw [if_neg c3] at hn ⊢
  by_cases c4 : k = 4
  · rw [if_pos c4]; exact bNd_ok _ _
  rw [if_neg c4]; exact bNd_ok _ _
/-- A fault leaves the pool, or nothing. -/
theorem primDo_bad {l : List Nd} {k : Int} {xs : List Int} (h : (primDo l k xs).2.2 ≠ 0) : (primDo l k xs).2.1 = -1 ∧ ((primDo l k xs).1 = l ∨ (primDo l k xs).1 = []) := by
  unfold primDo at h ⊢
  split at h
  · rename_i hp
    rw [if_pos hp]
    split at h
    · rename_i h12
      rw [if_pos h12]; exact ⟨rfl, .inl rfl⟩
    · rename_i h12
      rw [if_neg h12]
      split at h
      · rename_i q hq
        exact ⟨rfl, .inl rfl⟩
      · exact absurd rfl h
      · rename_i x hx
        split at h
        · rename_i h3
          simp only [if_pos h3]; exact ⟨trivial, .inl trivial⟩
        · exact absurd rfl h
  · rename_i hp
    rw [if_neg hp]; exact ⟨rfl, .inr rfl⟩
/-- No fault: what is there then. -/
theorem primDo_good {l : List Nd} {k : Int} {xs : List Int} (h : (primDo l k xs).2.2 = 0) : PdOk l k xs ∧ k ≤ 12 ∧ ((∃ i, primOut l k xs = .old i ∧ (primDo l k xs).1 = l ∧ (primDo l k xs).2.1 = i) ∨ (∃ x, primOut l k xs = .add x ∧ l.length + 1 ≤ 3000 ∧ (primDo l k xs).1 = l ++ [x] ∧ (primDo l k xs).2.1 = l.length)) := by
  unfold primDo at h ⊢
  split at h
  · rename_i hp
    rw [if_pos hp]
    split at h
    · simp at h
    · rename_i h12
      rw [if_neg h12]
      refine ⟨hp, by omega, ?_⟩
      split at h
      · rename_i q hq
        simp only at h
        have := primOut_bad hq
        omega
      · rename_i i hi
        exact .inl ⟨i, hi, rfl, rfl⟩
      · rename_i x hx
        split at h
        · simp at h
        · rename_i h3
          simp only [if_neg h3]; exact .inr ⟨x, hx, by omega, by first | rfl | trivial, by first | rfl | trivial⟩
  · simp at h
theorem primOut_old {l : List Nd} {k : Int} {xs : List Int} {i : Int} (h : primOut l k xs = .old i) : ¬ xs.any (pBad l k) = true ∧ ((k = 7 ∧ i = (gi l (gi xs 0)).a) ∨ (k = 8 ∧ i = (gi l (gi xs 0)).b)) := by
  unfold primOut at h
  split at h
  · cases h
  · rename_i hb
    split at h
    · rename_i h7; injection h with h; exact ⟨hb, .inl ⟨h7, h.symm⟩⟩
    · split at h
      · rename_i h8; injection h with h; exact ⟨hb, .inr ⟨h8, h.symm⟩⟩
      · split at h <;> cases h
theorem primOut_new {l : List Nd} {k : Int} {xs : List Int} {x : Nd} (h : primOut l k xs = .add x) : ¬ xs.any (pBad l k) = true ∧ k ≠ 7 ∧ k ≠ 8 ∧ x = pNode l k xs ∧ -1000000000 ≤ x.n ∧ x.n ≤ 1000000000 := by
  unfold primOut at h
  split at h
  · cases h
  · rename_i hb
    split at h
    · cases h
    · split at h
      · cases h
      · rename_i h7 h8
        split at h
        · rename_i hn; injection h with h; subst h; exact ⟨hb, h7, h8, rfl, hn⟩
        · cases h
theorem primDo_pool {l : List Nd} {k : Int} {xs : List Int} (h : (primDo l k xs).2.2 = 0) : PoolOk (primDo l k xs).1 ∧ 0 ≤ (primDo l k xs).2.1 ∧ (primDo l k xs).2.1 < ((primDo l k xs).1.length : Int) := by
  obtain ⟨⟨hp, hk, ha, hr⟩, h12, ⟨i, hO, e1, e2⟩ | ⟨x, hO, h3, e1, e2⟩⟩ := primDo_good h
  · rw [e1, e2]
    obtain ⟨hb, h78⟩ := primOut_old hO
    have h0 : (0 : Int) < xs.length := by rw [ha, argsLen ⟨hk.1, h12⟩]; split <;> omega
    have r0 := hr _ (gi_mem (l := xs) (i := 0) (by omega) h0)
    have hok := hp.at r0.1 r0.2
    have hb0 : pBad l k (gi xs 0) = false := by
      cases hh : pBad l k (gi xs 0) with
      | false => rfl
      | true => exact absurd (List.any_eq_true.2 ⟨_, gi_mem (by omega) h0, hh⟩) hb
    have h5 : (gi l (gi xs 0)).k = 5 := by
      simp [pBad] at hb0
      rcases h78 with h | h <;> exact hb0.2 (by omega)
    have hpr := hok.pair h5
    refine ⟨hp, ?_⟩
    rcases h78 with ⟨_, h⟩ | ⟨_, h⟩ <;> rw [h] <;> omega
  · rw [e1, e2]
    obtain ⟨hb, h7, h8, rfl, hn⟩ := primOut_new hO
    exact ⟨pool_snoc hp (pNode_ok ⟨hk.1, h12⟩ ha hr hn) h3, by omega, by simp; omega⟩
end Go.Proofs.Ytpiicpcofjhakaa.Ax
