/- Pure laws: what is alike, or moved, is as great and written alike. -/
import Derived.Test.YtdnokdgkccnbnaaK54
set_option linter.unusedVariables false
set_option linter.unusedSimpArgs false
set_option maxHeartbeats 4000000
namespace Go.Proofs.Ytdnokdgkccnbnaa.Ax
open Go
/-! ### Moved -/
theorem moved_text {told : List Bool} {l R : List Nd} {M : List Int} (hl : PoolOk l) (hR : PoolOk R) (hc : ∀ j : Int, 0 ≤ j → j < l.length → gi told j = true → HasAll told (gi l j)) (hm : Moved told l R M l.length) : ∀ (k : Nat) (i : Int), i.toNat = k → 0 ≤ i → i < l.length → gi told i = true → inT R (gi M i) = inT l i ∧ gi (sizes R) (gi M i) = gi (sizes l) i := by
  intro k
  induction k using Nat.strongRecOn with
  | ind k ih =>
    intro i hik h0 h1 ht
    obtain ⟨hr, he⟩ := hm i h0 h1 ht
    have hk := clKey_k M (gi l i)
    have hall := hc i h0 h1 ht
    have hok := hl.at h0 h1
    have hs1 := size_at2 hR hr
    have hs2 := size_at2 hl ⟨h0, h1⟩
    by_cases c5 : (gi l i).k = 5
    · have hp := hok.pair c5
      obtain ⟨t1, t2⟩ := hall.1 c5
      have ia := ih _ (by omega) (gi l i).a rfl hp.1.1 (by omega) t1
      have ib := ih _ (by omega) (gi l i).b rfl hp.2.1 (by omega) t2
      have ma := hm _ hp.1.1 (by omega) t1
      have mb := hm _ hp.2.1 (by omega) t2
      have e : clKey M (gi l i) = ⟨(gi l i).k, (gi l i).n, (gi l i).s, gi M (gi l i).a, gi M (gi l i).b⟩ := by unfold clKey; rw [if_pos c5]
      have ka := (clKey_k M (gi l (gi l i).a)).1
      have kb := (clKey_k M (gi l (gi l i).b)).1
      constructor
      · rw [inT_pair hR hr.1 hr.2 (by rw [he, hk.1]; exact c5), inT_pair hl h0 h1 c5, he, e]
        simp only [txT]
        rw [ia.1, ib.1, ma.2, mb.2, brT_k ka, tlT_k kb]
      · rw [hs1, hs2, he, e]
        unfold szStep
        simp only [c5, if_true, ia.2, ib.2]
    · refine ⟨?_, ?_⟩
      · rw [inT_leaf (by rw [he, hk.1]; exact c5), inT_leaf c5, he, leafT_clKey]
      · rw [hs1, hs2, he]
        unfold szStep
        rw [hk.1, if_neg c5, if_neg c5]
        by_cases c6 : (gi l i).k = 6 ∨ (gi l i).k = 7
        · have hp := hok.one c6
          have ia := ih _ (by omega) (gi l i).a rfl hp.1 (by omega) (hall.2 c6)
          have e : (clKey M (gi l i)).a = gi M (gi l i).a := by unfold clKey; rw [if_neg c5, if_pos c6]
          rw [if_pos c6, if_pos c6, e, ia.2]
        · rw [if_neg c6, if_neg c6]
theorem moved_txT {told : List Bool} {l R : List Nd} {M : List Int} (hl : PoolOk l) (hR : PoolOk R) (hc : ∀ j : Int, 0 ≤ j → j < l.length → gi told j = true → HasAll told (gi l j)) (hm : Moved told l R M l.length) {i : Int} (h0 : 0 ≤ i) (h1 : i < l.length) (ht : gi told i = true) : wText R (gi M i) = wText l i ∧ sizeOf R (gi M i) = sizeOf l i := by
  obtain ⟨hr, he⟩ := hm i h0 h1 ht
  obtain ⟨e1, e2⟩ := moved_text hl hR hc hm i.toNat i rfl h0 h1 ht
  have hk := clKey_k M (gi l i)
  have e3 : txT R (gi M i) = txT l i := by unfold txT; rw [e1, he, brT_k hk.1]
  constructor
  · rw [wText_in ⟨hR, hr⟩, wText_in ⟨hl, h0, h1⟩, e3]
  · unfold sizeOf
    rw [if_pos ⟨hR, hr⟩, if_pos ⟨hl, h0, h1⟩, e2]
/-- What Copy answers: what was there stays, and the copy is as it was. -/
theorem copyAns_law {p q : List Nd} {v : Int} (h : 0 ≤ (copyAns p q v).2) : PoolOk (copyAns p q v).1 ∧ (∃ r, (copyAns p q v).1 = p ++ r) ∧ wText (copyAns p q v).1 (copyAns p q v).2 = wText q v ∧ sizeOf (copyAns p q v).1 (copyAns p q v).2 = sizeOf q v := by
  unfold copyAns at h ⊢
  by_cases hp : PoolOk p
  · by_cases hq : PoolOk q ∧ 0 ≤ v ∧ v < (q.length : Int)
    · by_cases hl : (cpRun p q v).1.length ≤ 3000
      · rw [if_pos hp, if_pos hq, if_pos hl]
        obtain ⟨a1, a2, a3⟩ := reach_moved (p := p) hq.1 hp.1 [v] (-1)
        have hR : PoolOk (cpRun p q v).1 := ⟨a1, hl⟩
        have ht := reachM_in hq.1 (one_root hq.2) (List.mem_singleton.2 rfl)
        have := moved_txT hq.1 hR (fun j h0 h1 h => reachM_closed hq.1 [v] h0 h1 h) a3 hq.2.1 hq.2.2 ht
        exact ⟨hR, a2, this⟩
      · rw [if_pos hp, if_pos hq, if_neg hl] at h; simp at h
    · rw [if_pos hp, if_neg hq] at h; simp at h
  · rw [if_neg hp] at h; simp at h
theorem copyAns_none {p q : List Nd} {v : Int} (h : ¬ 0 ≤ (copyAns p q v).2) : (copyAns p q v).1.length = p.length ∨ (copyAns p q v).1.length = 0 := by
  unfold copyAns at h ⊢
  by_cases hp : PoolOk p
  · by_cases hq : PoolOk q ∧ 0 ≤ v ∧ v < (q.length : Int)
    · by_cases hl : (cpRun p q v).1.length ≤ 3000
      · rw [if_pos hp, if_pos hq, if_pos hl] at h
        obtain ⟨a1, a2, a3⟩ := reach_moved (p := p) hq.1 hp.1 [v] (-1)
        have ht := reachM_in hq.1 (one_root hq.2) (List.mem_singleton.2 rfl)
        have := (a3 v hq.2.1 hq.2.2 ht).1.1
        exact absurd this h
      · rw [if_pos hp, if_pos hq, if_neg hl]; exact .inl rfl
    · rw [if_pos hp, if_neg hq]; exact .inl rfl
  · rw [if_neg hp]; exact .inr rfl
end Go.Proofs.Ytdnokdgkccnbnaa.Ax
