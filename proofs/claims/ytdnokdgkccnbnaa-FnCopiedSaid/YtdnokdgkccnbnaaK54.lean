/- Pure laws: what is moved stays right, and is as it was. -/
import Derived.Test.YtdnokdgkccnbnaaK21
import Derived.Test.YtdnokdgkccnbnaaK58
set_option linter.unusedVariables false
set_option linter.unusedSimpArgs false
set_option maxHeartbeats 4000000
namespace Go.Proofs.Ytdnokdgkccnbnaa.Ax
open Go
theorem clKey_ok {out : List Int} {x : Nd} {i m : Int} (h : NodeOk x i) (h5 : x.k = 5 → (0 ≤ gi out x.a ∧ gi out x.a < m) ∧ (0 ≤ gi out x.b ∧ gi out x.b < m)) (h6 : x.k = 6 ∨ x.k = 7 → 0 ≤ gi out x.a ∧ gi out x.a < m) : NodeOk (clKey out x) m := by
  obtain ⟨xk, xn, xs, xa, xb⟩ := x
  rcases h with h | h | h | h | h | h | h | h | h <;> obtain ⟨e1, e2, e3, e4, e5⟩ := h <;> simp only at e1 e2 e3 e4 e5 h5 h6 <;> subst e1
  · exact .inl ⟨rfl, e2, e3, e4, e5⟩
  · exact .inr (.inl ⟨rfl, e2, e3, e4, e5⟩)
  · exact .inr (.inr (.inl ⟨rfl, e2, e3, e4, e5⟩))
  · exact .inr (.inr (.inr (.inl ⟨rfl, e2, e3, e4, e5⟩)))
  · have := h5 rfl
    exact .inr (.inr (.inr (.inr (.inl ⟨rfl, e2, e3, by show 0 ≤ gi out xa ∧ gi out xa ≤ m - 1; omega, by show 0 ≤ gi out xb ∧ gi out xb ≤ m - 1; omega⟩))))
  · have := h6 (.inl rfl)
    exact .inr (.inr (.inr (.inr (.inr (.inl ⟨rfl, e2, e3, by show 0 ≤ gi out xa ∧ gi out xa ≤ m - 1; omega, e5⟩)))))
  · have := h6 (.inr rfl)
    exact .inr (.inr (.inr (.inr (.inr (.inr (.inl ⟨rfl, e2, e3, by show 0 ≤ gi out xa ∧ gi out xa ≤ m - 1; omega, e5⟩))))))
  · exact .inr (.inr (.inr (.inr (.inr (.inr (.inr (.inl ⟨rfl, e2, e3, e4, e5⟩)))))))
  · exact .inr (.inr (.inr (.inr (.inr (.inr (.inr (.inr ⟨rfl, e2, e3, e4, e5⟩)))))))
/-- What is told is in the other pool, with its parts' new numbers for its parts. -/
def Moved (told : List Bool) (l R : List Nd) (M : List Int) (j : Int) : Prop := ∀ i : Int, 0 ≤ i → i < j → gi told i = true → (0 ≤ gi M i ∧ gi M i < (R.length : Int)) ∧ gi R (gi M i) = clKey M (gi l i)
theorem inRun_moved {told : List Bool} {z : Int} {p l : List Nd} (hp : PoolOk l) (hpp : NodesOk p 0) (hc : ∀ j : Int, 0 ≤ j → j < l.length → gi told j = true → HasAll told (gi l j)) : ∀ j : Nat, j ≤ l.length → NodesOk (inRun told z p (l.take j)).1 0 ∧ (∃ r, (inRun told z p (l.take j)).1 = p ++ r) ∧ Moved told l (inRun told z p (l.take j)).1 (inRun told z p (l.take j)).2 j
  | 0, _ => ⟨by simpa [inRun] using hpp, ⟨[], by simp [inRun]⟩, fun i h0 h1 => by omega⟩
  | j + 1, hj => by
    obtain ⟨e1, ⟨r, e2⟩, e3⟩ := inRun_moved hp hpp hc (z := z) j (by omega)
    have l1 : (inRun told z p (l.take j)).2.length = j := by rw [inRun_len, List.length_take]; omega
    rw [inRun_take (by omega)]
    generalize inRun told z p (l.take j) = A at *
    unfold inStep
    rw [l1]
    have hok := hp.at (v := (j : Int)) (by omega) (by omega)
    have hkeys : ∀ (m : List Int) (i : Int), 0 ≤ i → i ≤ j → clKey (A.2 ++ m) (gi l i) = clKey A.2 (gi l i) := fun m i h0 h1 => clKey_app (hp.at (v := i) h0 (by omega)) (by omega)
    by_cases ht : gi told (j : Int) = true
    · rw [if_pos ht]
      have hk := hc (j : Int) (by omega) (by omega) ht
      refine ⟨?_, ⟨r ++ [clKey A.2 (gi l (j : Int))], by simp only; rw [e2, List.append_assoc]⟩, fun i h0 h1 hti => ?_⟩
      · simp only
        rw [NodesOk_app]
        refine ⟨e1, clKey_ok hok (fun c5 => ?_) (fun c6 => ?_), trivial⟩
        · have hr := hok.pair c5
          have a1 := (e3 _ hr.1.1 hr.1.2 (hk.1 c5).1).1
          have a2 := (e3 _ hr.2.1 hr.2.2 (hk.1 c5).2).1
          omega
        · have hr := hok.one c6
          have a1 := (e3 _ hr.1 hr.2 (hk.2 c6)).1
          omega
      · simp only
        rw [hkeys _ i h0 (by omega)]
        by_cases hij : i = j
        · subst hij
          have q1 : gi (A.2 ++ [(A.1.length : Int)]) (j : Int) = A.1.length := by rw [← l1]; exact gi_last _ _
          rw [q1, gi_last, List.length_append]
          exact ⟨⟨by omega, by simp; omega⟩, rfl⟩
        · have h3 := e3 i h0 (by omega) hti
          rw [gi_app (by omega) h0, gi_app h3.1.2 h3.1.1, List.length_append]
          exact ⟨⟨h3.1.1, by omega⟩, h3.2⟩
    · rw [if_neg ht]
      refine ⟨e1, ⟨r, e2⟩, fun i h0 h1 hti => ?_⟩
      simp only
      by_cases hij : i = j
      · subst hij; exact absurd hti ht
      · rw [hkeys _ i h0 (by omega), gi_app (by omega) h0]
        exact e3 i h0 (by omega) hti
theorem reach_moved {p l : List Nd} (hp : PoolOk l) (hpp : NodesOk p 0) (roots : List Int) (z : Int) : NodesOk (inRun (reachM l roots) z p l).1 0 ∧ (∃ r, (inRun (reachM l roots) z p l).1 = p ++ r) ∧ Moved (reachM l roots) l (inRun (reachM l roots) z p l).1 (inRun (reachM l roots) z p l).2 l.length := by
  have := inRun_moved (z := z) hp hpp (fun j h0 h1 h => reachM_closed hp roots h0 h1 h) l.length (Nat.le_refl _)
  rw [List.take_length] at this
  exact this
theorem keepM_ok {l : List Nd} (hp : PoolOk l) (roots : List Int) : PoolOk (keepM l roots).1 := by
  have h := (reach_moved (p := []) hp trivial roots (-1)).1
  have h2 := inRun_le (reachM l roots) (-1) [] l
  have h3 := hp.2
  exact ⟨h, by simp only [List.length_nil] at h2; show (inRun (reachM l roots) (-1) [] l).1.length ≤ 3000; omega⟩
end Go.Proofs.Ytdnokdgkccnbnaa.Ax
