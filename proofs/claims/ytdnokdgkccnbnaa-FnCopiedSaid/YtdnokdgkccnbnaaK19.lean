/- Contracts: nodes that are moved into another pool. -/
import Derived.Test.YtdnokdgkccnbnaaK18
import Derived.Test.YtdnokdgkccnbnaaK14
set_option linter.unusedVariables false
set_option linter.unusedSimpArgs false
set_option maxHeartbeats 4000000
namespace Go.Proofs.Ytdnokdgkccnbnaa.Ax
open Go
/-! ### What is reached is closed -/
theorem gi_set {α : Type} [Inhabited α] {l : List α} {i j : Int} (hi0 : 0 ≤ i) (hj0 : 0 ≤ j) (hj1 : j < l.length) (x : α) : gi (l.set j.toNat x) i = if i = j then x else gi l i := by
  unfold gi
  rw [List.getD_eq_getElem?_getD, List.getD_eq_getElem?_getD, List.getElem?_set]
  by_cases h : i = j
  · subst h
    rw [if_pos rfl, if_pos rfl, if_pos (by omega)]; rfl
  · rw [if_neg (by omega), if_neg h]
/-- All that a node has is told. -/
def HasAll (out : List Bool) (x : Nd) : Prop := (x.k = 5 → gi out x.a = true ∧ gi out x.b = true) ∧ (x.k = 6 ∨ x.k = 7 → gi out x.a = true)
theorem HasAll.mono {out out' : List Bool} {x : Nd} (h : HasAll out x) (hm : ∀ i, gi out i = true → gi out' i = true) : HasAll out' x := ⟨fun h5 => ⟨hm _ (h.1 h5).1, hm _ (h.1 h5).2⟩, fun h6 => hm _ (h.2 h6)⟩
theorem gi_neg {α : Type} [Inhabited α] (l : List α) {i : Int} (h : i < 0) : gi l i = gi l 0 := by unfold gi; rw [show i.toNat = 0 by omega]; rfl
theorem set_mono {out : List Bool} {a : Int} (h0 : 0 ≤ a) (h1 : a < out.length) : ∀ i, gi out i = true → gi (out.set a.toNat true) i = true := by
  intro i hi
  by_cases hn : i < 0
  · rw [gi_neg _ hn] at hi ⊢
    rw [gi_set (by omega) h0 h1]
    split
    · rfl
    · exact hi
  · rw [gi_set (by omega) h0 h1]
    split
    · rfl
    · exact hi
theorem rMark_ok {out : List Bool} {x : Nd} {i : Nat} (hx : NodeOk x i) (hi : i ≤ out.length) : HasAll (rMark out x) x ∧ (∀ j, gi out j = true → gi (rMark out x) j = true) ∧ (∀ j : Int, (i : Int) ≤ j → gi (rMark out x) j = gi out j) := by
  by_cases c5 : x.k = 5
  · have hp := hx.pair c5
    have e : rMark out x = (out.set x.a.toNat true).set x.b.toNat true := by unfold rMark; rw [if_pos c5]
    have l1 : x.a < (out.length : Int) := by omega
    have l2 : x.b < ((out.set x.a.toNat true).length : Int) := by rw [List.length_set]; omega
    rw [e]
    refine ⟨⟨fun _ => ⟨?_, ?_⟩, fun h => by omega⟩, fun j hj => set_mono hp.2.1 l2 _ (set_mono hp.1.1 l1 _ hj), fun j hj => ?_⟩
    · exact set_mono hp.2.1 l2 _ (by rw [gi_set hp.1.1 hp.1.1 l1, if_pos rfl])
    · rw [gi_set hp.2.1 hp.2.1 l2, if_pos rfl]
    · rw [gi_set (by omega) hp.2.1 l2, if_neg (by omega), gi_set (by omega) hp.1.1 l1, if_neg (by omega)]
  · by_cases c6 : x.k = 6 ∨ x.k = 7
    · have hp := hx.one c6
      have e : rMark out x = out.set x.a.toNat true := by unfold rMark; rw [if_neg c5, if_pos c6]
      have l1 : x.a < (out.length : Int) := by omega
      rw [e]
      refine ⟨⟨fun h => absurd h c5, fun _ => by rw [gi_set hp.1 hp.1 l1, if_pos rfl]⟩, fun j hj => set_mono hp.1 l1 _ hj, fun j hj => ?_⟩
      rw [gi_set (by omega) hp.1 l1, if_neg (by omega)]
    · have e : rMark out x = out := by unfold rMark; rw [if_neg c5, if_neg c6]
      rw [e]
      exact ⟨⟨fun h => absurd h c5, fun h => absurd h c6⟩, fun _ h => h, fun _ _ => rfl⟩
theorem rDown_closed {l : List Nd} (hp : PoolOk l) : ∀ (i : Nat) (out : List Bool), i ≤ l.length → out.length = l.length → (∀ j : Nat, i ≤ j → j < l.length → gi out (j : Int) = true → HasAll out (gi l (j : Int))) → (∀ j : Nat, j < l.length → gi (rDown l i out) (j : Int) = true → HasAll (rDown l i out) (gi l (j : Int))) ∧ ∀ j, gi out j = true → gi (rDown l i out) j = true
  | 0, out, _, _, h => ⟨fun j hj => h j (Nat.zero_le _) hj, fun _ h => h⟩
  | i + 1, out, hi, hl, h => by
    rw [rDown]
    have hok := hp.at (v := (i : Int)) (by omega) (by omega)
    obtain ⟨m1, m2, m3⟩ := rMark_ok (out := out) (x := gi l (i : Int)) (i := i) hok (by omega)
    have hs : rStep l out i = if gi out (i : Int) = true then rMark out (gi l (i : Int)) else out := rfl
    have hmono : ∀ j, gi out j = true → gi (rStep l out i) j = true := by
      intro j hj; rw [hs]; split
      · exact m2 j hj
      · exact hj
    have hkeep : ∀ j : Int, (i : Int) ≤ j → gi (rStep l out i) j = gi out j := by
      intro j hj; rw [hs]; split
      · exact m3 j hj
      · rfl
    have ih := rDown_closed hp i (rStep l out i) (by omega) (by rw [rStep_len]; exact hl) (by
      intro j hj hjl ht
      rw [hkeep j (by omega)] at ht
      by_cases hji : j = i
      · subst hji
        rw [hs, if_pos ht]; exact m1
      · exact (h j (by omega) hjl ht).mono hmono)
    exact ⟨ih.1, fun j hj => ih.2 j (hmono j hj)⟩
theorem reachM_closed {l : List Nd} (hp : PoolOk l) (roots : List Int) {j : Int} (h0 : 0 ≤ j) (h1 : j < l.length) (h : gi (reachM l roots) j = true) : HasAll (reachM l roots) (gi l j) := by
  obtain ⟨k, rfl⟩ := Int.eq_ofNat_of_zero_le h0
  exact (rDown_closed hp l.length (rRoots l.length roots) (Nat.le_refl _) (rRoots_len _ _) (fun j h1 h2 => by omega)).1 k (by omega) h
theorem rRoots_in {m : Nat} (roots : List Int) (hr : ∀ r ∈ roots, 0 ≤ r ∧ r < (m : Int)) {r : Int} (h : r ∈ roots) : gi (rRoots m roots) r = true := by
  suffices ∀ (rs : List Int) (o : List Bool), o.length = m → (∀ r ∈ rs, 0 ≤ r ∧ r < (m : Int)) → (r ∈ rs ∨ gi o r = true) → gi (rs.foldl (fun o r => o.set r.toNat true) o) r = true from this roots _ (by simp) hr (.inl h)
  have hrr := hr r h
  intro rs
  induction rs with
  | nil => intro o _ _ h; rcases h with h | h; · cases h
           exact h
  | cons a rs ih =>
    intro o ho hrs h
    rw [List.foldl_cons]
    have ha := hrs a List.mem_cons_self
    refine ih _ (by simp [ho]) (fun x hx => hrs x (List.mem_cons_of_mem _ hx)) ?_
    rcases h with h | h
    · rcases List.mem_cons.1 h with rfl | h
      · exact .inr (by rw [gi_set ha.1 ha.1 (by omega), if_pos rfl])
      · exact .inl h
    · exact .inr (set_mono ha.1 (by omega) _ h)
theorem reachM_in {l : List Nd} (hp : PoolOk l) {roots : List Int} (hr : ∀ r ∈ roots, 0 ≤ r ∧ r < (l.length : Int)) {r : Int} (h : r ∈ roots) : gi (reachM l roots) r = true :=
  (rDown_closed hp l.length (rRoots l.length roots) (Nat.le_refl _) (rRoots_len _ _) (fun j h1 h2 => by omega)).2 r (rRoots_in roots hr h)
/-! ### Moving -/
def inStep (told : List Bool) (z : Int) (st : List Nd × List Int) (x : Nd) : List Nd × List Int := if gi told (st.2.length : Int) = true then (st.1 ++ [clKey st.2 x], st.2 ++ [(st.1.length : Int)]) else (st.1, st.2 ++ [z])
def inRun (told : List Bool) (z : Int) (p : List Nd) (l : List Nd) : List Nd × List Int := l.foldl (inStep told z) (p, [])
theorem inRun_snoc (told : List Bool) (z : Int) (p l : List Nd) (x : Nd) : inRun told z p (l ++ [x]) = inStep told z (inRun told z p l) x := by simp [inRun, List.foldl_append]
theorem inRun_take {told : List Bool} {z : Int} {p l : List Nd} {j : Nat} (hj : j < l.length) : inRun told z p (l.take (j + 1)) = inStep told z (inRun told z p (l.take j)) (gi l (j : Int)) := by
  rw [take_next hj, inRun_snoc, gi_nat hj]
theorem inRun_aux (told : List Bool) (z : Int) : ∀ (l : List Nd) (st : List Nd × List Int), (l.foldl (inStep told z) st).2.length = st.2.length + l.length ∧ st.1.length ≤ (l.foldl (inStep told z) st).1.length ∧ (l.foldl (inStep told z) st).1.length ≤ st.1.length + l.length
  | [], st => by simp
  | x :: l, st => by
    rw [List.foldl_cons]
    have := inRun_aux told z l (inStep told z st x)
    unfold inStep at this ⊢
    split at this <;> rename_i hg <;> simp only [hg, if_true, if_false, List.length_append, List.length_cons, List.length_nil] at this ⊢ <;> simp at this ⊢ <;> omega
theorem inRun_len (told : List Bool) (z : Int) (p l : List Nd) : (inRun told z p l).2.length = l.length := by
  have := (inRun_aux told z l (p, [])).1
  simpa [inRun] using this
theorem inRun_le (told : List Bool) (z : Int) (p l : List Nd) : p.length ≤ (inRun told z p l).1.length ∧ (inRun told z p l).1.length ≤ p.length + l.length := (inRun_aux told z l (p, [])).2
/-- What is told of the others does not matter. -/
theorem inRun_z {told : List Bool} {p l : List Nd} (hp : PoolOk l) (hc : ∀ j : Int, 0 ≤ j → j < l.length → gi told j = true → HasAll told (gi l j)) (z z' : Int) : ∀ j : Nat, j ≤ l.length → (inRun told z p (l.take j)).1 = (inRun told z' p (l.take j)).1 ∧ ∀ i : Int, 0 ≤ i → i < j → gi told i = true → gi (inRun told z p (l.take j)).2 i = gi (inRun told z' p (l.take j)).2 i
  | 0, _ => ⟨by simp [inRun], fun i h0 h1 => by omega⟩
  | j + 1, hj => by
    obtain ⟨e1, e2⟩ := inRun_z hp hc z z' j (by omega)
    have l1 : (inRun told z p (l.take j)).2.length = j := by rw [inRun_len, List.length_take]; omega
    have l2 : (inRun told z' p (l.take j)).2.length = j := by rw [inRun_len, List.length_take]; omega
    rw [inRun_take (by omega), inRun_take (by omega)]
    generalize inRun told z p (l.take j) = A at *
    generalize inRun told z' p (l.take j) = B at *
    unfold inStep
    rw [l1, l2]
    by_cases ht : gi told (j : Int) = true
    · rw [if_pos ht, if_pos ht]
      have hk := hc (j : Int) (by omega) (by omega) ht
      have hok := hp.at (v := (j : Int)) (by omega) (by omega)
      have : clKey A.2 (gi l (j : Int)) = clKey B.2 (gi l (j : Int)) := by
        generalize gi l (j : Int) = x at *
        unfold clKey
        by_cases c5 : x.k = 5
        · have := hok.pair c5
          rw [if_pos c5, if_pos c5, e2 _ this.1.1 (by omega) (hk.1 c5).1, e2 _ this.2.1 (by omega) (hk.1 c5).2]
        · rw [if_neg c5, if_neg c5]
          by_cases c6 : x.k = 6 ∨ x.k = 7
          · have := hok.one c6
            rw [if_pos c6, if_pos c6, e2 _ this.1 (by omega) (hk.2 c6)]
          · rw [if_neg c6, if_neg c6]
      refine ⟨by simp only [this, e1], fun i h0 h1 ht => ?_⟩
      simp only
      by_cases hij : i = j
      · subst hij
        rw [← l1] at *
        rw [gi_last, l1, ← l2, gi_last, e1]
      · rw [gi_app (by omega) h0, gi_app (by omega) h0]
        exact e2 i h0 (by omega) ht
    · rw [if_neg ht, if_neg ht]
      refine ⟨e1, fun i h0 h1 hti => ?_⟩
      simp only
      by_cases hij : i = j
      · subst hij; exact absurd hti ht
      · rw [gi_app (by omega) h0, gi_app (by omega) h0]
        exact e2 i h0 (by omega) hti
theorem inRun_zz {p l : List Nd} (hp : PoolOk l) (roots : List Int) (z z' : Int) : (inRun (reachM l roots) z p l).1 = (inRun (reachM l roots) z' p l).1 ∧ ∀ i : Int, 0 ≤ i → i < l.length → gi (reachM l roots) i = true → gi (inRun (reachM l roots) z p l).2 i = gi (inRun (reachM l roots) z' p l).2 i := by
  have := inRun_z (p := p) hp (fun j h0 h1 h => reachM_closed hp roots h0 h1 h) z z' l.length (Nat.le_refl _)
  rw [List.take_length] at this
  exact this
theorem app_set {A : List Int} {j d : Nat} {z y : Int} (hA : A.length = j) : (A ++ List.replicate (d + 1) z).set j y = (A ++ [y]) ++ List.replicate d z := by
  subst hA
  rw [List.replicate_succ, List.set_append_right _ _ (Nat.le_refl _), Nat.sub_self, List.set_cons_zero, List.append_assoc]; rfl
theorem app_set2 {A R : List Int} {j : Nat} {x y : Int} (hA : A.length = j) : ((A ++ [x]) ++ R).set j y = (A ++ [y]) ++ R := by
  subst hA
  rw [List.append_assoc, List.set_append_right _ _ (Nat.le_refl _), Nat.sub_self, List.singleton_append, List.set_cons_zero, List.append_assoc]; rfl
theorem flat_ip {A R : List Int} {i : Int} (h0 : 0 ≤ i) (h1 : i < A.length) : ((A ++ R).flatMap eInt.cells)[i.toNat]? = some (.int .i64 (gi A i)) := by
  rw [flat_i h0 (by rw [List.length_append]; omega), gi_app h1 h0]
end Go.Proofs.Ytdnokdgkccnbnaa.Ax
