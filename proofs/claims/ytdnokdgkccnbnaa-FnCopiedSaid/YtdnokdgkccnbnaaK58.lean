/- Pure laws: what is alike is as great and written alike. -/
import Derived.Test.YtdnokdgkccnbnaaK14
import Derived.Test.YtdnokdgkccnbnaaK48
set_option linter.unusedVariables false
set_option linter.unusedSimpArgs false
set_option maxHeartbeats 4000000
namespace Go.Proofs.Ytdnokdgkccnbnaa.Ax
open Go
theorem size_at2 {l : List Nd} {v : Int} (hp : PoolOk l) (h : 0 ≤ v ∧ v < (l.length : Int)) : gi (sizes l) v = szStep (sizes l) (gi l v) := by
  obtain ⟨j, rfl⟩ := Int.eq_ofNat_of_zero_le h.1
  have hj : j < l.length := by omega
  rw [← sizes_gi (l := l) (v := (j : Int)) (j := j + 1) (by omega) (by omega) (by omega), sizes_take hj]
  have hlen : (sizes (l.take j)).length = j := by rw [sizes_len, List.length_take]; omega
  have : gi (sizes (l.take j) ++ [szStep (sizes (l.take j)) (gi l (j : Int))]) ((sizes (l.take j)).length : Int) = szStep (sizes (l.take j)) (gi l (j : Int)) := gi_last _ _
  rw [hlen] at this
  rw [this]
  have hok := hp.at (v := (j : Int)) (by omega) (by omega)
  generalize gi l (j : Int) = x at hok ⊢
  unfold szStep
  by_cases c5 : x.k = 5
  · have hx := hok.pair c5
    rw [if_pos c5, if_pos c5, sizes_gi hx.1.1 (by omega) (by omega), sizes_gi hx.2.1 (by omega) (by omega)]
  · rw [if_neg c5, if_neg c5]
    by_cases c6 : x.k = 6 ∨ x.k = 7
    · have hx := hok.one c6
      rw [if_pos c6, if_pos c6, sizes_gi hx.1 (by omega) (by omega)]
    · rw [if_neg c6, if_neg c6]
theorem clKey_k (out : List Int) (x : Nd) : (clKey out x).k = x.k ∧ (clKey out x).n = x.n ∧ (clKey out x).s = x.s := by
  unfold clKey; split
  · exact ⟨rfl, rfl, rfl⟩
  · split
    · exact ⟨rfl, rfl, rfl⟩
    · exact ⟨rfl, rfl, rfl⟩
theorem clKey_app {out m : List Int} {x : Nd} {i : Int} (h : NodeOk x i) (hi : i ≤ out.length) : clKey (out ++ m) x = clKey out x := by
  unfold clKey
  by_cases c5 : x.k = 5
  · have := h.pair c5
    rw [if_pos c5, if_pos c5, gi_app (by omega) this.1.1, gi_app (by omega) this.2.1]
  · rw [if_neg c5, if_neg c5]
    by_cases c6 : x.k = 6 ∨ x.k = 7
    · have := h.one c6
      rw [if_pos c6, if_pos c6, gi_app (by omega) this.1]
    · rw [if_neg c6, if_neg c6]
theorem leafT_clKey (out : List Int) (x : Nd) : leafT (clKey out x) = leafT x := by
  obtain ⟨h1, h2, h3⟩ := clKey_k out x
  unfold leafT; rw [h1, h2, h3]
theorem brT_k {x y : Nd} (h : x.k = y.k) (t : List Int) : brT x t = brT y t := by unfold brT; rw [h]
theorem tlT_k {x y : Nd} (h : x.k = y.k) (t : List Int) : tlT x t = tlT y t := by unfold tlT; rw [h]
theorem leafT_same {x y : Nd} (h1 : x.k = y.k) (h2 : x.n = y.n) (h3 : x.s = y.s) : leafT x = leafT y := by unfold leafT; rw [h1, h2, h3]
theorem wText_in {l : List Nd} {v : Int} (h : PoolOk l ∧ 0 ≤ v ∧ v < (l.length : Int)) : wText l v = if (txT l v).length ≤ 400 then txT l v else [] := by unfold wText; rw [if_pos h]
/-! ### Alike -/
theorem clOf_key {ks : List Nd} {y : Nd} (h : clOf ks y < ks.length) : gi ks (clOf ks y) = y := by
  unfold clOf at h ⊢
  cases hi : nIdx y ks with
  | none => rw [hi] at h; simp at h
  | some k =>
    have := List.findIdx?_eq_some_iff_getElem.1 hi
    obtain ⟨h1, h2, _⟩ := this
    show gi ks (k : Int) = y
    rw [gi_nat h1]; simpa using h2
theorem clRun_key : ∀ (l : List Nd) (j : Nat), j ≤ l.length → ∀ i : Int, 0 ≤ i → i < j → (0 ≤ gi (clRun (l.take j)).2 i ∧ gi (clRun (l.take j)).2 i < j) ∧ gi (clRun (l.take j)).1 (gi (clRun (l.take j)).2 i) = gi (clRun (l.take j)).1 i
  | l, 0, _ => fun i h0 h1 => by omega
  | l, j + 1, hj => fun i h0 h1 => by
    have ih := clRun_key l j (by omega)
    rw [clRun_take (by omega)]
    obtain ⟨l1, l2⟩ := clRun_len (l.take j)
    rw [List.length_take, Nat.min_eq_left (by omega)] at l1 l2
    generalize clRun (l.take j) = A at *
    unfold clStep
    simp only
    have hr := clOf_rng A.1 (clKey A.2 (gi l (j : Int)))
    by_cases hij : i = j
    · subst hij
      have q1 : gi (A.2 ++ [clOf A.1 (clKey A.2 (gi l (j : Int)))]) (j : Int) = clOf A.1 (clKey A.2 (gi l (j : Int))) := by rw [← l2]; exact gi_last _ _
      have q2 : gi (A.1 ++ [clKey A.2 (gi l (j : Int))]) (j : Int) = clKey A.2 (gi l (j : Int)) := by rw [← l1]; exact gi_last _ _
      rw [q1, q2]
      refine ⟨by omega, ?_⟩
      by_cases hlt : clOf A.1 (clKey A.2 (gi l (j : Int))) < A.1.length
      · rw [gi_app hlt hr.1]; exact clOf_key hlt
      · have : clOf A.1 (clKey A.2 (gi l (j : Int))) = A.1.length := by omega
        rw [this]; exact gi_last _ _
    · have h := ih i h0 (by omega)
      rw [gi_app (by omega) h0, gi_app (by omega) h.1.1, gi_app (by omega) h0]
      exact ⟨by omega, h.2⟩
theorem clRun_at {l : List Nd} (hp : PoolOk l) : ∀ (j : Nat), j ≤ l.length → ∀ i : Int, 0 ≤ i → i < j → gi (clRun (l.take j)).1 i = clKey (clRun (l.take j)).2 (gi l i)
  | 0, _ => fun i h0 h1 => by omega
  | j + 1, hj => fun i h0 h1 => by
    have ih := clRun_at hp j (by omega)
    rw [clRun_take (by omega)]
    obtain ⟨l1, l2⟩ := clRun_len (l.take j)
    rw [List.length_take, Nat.min_eq_left (by omega)] at l1 l2
    generalize clRun (l.take j) = A at *
    unfold clStep
    simp only
    rw [clKey_app (hp.at (v := i) h0 (by omega)) (by omega)]
    by_cases hij : i = j
    · subst hij
      rw [← l1]; exact gi_last _ _
    · rw [gi_app (by omega) h0]; exact ih i h0 (by omega)
theorem class_key {l : List Nd} (hp : PoolOk l) {a b : Int} (ha : 0 ≤ a ∧ a < l.length) (hb : 0 ≤ b ∧ b < l.length) (h : gi (classes l) a = gi (classes l) b) : clKey (classes l) (gi l a) = clKey (classes l) (gi l b) := by
  have h1 := clRun_key l l.length (Nat.le_refl _)
  have h2 := clRun_at hp l.length (Nat.le_refl _)
  rw [List.take_length] at h1 h2
  have a1 := h1 a ha.1 ha.2
  have b1 := h1 b hb.1 hb.2
  rw [← show (clRun l).2 = classes l from rfl] at h ⊢
  rw [← h2 a ha.1 ha.2, ← h2 b hb.1 hb.2, ← a1.2, ← b1.2, h]
theorem class_text {l : List Nd} (hp : PoolOk l) : ∀ (k : Nat) (a b : Int), a.toNat + b.toNat = k → (0 ≤ a ∧ a < l.length) → (0 ≤ b ∧ b < l.length) → gi (classes l) a = gi (classes l) b → inT l a = inT l b ∧ gi (sizes l) a = gi (sizes l) b := by
  intro k
  induction k using Nat.strongRecOn with
  | ind k ih =>
    intro a b hk ha hb h
    have he := class_key hp ha hb h
    have ka := clKey_k (classes l) (gi l a)
    have kb := clKey_k (classes l) (gi l b)
    have e1 : (gi l a).k = (gi l b).k := by rw [← ka.1, ← kb.1, he]
    have e2 : (gi l a).n = (gi l b).n := by rw [← ka.2.1, ← kb.2.1, he]
    have e3 : (gi l a).s = (gi l b).s := by rw [← ka.2.2, ← kb.2.2, he]
    have oa := hp.at ha.1 ha.2
    have ob := hp.at hb.1 hb.2
    rw [size_at2 hp ha, size_at2 hp hb]
    by_cases c5 : (gi l a).k = 5
    · have d5 : (gi l b).k = 5 := by rw [← e1]; exact c5
      have pa := oa.pair c5
      have pb := ob.pair d5
      have fa : clKey (classes l) (gi l a) = ⟨(gi l a).k, (gi l a).n, (gi l a).s, gi (classes l) (gi l a).a, gi (classes l) (gi l a).b⟩ := by unfold clKey; rw [if_pos c5]
      have fb : clKey (classes l) (gi l b) = ⟨(gi l b).k, (gi l b).n, (gi l b).s, gi (classes l) (gi l b).a, gi (classes l) (gi l b).b⟩ := by unfold clKey; rw [if_pos d5]
      rw [fa, fb] at he
      simp only [Nd.mk.injEq] at he
      have pA : (0 ≤ (gi l a).a ∧ (gi l a).a < l.length) ∧ (0 ≤ (gi l a).b ∧ (gi l a).b < l.length) := by omega
      have pB : (0 ≤ (gi l b).a ∧ (gi l b).a < l.length) ∧ (0 ≤ (gi l b).b ∧ (gi l b).b < l.length) := by omega
      have i1 := ih _ (by omega) (gi l a).a (gi l b).a rfl pA.1 pB.1 he.2.2.2.1
      have i2 := ih _ (by omega) (gi l a).b (gi l b).b rfl pA.2 pB.2 he.2.2.2.2
      have k1 := class_key hp pA.1 pB.1 he.2.2.2.1
      have k2 := class_key hp pA.2 pB.2 he.2.2.2.2
      have k1' : (gi l (gi l a).a).k = (gi l (gi l b).a).k := by rw [← (clKey_k (classes l) _).1, k1, (clKey_k (classes l) _).1]
      have k2' : (gi l (gi l a).b).k = (gi l (gi l b).b).k := by rw [← (clKey_k (classes l) _).1, k2, (clKey_k (classes l) _).1]
      constructor
      · rw [inT_pair hp ha.1 ha.2 c5, inT_pair hp hb.1 hb.2 d5, txT, txT, i1.1, i2.1, brT_k k1', tlT_k k2']
      · unfold szStep
        rw [if_pos c5, if_pos d5, i1.2, i2.2]
    · have d5 : ¬ (gi l b).k = 5 := by rw [← e1]; exact c5
      constructor
      · rw [inT_leaf c5, inT_leaf d5, leafT_same e1 e2 e3]
      · unfold szStep
        rw [if_neg c5, if_neg d5]
        by_cases c6 : (gi l a).k = 6 ∨ (gi l a).k = 7
        · have d6 : (gi l b).k = 6 ∨ (gi l b).k = 7 := by rw [← e1]; exact c6
          have pa := oa.one c6
          have pb := ob.one d6
          have fa : (clKey (classes l) (gi l a)).a = gi (classes l) (gi l a).a := by unfold clKey; rw [if_neg c5, if_pos c6]
          have fb : (clKey (classes l) (gi l b)).a = gi (classes l) (gi l b).a := by unfold clKey; rw [if_neg d5, if_pos d6]
          have i1 := ih _ (by omega) (gi l a).a (gi l b).a rfl (by omega) (by omega) (by rw [← fa, ← fb, he])
          rw [if_pos c6, if_pos d6, i1.2]
        · have d6 : ¬ ((gi l b).k = 6 ∨ (gi l b).k = 7) := by rw [← e1]; exact c6
          rw [if_neg c6, if_neg d6]
theorem same_law {l : List Nd} {a b : Int} (h : sameAns l a b = true) : sameAns l a a = true ∧ sizeOf l a = sizeOf l b ∧ wText l a = wText l b := by
  unfold sameAns at h ⊢
  obtain ⟨hp, ha, hb, he⟩ := of_decide_eq_true h
  obtain ⟨e1, e2⟩ := class_text hp _ a b rfl ha hb he
  have hk := class_key hp ha hb he
  have k1 : (gi l a).k = (gi l b).k := by rw [← (clKey_k (classes l) _).1, hk, (clKey_k (classes l) _).1]
  refine ⟨decide_eq_true ⟨hp, ha, ha, rfl⟩, ?_, ?_⟩
  · unfold sizeOf; rw [if_pos ⟨hp, ha⟩, if_pos ⟨hp, hb⟩, e2]
  · rw [wText_in ⟨hp, ha⟩, wText_in ⟨hp, hb⟩, txT, txT, e1, brT_k k1]
theorem same_symm (l : List Nd) (a b : Int) : sameAns l a b = sameAns l b a := by
  unfold sameAns
  apply decide_eq_decide.2
  constructor
  · rintro ⟨h1, h2, h3, h4⟩; exact ⟨h1, h3, h2, h4.symm⟩
  · rintro ⟨h1, h2, h3, h4⟩; exact ⟨h1, h3, h2, h4.symm⟩
end Go.Proofs.Ytdnokdgkccnbnaa.Ax
