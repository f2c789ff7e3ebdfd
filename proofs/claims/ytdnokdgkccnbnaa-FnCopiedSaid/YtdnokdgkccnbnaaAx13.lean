/- A region that draws its order: laws of the trace in the text's order, and of the sets. -/
import Derived.Test.YtdnokdgkccnbnaaAx12
set_option linter.unusedSimpArgs false
set_option linter.unusedVariables false
namespace Go.Proofs.Ytdnokdgkccnbnaa.Ax
open Go
variable {P : Program}

/-! ### What must be done ahead -/
theorem edges_spec (ms : List Nat) (j : Nat) : ∀ (es : List Edge) (m : Nat), (es.foldl (fun m e => if edgeOn e then m ||| (1 <<< e.on) ||| (ms.getD e.on 0) else m) m).testBit j = true →
    m.testBit j = true ∨ ∃ e ∈ es, edgeOn e = true ∧ (j = e.on ∨ (ms.getD e.on 0).testBit j = true)
  | [], m, h => .inl h
  | e :: es, m, h => by
    rw [List.foldl_cons] at h
    rcases edges_spec ms j es _ h with h | ⟨e', h1, h2⟩
    · split at h
      · rename_i he
        rw [Nat.testBit_or, Nat.testBit_or, Bool.or_eq_true, Bool.or_eq_true, Nat.one_shiftLeft, Nat.testBit_two_pow] at h
        rcases h with (h | h) | h
        · exact .inl h
        · exact .inr ⟨e, List.mem_cons_self .., he, .inl (by simpa [eq_comm] using h)⟩
        · exact .inr ⟨e, List.mem_cons_self .., he, .inr h⟩
      · exact .inl h
    · exact .inr ⟨e', List.mem_cons_of_mem _ h1, h2⟩

theorem befs_get : ∀ (l : List Oper) (ms : List Nat) (i : Nat), i < ms.length → (befs l ms)[i]? = ms[i]?
  | [], ms, i, h => rfl
  | o :: l, ms, i, h => by
    unfold befs
    rw [befs_get l _ i (by simp; omega), List.getElem?_append_left h]
theorem befs_at : ∀ (l : List Oper) (ms : List Nat) (k : Nat) (o : Oper), l[k]? = some o → ∃ ms', (∀ i, i < ms.length + k → ms'[i]? = (befs l ms)[i]?) ∧ (befs l ms)[ms.length + k]? = some (edges o.after.toList ms')
  | [], ms, k, o, h => by simp at h
  | o' :: l, ms, 0, o, h => by
    simp only [List.getElem?_cons_zero, Option.some.injEq] at h
    subst h
    refine ⟨ms, fun i hi => ?_, ?_⟩
    · unfold befs
      rw [befs_get _ _ _ (by simp; omega), List.getElem?_append_left (by omega)]
    · unfold befs
      rw [befs_get _ _ _ (by simp)]
      simp
  | o' :: l, ms, k + 1, o, h => by
    simp only [List.getElem?_cons_succ] at h
    obtain ⟨ms', h1, h2⟩ := befs_at l (ms ++ [edges o'.after.toList ms]) k o h
    have hl : (ms ++ [edges o'.after.toList ms]).length = ms.length + 1 := by simp
    rw [hl] at h1 h2
    refine ⟨ms', fun i hi => ?_, ?_⟩
    · unfold befs; exact h1 i (by omega)
    · unfold befs; rw [show ms.length + (k + 1) = ms.length + 1 + k by omega]; exact h2

theorem edgesOk_at : ∀ (l : List Oper) (i k : Nat) (o : Oper), edgesOk l i = true → l[k]? = some o → ∀ e ∈ o.after.toList, edgeOn e = true → e.on < i + k
  | [], i, k, o, _, h => by simp at h
  | o' :: l, i, 0, o, he, h => by
    simp only [List.getElem?_cons_zero, Option.some.injEq] at h
    subst h
    unfold edgesOk at he
    rw [Bool.and_eq_true, List.all_eq_true] at he
    intro e hm hon
    have := he.1 e hm
    rw [hon] at this
    simpa using this
  | o' :: l, i, k + 1, o, he, h => by
    simp only [List.getElem?_cons_succ] at h
    unfold edgesOk at he
    rw [Bool.and_eq_true] at he
    intro e hm hon
    have := edgesOk_at l (i + 1) k o he.2 h e hm hon
    omega

theorem bef_spec {l : List Oper} (he : edgesOk l 0 = true) {i j : Nat} {o : Oper} (ho : l[i]? = some o) (h : bef l j i = true) : ∃ e ∈ o.after.toList, edgeOn e = true ∧ (j = e.on ∨ bef l j e.on = true) := by
  unfold bef at h
  obtain ⟨ms', h1, h2⟩ := befs_at l [] i o ho
  simp only [List.length_nil, Nat.zero_add] at h1 h2
  rw [List.getD_eq_getElem?_getD, h2, Option.getD_some] at h
  unfold edges at h
  rcases edges_spec ms' j _ 0 h with h | ⟨e, e1, e2, e3⟩
  · simp at h
  · refine ⟨e, e1, e2, e3.imp id fun h => ?_⟩
    have := edgesOk_at l 0 i o he ho e e1 e2
    unfold bef
    rw [List.getD_eq_getElem?_getD, ← h1 e.on (by omega), ← List.getD_eq_getElem?_getD]
    exact h

theorem pairsOk_at {ops : List Oper} {b : List Nat} : ∀ (l : List Oper) (i k : Nat) (o : Oper), pairsOk P ops b l i = true → l[k]? = some o → ∀ j x, j < i + k → ops[j]? = some x → clash P ops x o = true → (b.getD (i + k) 0).testBit j = true
  | [], i, k, o, _, h => by simp at h
  | o' :: l, i, 0, o, he, h => by
    simp only [List.getElem?_cons_zero, Option.some.injEq] at h
    subst h
    unfold pairsOk at he
    rw [Bool.and_eq_true, List.all_eq_true] at he
    intro j x hj hx hc
    have := he.1 j (by simpa using hj)
    rw [hx] at this
    simp only [hc, Bool.not_true, Bool.false_or] at this
    exact this
  | o' :: l, i, k + 1, o, he, h => by
    simp only [List.getElem?_cons_succ] at h
    unfold pairsOk at he
    rw [Bool.and_eq_true] at he
    intro j x hj hx hc
    have := pairsOk_at l (i + 1) k o he.2 h j x (by omega) hx hc
    rwa [show i + 1 + k = i + (k + 1) by omega] at this

theorem clash_bef {l : List Oper} (hp : pairsOk P l (befs l []) l 0 = true) {i j : Nat} {x o : Oper} (ho : l[i]? = some o) (hx : l[j]? = some x) (hj : j < i) (hc : clash P l x o = true) : bef l j i = true := by
  have := pairsOk_at (P := P) l 0 i o hp ho j x (by omega) hx hc
  rw [Nat.zero_add] at this
  exact this

/-! ### Objects by the way -/
/-- An object that has no place yet. -/
theorem Post.vset {New : Nat → Prop} {G0 G : Gh} {H0 K : Hp} {w0 w : World} (h : Post New G0 H0 w0 G K w) {id : Nat} (hN : New id) (hg : G id = none) {ob : Obj} (hr : rwObj ob = true) : Post New G0 H0 w0 G (K.set id (some ob)) w := by
  refine ⟨h.le, h.dom, ?_, ?_, ?_, ?_, h.fr, ?_⟩
  · intro i hi hn
    rw [Hp.set_ne _ _ (by rintro rfl; exact hn hN)]
    exact h.virt i hi hn
  · intro i hi hn
    rw [Hp.set_ne _ _ (by rintro rfl; exact hn hN)]
    exact h.alive i hi hn
  · rintro b ⟨i, o, g, hi, ho, hgi, rfl⟩
    rw [Hp.set_ne _ _ (by rintro rfl; rw [hg] at hgi; cases hgi)] at hi
    exact h.own _ ⟨i, o, g, hi, ho, hgi, rfl⟩
  · intro i o hi ho
    by_cases e : i = id
    · subst e; rw [Hp.set_same] at hi; cases hi; rw [hr] at ho; cases ho
    · rw [Hp.set_ne _ _ e] at hi; exact h.ro i o hi ho
  · refine h.hr.sub fun i o hi hgi => ?_
    rw [Hp.set_ne _ _ (by rintro rfl; exact hgi hg)] at hi
    exact hi

def over (X : Nat → Option Obj) (H : Hp) : Hp := fun i => (X i).or (H i)
theorem over_some {X : Nat → Option Obj} {H : Hp} {i : Nat} {o : Obj} (h : X i = some o) : over X H i = some o := by simp [over, h]
theorem over_none {X : Nat → Option Obj} {H : Hp} {i : Nat} (h : X i = none) : over X H i = H i := by simp [over, h]

/-- What an operation does beside objects that it does not know. -/
theorem Post.frame {New : Nat → Prop} {G G' : Gh} {H H' : Hp} {w w' : World} (h : Post New G H w G' H' w') {X : Nat → Option Obj} (hX : ∀ i o, X i = some o → rwObj o = true ∧ G i ≠ none ∧ H i = none ∧ ¬ New i) (hK : HR G (over X H) w) (hN : ∀ i, New i → H i = none) :
    Post New G (over X H) w G' (over X H') w' := by
  have ownUp : ∀ b, Own G H b → Own G (over X H) b := by
    rintro b ⟨i, o, g, hi, ho, hg, rfl⟩
    refine ⟨i, o, g, ?_, ho, hg, rfl⟩
    rw [over_none]
    · exact hi
    · cases hx : X i with
      | none => rfl
      | some x => rw [(hX i x hx).2.2.1] at hi; cases hi
  have hX' : ∀ i o, X i = some o → H' i = none := fun i o hi => h.alive i (hX i o hi).2.2.1 (hX i o hi).2.2.2
  have gX : ∀ i o, X i = some o → ∃ g, G i = some g ∧ G' i = some g ∧ OR G g o w.heap[g.blk]? ∧ ¬ Own G H g.blk := by
    intro i o hi
    obtain ⟨h1, h2, h3, h4⟩ := hX i o hi
    obtain ⟨g, hg⟩ := Option.ne_none_iff_exists'.1 h2
    refine ⟨g, hg, h.le i g hg, hK.obj i o g (over_some hi) hg, ?_⟩
    rintro ⟨j, oj, gj, hj, hrj, hgj, hb⟩
    have hne : j ≠ i := by rintro rfl; rw [h3] at hj; cases hj
    have hxj : X j = none := by
      cases hx : X j with
      | none => rfl
      | some x => rw [(hX j x hx).2.2.1] at hj; cases hj
    exact hK.inj j i oj o gj g hne (by rw [over_none hxj]; exact hj) (over_some hi) hrj hgj hg hb
  have same : ∀ i o g, X i = some o → G' i = some g → w'.heap[g.blk]? = w.heap[g.blk]? ∧ g.blk < w.heap.size := by
    intro i o g hi hg
    obtain ⟨g1, e1, e2, e3, e4⟩ := gX i o hi
    obtain rfl : g1 = g := Option.some.inj (e2.symm.trans hg)
    have hlt : g1.blk < w.heap.size := hK.lt (over_some hi) e1
    exact ⟨h.fr.same _ hlt e4, hlt⟩
  refine ⟨h.le, h.dom, ?_, ?_, ?_, ?_, ?_, ?_, ?_⟩
  · intro i hi hn
    cases hx : X i with
    | none => rw [over_none hx, over_none hx]; exact h.virt i hi hn
    | some x => exact absurd hi (hX i x hx).2.1
  · intro i hi hn
    cases hx : X i with
    | none => rw [over_none hx] at hi ⊢; exact h.alive i hi hn
    | some x => rw [over_some hx] at hi; cases hi
  · rintro b ⟨i, o, g, hi, ho, hg, rfl⟩
    cases hx : X i with
    | none =>
      rw [over_none hx] at hi
      exact (h.own _ ⟨i, o, g, hi, ho, hg, rfl⟩).imp (ownUp _) id
    | some x =>
      obtain ⟨g1, e1, e2, _⟩ := gX i x hx
      obtain rfl : g1 = g := Option.some.inj (e2.symm.trans hg)
      exact .inl ⟨i, x, g1, over_some hx, (hX i x hx).1, e1, rfl⟩
  · intro i o hi ho
    cases hx : X i with
    | none => rw [over_none hx] at hi ⊢; exact h.ro i o hi ho
    | some x => obtain rfl : x = o := Option.some.inj ((over_some hx).symm.trans hi); rw [(hX i x hx).1] at ho; cases ho
  · exact ⟨h.fr.os, h.fr.tape, h.fr.output, h.fr.size, fun b hb hn => h.fr.same b hb fun hx => hn (ownUp b hx)⟩
  · intro i o g hi hg
    cases hx : X i with
    | none => rw [over_none hx] at hi; exact h.hr.obj i o g hi hg
    | some x =>
      obtain rfl : x = o := Option.some.inj ((over_some hx).symm.trans hi)
      obtain ⟨g1, e1, e2, e3, e4⟩ := gX i x hx
      rw [(same i x g hx hg).1]
      obtain rfl : g1 = g := Option.some.inj (e2.symm.trans hg)
      exact e3.mono h.le
  · intro i j oi oj gi gj hij hi hj hr hgi hgj
    -- of an object by the way and one that the operation knows
    have mixed : ∀ x y ox oy gx gy, X x = some ox → X y = none → over X H' y = some oy → G' x = some gx → G' y = some gy → gx.blk ≠ gy.blk := by
      intro x y ox oy gx gy hx hy hoy hgx hgy hb
      rw [over_none hy] at hoy
      obtain ⟨g1, e1, e2, e3, e4⟩ := gX x ox hx
      obtain rfl : g1 = gx := Option.some.inj (e2.symm.trans hgx)
      have hlt : g1.blk < w.heap.size := hK.lt (over_some hx) e1
      cases hrw : rwObj oy with
      | true =>
        rcases h.own _ ⟨y, oy, gy, hoy, hrw, hgy, rfl⟩ with ho | ho
        · exact e4 (hb ▸ ho)
        · omega
      | false =>
        have hold := h.ro y oy hoy hrw
        have hny : ¬ New y := fun hn => by rw [hN y hn] at hold; cases hold
        have hgy0 : G y = some gy := by
          cases hg0 : G y with
          | none => rw [h.dom y hg0 hny] at hgy; cases hgy
          | some g0 => have := h.le y g0 hg0; rw [hgy] at this; cases this; rfl
        have hne : x ≠ y := by rintro rfl; rw [hx] at hy; cases hy
        exact hK.inj x y ox oy g1 gy hne (over_some hx) (by rw [over_none hy]; exact hold) (hX x ox hx).1 e1 hgy0 hb
    cases hxi : X i with
    | none =>
      cases hxj : X j with
      | none =>
        rw [over_none hxi] at hi
        rw [over_none hxj] at hj
        exact h.hr.inj i j oi oj gi gj hij hi hj hr hgi hgj
      | some y =>
        exact fun hb => mixed j i y oi gj gi hxj hxi hi hgj hgi hb.symm
    | some x =>
      cases hxj : X j with
      | none => exact mixed i j x oj gi gj hxi hxj hj hgi hgj
      | some y =>
        obtain ⟨g1, e1, e2, _⟩ := gX i x hxi
        obtain ⟨g2, f1, f2, _⟩ := gX j y hxj
        obtain rfl : g1 = gi := Option.some.inj (e2.symm.trans hgi)
        obtain rfl : g2 = gj := Option.some.inj (f2.symm.trans hgj)
        exact hK.inj i j x y g1 g2 hij (over_some hxi) (over_some hxj) (hX i x hxi).1 e1 f1

theorem ld_mono {agg : Bool} {sz : Nat} {a v : Value} {H K : Hp} (h : ld agg sz a H = some v) (hK : ∀ i o, H i = some o → K i = some o) : ld agg sz a K = some v := by
  have hc : ∀ p, cellsAt a H = some p → cellsAt a K = some p := by
    intro p hp
    unfold cellsAt at hp ⊢
    split at hp
    · rename_i i o
      split at hp
      · rename_i cs e rw_ hi
        rw [hK i _ hi]
        exact hp
      · cases hp
    · cases hp
  unfold ld at h ⊢
  split at h
  · unfold lda at h ⊢
    simp only [Option.bind_eq_some_iff] at h
    obtain ⟨p, hp, h⟩ := h
    rw [if_pos ‹_›, hc p hp]
    exact h
  · unfold ldc at h ⊢
    simp only [Option.bind_eq_some_iff] at h
    obtain ⟨p, hp, h⟩ := h
    rw [if_neg ‹_›, hc p hp]
    exact h

end Go.Proofs.Ytdnokdgkccnbnaa.Ax
