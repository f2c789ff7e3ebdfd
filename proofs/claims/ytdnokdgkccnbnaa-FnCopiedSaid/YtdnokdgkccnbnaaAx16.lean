/- A region that draws its order, and the model's. -/
import Derived.Test.YtdnokdgkccnbnaaAx15
set_option linter.unusedSimpArgs false
set_option linter.unusedVariables false
namespace Go.Proofs.Ytdnokdgkccnbnaa.Ax
open Go

theorem clash_dst {P : Program} {L : List Oper} {x y : Oper} {d : Nat} (hx : x.dst = some d) (hy : y.dst = some d) : clash P L x y = true := by
  unfold clash; rw [hx, hy]; simp
theorem clash_w {P : Program} {L : List Oper} {x y : Oper} {d : Nat} (hx : x.dst = some d) (hy : d ∈ readsOf L y) : clash P L x y = true := by
  unfold clash; rw [hx]; simp [writesIn, hy]
theorem clash_r {P : Program} {L : List Oper} {x y : Oper} {d : Nat} (hx : y.dst = some d) (hy : d ∈ readsOf L x) : clash P L x y = true := by
  unfold clash; rw [hx]; simp [writesIn, hy]
theorem clash_3 {P : Program} {L : List Oper} {x y : Oper} (hx : cls P x = 3) (hy : cls P y = 3) : clash P L x y = true := by
  unfold clash; rw [hx, hy]; simp

section
variable {P : Program} {C : Calling} {ops : Array Oper} {n0 m : Nat} {f : Nat → R5} {G0 : Gh} {H0 : Hp} {w0 : World} {ds : List Deferred}

theorem XS_same {listed : Array Bool} {i p : Nat} (hi : i < listed.size) (hX : Xo P ops n0 f i = none) : XS P ops n0 f (listed.setIfInBounds i true) p = XS P ops n0 f listed p := by
  funext id
  rcases Nat.lt_or_ge id n0 with hlo | hlo
  · rw [XS_low hlo, XS_low hlo]
  · obtain ⟨k, rfl⟩ := Nat.exists_eq_add_of_le hlo
    by_cases hp : p ≤ k
    · by_cases hk : Lst listed k
      · rw [XS_at hp hk, XS_at hp ((lst_set hi).2 (.inr hk))]
      · rw [XS_no (listed := listed) fun hc => hk hc.2]
        by_cases he : k = i
        · subst he; rw [XS_at hp ((lst_set hi).2 (.inl rfl)), hX]
        · rw [XS_no fun hc => ?_]
          rcases (lst_set hi).1 hc.2 with h | h
          · exact he h
          · exact hk h
    · rw [XS_no fun hc => hp hc.1, XS_no fun hc => hp hc.1]

theorem XS_set {listed : Array Bool} {i p : Nat} (hi : i < listed.size) {ob : Obj} (hX : Xo P ops n0 f i = some ob) {H : Hp} (hH : i < p → H (n0 + i) = some ob) :
    over (XS P ops n0 f (listed.setIfInBounds i true) p) H = (over (XS P ops n0 f listed p) H).set (n0 + i) (some ob) := by
  funext id
  rcases Nat.lt_or_ge id n0 with hlo | hlo
  · rw [Hp.set_ne _ _ (by omega), over_none (XS_low hlo), over_none (XS_low hlo)]
  · obtain ⟨k, rfl⟩ := Nat.exists_eq_add_of_le hlo
    by_cases he : k = i
    · subst he
      rw [Hp.set_same]
      by_cases hp : p ≤ k
      · exact over_some ((XS_at hp ((lst_set hi).2 (.inl rfl))).trans hX)
      · rw [over_none (XS_no fun hc => hp hc.1)]; exact hH (by omega)
    · rw [Hp.set_ne _ _ (by omega)]
      have : XS P ops n0 f (listed.setIfInBounds i true) p (n0 + k) = XS P ops n0 f listed p (n0 + k) := by
        by_cases hc : p ≤ k ∧ Lst listed k
        · rw [XS_at hc.1 hc.2, XS_at hc.1 ((lst_set hi).2 (.inr hc.2))]
        · rw [XS_no hc, XS_no fun hx => ?_]
          rcases (lst_set hi).1 hx.2 with h | h
          · exact he h
          · exact hc ⟨hx.1, h⟩
      unfold over
      rw [this]

theorem Mem.add {listed : Array Bool} {w w' : World} {G G' : Gh} {p i : Nat} (h : Mem P ops n0 f G0 H0 w0 listed w G p) (hsz : listed.size = ops.size) (hi : i < ops.size)
    (hp : Post (· = n0 + i) G (over (XS P ops n0 f listed p) (f p).H) w G' (over (XS P ops n0 f (listed.setIfInBounds i true) p) (f p).H) w') (hG : ∀ ob, Xo P ops n0 f i = some ob → G' (n0 + i) ≠ none) : Mem P ops n0 f G0 H0 w0 (listed.setIfInBounds i true) w' G' p := by
  have hl : i < listed.size := by omega
  refine ⟨(h.post.trans hp).weaken ?_, h.cl, ?_, h.nn, ?_, ?_, ?_⟩
  · rintro k (hk | rfl)
    · exact hk
    · have := h.nn; exact ⟨by omega, by omega⟩
  · intro k hk
    refine ⟨hp.dom k (h.fresh k hk).1 ?_, (h.fresh k hk).2⟩
    rintro rfl
    have := h.nn; omega
  · intro k ob hk hn hx
    exact h.virt k ob hk (fun hc => hn ((lst_set hl).2 (.inr hc))) hx
  · intro k hk hn
    refine hp.dom _ (h.res k hk fun hc => hn ((lst_set hl).2 (.inr hc))) fun e => ?_
    exact hn ((lst_set hl).2 (.inl (by omega)))
  · intro k ob hk hx
    rcases (lst_set hl).1 hk with rfl | hk
    · exact hG ob hx
    · obtain ⟨g, hg⟩ := Option.ne_none_iff_exists'.1 (h.has k ob hk hx)
      rw [hp.le _ g hg]; simp

theorem Inv.next (he : Evs P C ops n0 f) (hpo : pairsOk P ops.toList (befs ops.toList []) ops.toList 0 = true) {listed : Array Bool} {a : Act} {w w' : World} {G G' : Gh} {p p' i : Nat} (hI : Inv P ops n0 m f G0 H0 w0 ds listed a w G p) {o : Oper} (ho : ops[i]? = some o) (hnl : ¬ Lst listed i)
    (hr : ∀ j, bef ops.toList j i = true → Lst listed j) (hdst : ∀ x, o.dst = some x → x < m) {v v' : Value} (ht : (f (i + 1)).t = putO (f i).t o.dst v) (hv : VR G' v v') (hle : GLe G G') (hple : p' ≤ ops.size)
    (hthr : ∀ k, k < ops.size → Actor P ops f k → ((k = i ∨ Lst listed k) ↔ k < p')) (hpmin : p' = 0 ∨ Actor P ops f (p' - 1)) (hmem : Mem P ops n0 f G0 H0 w0 (listed.setIfInBounds i true) w' G' p') :
    Inv P ops n0 m f G0 H0 w0 ds (listed.setIfInBounds i true) (a.put o.dst v') w' G' p' := by
  have hi : i < ops.size := lt_of_get ho
  have hl : i < listed.size := by rw [hI.sz]; exact hi
  have ho' : ops.toList[i]? = some o := by rw [Array.getElem?_toList]; exact ho
  refine ⟨by rw [Array.size_setIfInBounds]; exact hI.sz, ?_, by rw [Act.put_size]; exact hI.tsz, ?_, by rw [Act.put_defers]; exact hI.defs, hple, ?_, hpmin, hmem⟩
  · intro k hk j hj
    rcases (lst_set hl).1 hk with rfl | hk
    · exact (lst_set hl).2 (.inr (hr j hj))
    · exact (lst_set hl).2 (.inr (hI.down k hk j hj))
  · intro d
    by_cases hd : o.dst = some d
    · refine ⟨i + 1, hi, ?_, ?_⟩
      · intro k x hx hxd
        have hx' : ops.toList[k]? = some x := by rw [Array.getElem?_toList]; exact hx
        rw [lst_set hl]
        rcases Nat.lt_trichotomy k i with hki | rfl | hki
        · exact ⟨fun _ => by omega, fun _ => .inr (hr k (clash_bef hpo ho' hx' hki (clash_dst hxd hd)))⟩
        · exact ⟨fun _ => by omega, fun _ => .inl rfl⟩
        · refine ⟨?_, fun h => by omega⟩
          rintro (h | h)
          · omega
          · exact absurd (hI.down k h i (clash_bef hpo hx' ho' hki (clash_dst hd hxd))) hnl
      · rw [ht, hd, Act.put_get a d v' d (Nat.lt_of_lt_of_le (hdst d hd) hI.tsz), if_pos rfl]
        show VR G' (if d = d then v else _) v'
        rw [if_pos rfl]
        exact hv
    · obtain ⟨i', h1, h2, h3⟩ := hI.tmp d
      refine ⟨i', h1, ?_, ?_⟩
      · intro k x hx hxd
        rw [lst_set hl, ← h2 k x hx hxd]
        refine ⟨?_, .inr⟩
        rintro (rfl | h)
        · rw [ho] at hx; cases hx; exact absurd hxd hd
        · exact h
      · have : (a.put o.dst v').tmps.getD d undef = a.tmps.getD d undef := by
          cases hod : o.dst with
          | none => rfl
          | some x =>
            rw [Act.put_get a x v' d (Nat.lt_of_lt_of_le (hdst x hod) hI.tsz), if_neg]
            rintro rfl; exact hd hod
        rw [this]
        exact h3.mono hle
  · intro k hk hA
    rw [lst_set hl]
    exact hthr k hk hA

theorem Inv.reads (he : Evs P C ops n0 f) (hpo : pairsOk P ops.toList (befs ops.toList []) ops.toList 0 = true) {listed : Array Bool} {a : Act} {w : World} {G : Gh} {p i : Nat} (hI : Inv P ops n0 m f G0 H0 w0 ds listed a w G p) {o : Oper} (ho : ops[i]? = some o) (hnl : ¬ Lst listed i)
    (hr : ∀ j, bef ops.toList j i = true → Lst listed j) {d : Nat} (hd : d ∈ readsOf ops.toList o) : VR G ((f i).t d) (a.tmps.getD d undef) := by
  have hi : i < ops.size := lt_of_get ho
  have ho' : ops.toList[i]? = some o := by rw [Array.getElem?_toList]; exact ho
  obtain ⟨i', h1, h2, h3⟩ := hI.tmp d
  rw [t_same he (i := i) (j := i') (by omega) h1]
  · exact h3
  · intro k x hx hxd
    have hx' : ops.toList[k]? = some x := by rw [Array.getElem?_toList]; exact hx
    rw [← h2 k x hx hxd]
    constructor
    · exact fun hk => hr k (clash_bef hpo ho' hx' hk (clash_w hxd hd))
    · intro hk
      rcases Nat.lt_trichotomy k i with hki | rfl | hki
      · exact hki
      · exact absurd hk hnl
      · exact absurd (hI.down k hk i (clash_bef hpo hx' ho' hki (clash_r hxd hd))) hnl

/-- What a load reads is still there. -/
theorem Inv.load (he : Evs P C ops n0 f) {listed : Array Bool} {a : Act} {w : World} {G : Gh} {p i : Nat} (hI : Inv P ops n0 m f G0 H0 w0 ds listed a w G p) (hi : i < ops.size) (hnA : ¬ Actor P ops f i) (hnl : ¬ Lst listed i) (hr : ∀ j, bef ops.toList j i = true → Lst listed j)
    {agg : Bool} {sz : Nat} {ad v : Value} (hld : ld agg sz ad (f i).H = some v) (hhs : ∀ x ∈ (f i).hs, ((befs ops.toList []).getD i 0).testBit x.1 = true ∨ ld agg sz ad x.2 = some v) (hrs : (f (i + 1)).rs = ⟨i, agg, sz, ad, v⟩ :: (f i).rs) :
    ∃ q, Mem P ops n0 f G0 H0 w0 listed w G q ∧ ld agg sz ad (f q).H = some v := by
  rcases Nat.lt_or_ge i p with hip | hip
  · -- actors behind it were done
    rcases hI.pmin with h0 | hA
    · omega
    · have hA' := hA
      obtain ⟨o, ho, h3, hg⟩ := hA
      have hps := hI.ple
      refine ⟨p, hI.mem, ?_⟩
      have hne : p - 1 ≠ i := by rintro h; rw [h] at hA'; exact hnA hA'
      have hmem : (⟨i, agg, sz, ad, v⟩ : Rd) ∈ (f (p - 1)).rs := by
        have := rs_mem he (k := i) (r := ⟨i, agg, sz, ad, v⟩) (by rw [hrs]; exact List.mem_cons_self ..) (p - 1 - (i + 1)) (by omega)
        rwa [show i + 1 + (p - 1 - (i + 1)) = p - 1 by omega] at this
      have hlst : Lst listed (p - 1) := (hI.thr (p - 1) (by omega) hA').2 (by omega)
      have hev := he (p - 1) o ho
      cases hev with
      | act t' H' n' _ _ _ hask hq =>
        have hq' : (f p).H = H' := by
          rw [show p - 1 + 1 = p by omega] at hq
          rw [hq]
        rw [hq']
        rcases hask _ hmem with hb | hb
        · exact absurd (hI.down (p - 1) hlst i hb) hnl
        · exact hb
      | off h1 h => rw [h1] at hg; cases hg
      | inert v _ h1 _ h => rw [h1] at h3; cases h3
      | load _ _ _ v _ h1 _ _ _ _ h => rw [h1] at h3; cases h3
      | ext v ob h0 h1 h2 _ h => rw [h1] at h3; cases h3
  · rcases first_actor (P := P) (ops := ops) (f := f) p (i - p) with h | ⟨j, h1, h2, h3, h4⟩
    · have := hI.mem.upto he (i - p) (by omega) h
      rw [show p + (i - p) = i by omega] at this
      exact ⟨i, this, hld⟩
    · have := hI.mem.upto he (j - p) (by omega) (by rw [show p + (j - p) = j by omega]; exact h4)
      rw [show p + (j - p) = j by omega] at this
      refine ⟨j, this, ?_⟩
      rcases hhs _ (hs_mem he i (by omega) j (by omega) h3) with hb | hb
      · have := (hI.thr j (by omega) h3).1 (hr j hb)
        omega
      · exact hb

end

end Go.Proofs.Ytdnokdgkccnbnaa.Ax
