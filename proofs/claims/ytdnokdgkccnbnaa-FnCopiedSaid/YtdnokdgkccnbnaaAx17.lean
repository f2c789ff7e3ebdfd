/- A region that draws its order, and the model's: one operation, and all of them. -/
import Derived.Test.YtdnokdgkccnbnaaAx16
set_option linter.unusedSimpArgs false
set_option linter.unusedVariables false
namespace Go.Proofs.Ytdnokdgkccnbnaa.Ax
open Go

section
variable {P : Program} {C : Calling} {ops : Array Oper} {n0 m : Nat} {f : Nat → R5} {G0 : Gh} {H0 : Hp} {w0 : World} {ds : List Deferred}

open Classical in
/-- The operands of an operation, and no others. -/
noncomputable def ownOp (L : List Oper) (o : Oper) (x : Operand) : Bool := opnd x && (match x with | .tmp t => decide (t ∈ readsOf L o) | _ => true)

theorem ownOp_all {L : List Oper} {o : Oper} (h : opsOk o = true) : o.op.operands.toList.all (ownOp L o) = true := by
  rw [List.all_eq_true]
  intro x hx
  have h1 : opnd x = true := List.all_eq_true.1 h x hx
  unfold ownOp
  rw [h1, Bool.true_and]
  split
  · rename_i t
    rw [decide_eq_true_eq]
    unfold readsOf tmpsOf
    exact List.mem_append_left _ (List.mem_filterMap.2 ⟨_, hx, rfl⟩)
  · rfl

theorem step_inv (hC : CALL P C) (he : Evs P C ops n0 f) (hok : ops.toList.all opsOk = true) (hpo : pairsOk P ops.toList (befs ops.toList []) ops.toList 0 = true) (hdst : dstsOps m ops.toList = true) {listed : Array Bool} {a : Act} {w : World} {G : Gh} {p i : Nat}
    (hI : Inv P ops n0 m f G0 H0 w0 ds listed a w G p) (hi : i < ops.size) (hnl : ¬ Lst listed i) (hr : ∀ j, bef ops.toList j i = true → Lst listed j) {K : Act → World → Prop} {Q : Exit → Act → World → Prop}
    (hK : ∀ a' w' G' p', Inv P ops n0 m f G0 H0 w0 ds (listed.setIfInBounds i true) a' w' G' p' → K a' w') : wpOp P ops Q i K a w := by
  obtain ⟨o, ho⟩ := get_of_lt hi
  have hl : i < listed.size := by rw [hI.sz]; exact hi
  have ho' : ops.toList[i]? = some o := by rw [Array.getElem?_toList]; exact ho
  have hmem : o ∈ ops.toList := List.mem_of_getElem? ho'
  have hdo : ∀ x, o.dst = some x → x < m := by
    intro x hx
    have := List.all_eq_true.1 hdst o hmem
    rw [hx] at this
    simpa using this
  have hreads : ∀ {d}, d ∈ readsOf ops.toList o → VR G ((f i).t d) (a.tmps.getD d undef) := fun hd => hI.reads he hpo ho hnl hr hd
  have hall := ownOp_all (L := ops.toList) (List.all_eq_true.1 hok o hmem)
  have hv : ∀ x, ownOp ops.toList o x = true → VR G (ev (f i).t x) (a.eval x) := by
    intro x hx
    unfold ownOp at hx
    rw [Bool.and_eq_true] at hx
    refine opnd_vr hx.1 ?_
    rintro t rfl
    exact hreads (by simpa using hx.2)
  have hgon : gon ops.toList (f i).t o = if Region.wanted o (yielded ops a.tmps) = true then true else false := by
    refine guard_eq (G := G) ?_ true false
    intro j b d hg hd
    refine hreads ?_
    unfold readsOf
    rw [hg]
    simp only [Array.getElem?_toList, hd]
    simp
  unfold wpOp
  rw [ho]
  simp only
  have hreg : ∀ {w' G' v v'}, (f (i + 1)).t = putO (f i).t o.dst v → VR G' v v' → GLe G G' → ¬ Actor P ops f i → Mem P ops n0 f G0 H0 w0 (listed.setIfInBounds i true) w' G' p → K (a.put o.dst v') w' := by
    intro w' G' v v' ht hvv hle hnA hmm
    refine hK _ _ _ _ (hI.next he hpo ho hnl hr hdo ht hvv hle hI.ple ?_ hI.pmin hmm)
    intro k hk hA
    rw [← hI.thr k hk hA]
    refine ⟨?_, .inr⟩
    rintro (rfl | h)
    · exact absurd hA hnA
    · exact h
  have noAct : ∀ {c}, cls P o = c → c ≠ 3 → ¬ Actor P ops f i := by
    rintro c hc hne ⟨o', h1, h2, _⟩
    rw [ho] at h1; cases h1
    exact hne (hc.symm.trans h2)
  cases he i o ho with
  | off h1 h =>
    rw [h1] at hgon
    have hw : ¬ Region.wanted o (yielded ops a.tmps) = true := by
      intro hw; rw [if_pos hw] at hgon; cases hgon
    rw [if_neg hw]
    have hX : Xo P ops n0 f i = none := by
      unfold Xo; rw [ho]; simp only; rw [if_neg fun hc => by rw [h1] at hc; cases hc.2]
    refine hreg (w' := w) (G' := G) (v := .tuple #[]) (by rw [h]) VR.undef (GLe.refl G) ?_ ?_
    · rintro ⟨o', e1, _, e3⟩
      rw [ho] at e1; cases e1
      rw [h1] at e3; cases e3
    · refine hI.mem.add hI.sz hi ?_ (fun ob hx => by rw [hX] at hx; cases hx)
      rw [XS_same hl hX]
      exact Post.refl hI.mem.post.hr
  | inert v h1 h2 h3 h =>
    rw [h1] at hgon
    have hw : Region.wanted o (yielded ops a.tmps) = true := by
      by_cases hw : Region.wanted o (yielded ops a.tmps) = true
      · exact hw
      · rw [if_neg hw] at hgon; cases hgon
    rw [if_pos hw]
    left
    have hX : Xo P ops n0 f i = none := by
      unfold Xo; rw [ho]; simp only; rw [if_neg fun hc => by rw [h2] at hc; cases hc.1]
    have hid : G (n0 + i) = none := hI.mem.res i hi hnl
    have hd := step_sim hI.mem.post.hr hid hall hv (h3 (over (XS P ops n0 f listed p) (f p).H) (n0 + i))
    unfold Oper.wp
    cases hd with
    | val e1 e2 e3 =>
      rw [e1, Oper.upon_value]
      refine hreg (by rw [h]) e2 e3.le (noAct h2 (by decide)) (hI.mem.add hI.sz hi ?_ (fun ob hx => by rw [hX] at hx; cases hx))
      rw [XS_same hl hX]
      exact e3
  | load ty ad ti v h1 h2 hop ht hld hhs h =>
    rw [h1] at hgon
    have hw : Region.wanted o (yielded ops a.tmps) = true := by
      by_cases hw : Region.wanted o (yielded ops a.tmps) = true
      · exact hw
      · rw [if_neg hw] at hgon; cases hgon
    rw [if_pos hw]
    left
    have hX : Xo P ops n0 f i = none := by
      unfold Xo; rw [ho]; simp only; rw [if_neg fun hc => by rw [h2] at hc; cases hc.1]
    have hnA := noAct h2 (by decide)
    obtain ⟨q, hq, hldq⟩ := hI.load he hi hnA hnl hr hld hhs (by rw [h])
    have hldk : ld ti.agg ti.size (ev (f i).t ad) (over (XS P ops n0 f listed q) (f q).H) = some v := by
      refine ld_mono hldq fun id ob hid => ?_
      cases hx : XS P ops n0 f listed q id with
      | none => rw [over_none hx]; exact hid
      | some ob' =>
        obtain ⟨k, rfl, h1, h2, h3⟩ := XS_some hx
        by_cases hk : k < ops.size
        · rw [hq.cl k h1 hk] at hid; cases hid
        · unfold Xo at h3
          rw [Array.getElem?_eq_none (by omega)] at h3
          cases h3
    have hva : VR G (ev (f i).t ad) (a.eval ad) := by
      refine hv ad ?_
      have := List.all_eq_true.1 hall ad (by rw [hop]; simp [Op.operands])
      exact this
    obtain ⟨v', hrun, hpr⟩ := ld_sim hq.post.hr ht hva hldk
    unfold Oper.wp
    have hrun' : (execOp a.eval o).run P w = .ok (.value v') w := by
      unfold execOp
      rw [hop]
      simp [hrun]
    rw [hrun', Oper.upon_value]
    refine hreg (G' := G) (by rw [h]) (.p hpr) (GLe.refl G) hnA (hI.mem.add hI.sz hi ?_ (fun ob hx => by rw [hX] at hx; cases hx))
    rw [XS_same hl hX]
    exact Post.refl hI.mem.post.hr
  | ext v ob h1 h2 h3 h4 h =>
    rw [h1] at hgon
    have hw : Region.wanted o (yielded ops a.tmps) = true := by
      by_cases hw : Region.wanted o (yielded ops a.tmps) = true
      · exact hw
      · rw [if_neg hw] at hgon; cases hgon
    rw [if_pos hw]
    left
    have hX : Xo P ops n0 f i = some ob := by
      unfold Xo; rw [ho]; simp only; rw [if_pos ⟨h2, h1⟩, h]
      exact Hp.set_same _ _ _
    have hid : G (n0 + i) = none := hI.mem.res i hi hnl
    have hd := step_sim hI.mem.post.hr hid hall hv (h4 (over (XS P ops n0 f listed p) (f p).H))
    unfold Oper.wp
    cases hd with
    | val e1 e2 e3 =>
      rw [e1, Oper.upon_value]
      refine hreg (by rw [h]) e2 e3.le (noAct h2 (by decide)) (hI.mem.add hI.sz hi ?_ ?_)
      · rw [XS_set hl hX fun hip => hI.mem.virt i ob hip hnl hX]
        exact e3
      · intro _ _
        rcases h3.2 with hv0 | ⟨n, hv0⟩
        · rw [hv0] at e2
          obtain ⟨g, hg, _⟩ := e2.ptr
          rw [hg]; simp
        · rw [hv0] at e2
          obtain ⟨g, _, hg, _⟩ := e2.slS
          rw [hg]; simp
  | act t' H' n' h1 h2 hex hask h =>
    rw [h1] at hgon
    have hw : Region.wanted o (yielded ops a.tmps) = true := by
      by_cases hw : Region.wanted o (yielded ops a.tmps) = true
      · exact hw
      · rw [if_neg hw] at hgon; cases hgon
    rw [if_pos hw]
    left
    have hA : Actor P ops f i := ⟨o, ho, h2, h1⟩
    have hX : Xo P ops n0 f i = none := by
      unfold Xo; rw [ho]; simp only; rw [if_neg fun hc => by rw [h2] at hc; cases hc.1]
    have hpi : p ≤ i := by
      rcases Nat.lt_or_ge i p with h | h
      · exact absurd ((hI.thr i hi hA).2 h) hnl
      · exact h
    have hnone : ∀ j, p ≤ j → j < i → ¬ Actor P ops f j := by
      intro j hj hji hAj
      obtain ⟨x, hx, hx3, _⟩ := id hAj
      have hx' : ops.toList[j]? = some x := by rw [Array.getElem?_toList]; exact hx
      have := hr j (clash_bef hpo ho' hx' hji (clash_3 hx3 h2))
      have := (hI.thr j (by omega) hAj).1 this
      omega
    have hM := hI.mem.upto he (i - p) (by omega) (by rw [show p + (i - p) = i by omega]; exact hnone)
    rw [show p + (i - p) = i by omega] at hM
    have hid : G (n0 + i) = none := hM.res i hi hnl
    have hHi : (f i).H (n0 + i) = none := hM.cl i (Nat.le_refl _) hi
    have hover : ∀ id ob, (f i).H id = some ob → over (XS P ops n0 f listed i) (f i).H id = some ob := by
      intro id ob hob
      cases hx : XS P ops n0 f listed i id with
      | none => rw [over_none hx]; exact hob
      | some ob' =>
        obtain ⟨k, rfl, h1, h2, h3⟩ := XS_some hx
        by_cases hk : k < ops.size
        · rw [hM.cl k h1 hk] at hob; cases hob
        · unfold Xo at h3
          rw [Array.getElem?_eq_none (by omega)] at h3
          cases h3
    have hHR : HR G (f i).H w := hM.post.hr.sub fun id ob hob _ => hover id ob hob
    have hnn := hM.nn
    refine exec_sim hC hHR hM.fresh hid hall hv hex ?_
    intro v v' G' w' ht hvv hn1 hp
    have hq : f (i + 1) = ⟨t', H', n', (f i).rs, (i, (f i).H) :: (f i).hs⟩ := h
    -- objects by the way
    have hXs : ∀ id ob, XS P ops n0 f listed i id = some ob → rwObj ob = true ∧ G id ≠ none ∧ (f i).H id = none ∧ ¬ (id = n0 + i ∨ Span (f i).n n' id) := by
      intro id ob hx
      obtain ⟨k, rfl, e1, e2, e3⟩ := XS_some hx
      have hk : k < ops.size := by
        have : k < listed.size := lt_of_get e2
        rw [hI.sz] at this; exact this
      have hki : k ≠ i := by rintro rfl; exact hnl e2
      have hnAk : ¬ Actor P ops f k := by
        rintro ⟨x, hx1, hx2, _⟩
        unfold Xo at e3
        rw [hx1] at e3
        simp only at e3
        split at e3
        · rename_i hc; rw [hx2] at hc; cases hc.1
        · cases e3
      have hob : rwObj ob = true := by
        rcases (step_noA he hk hnAk).2 with ⟨hx0, _⟩ | ⟨ob', hx0, hr0, _⟩
        · rw [hx0] at e3; cases e3
        · rw [hx0] at e3; cases e3; exact hr0
      refine ⟨hob, hM.has k ob e2 e3, hM.cl k e1 hk, ?_⟩
      · rintro (e | e)
        · omega
        · have := e.1; omega
    have hN : ∀ id, (id = n0 + i ∨ Span (f i).n n' id) → (f i).H id = none := by
      rintro id (rfl | hs)
      · exact hHi
      · exact (hM.fresh id hs.1).2
    have hfr := hp.frame hXs hM.post.hr hN
    refine hK _ _ _ (i + 1) (hI.next he hpo ho hnl hr hdo (p' := i + 1) (by rw [hq]; exact ht) hvv hp.le (by omega) ?_ (.inr hA) ?_)
    · intro k hk hAk
      obtain ⟨x, hx, hx3, _⟩ := id hAk
      have hx' : ops.toList[k]? = some x := by rw [Array.getElem?_toList]; exact hx
      rcases Nat.lt_trichotomy k i with hki | rfl | hki
      · exact ⟨fun _ => by omega, fun _ => .inr (hr k (clash_bef hpo ho' hx' hki (clash_3 hx3 h2)))⟩
      · exact ⟨fun _ => by omega, fun _ => .inl rfl⟩
      · refine ⟨?_, fun h => by omega⟩
        rintro (h | h)
        · omega
        · exact absurd (hI.down k h i (clash_bef hpo hx' ho' hki (clash_3 h2 hx3))) hnl
    · have hXe : XS P ops n0 f (listed.setIfInBounds i true) (i + 1) = XS P ops n0 f listed i := by
        rw [XS_same hl hX]
        funext id
        rcases Nat.lt_or_ge id n0 with hlo | hlo
        · rw [XS_low hlo, XS_low hlo]
        · obtain ⟨k, rfl⟩ := Nat.exists_eq_add_of_le hlo
          by_cases hc : i + 1 ≤ k ∧ Lst listed k
          · rw [XS_at hc.1 hc.2, XS_at (by omega) hc.2]
          · rw [XS_no hc, XS_no fun hx => ?_]
            refine hc ⟨?_, hx.2⟩
            have : k ≠ i := by rintro rfl; exact hnl hx.2
            have := hx.1
            omega
      have hnn' : (f (i + 1)).n = n' := by rw [hq]
      have hHn : (f (i + 1)).H = H' := by rw [hq]
      refine ⟨?_, ?_, ?_, by rw [hnn']; omega, ?_, ?_, ?_⟩
      · rw [hXe, hnn', hHn]
        refine (hM.post.trans hfr).weaken ?_
        rintro k (hk | rfl | hk)
        · have := hk.1; have := hk.2; exact ⟨by omega, by omega⟩
        · exact ⟨by omega, by omega⟩
        · have := hk.1; have := hk.2; exact ⟨by omega, by omega⟩
      · intro k hk hks
        rw [hHn]
        refine hp.alive _ (hM.cl k (by omega) hks) ?_
        rintro (e | e)
        · omega
        · have := e.1; omega
      · rw [hHn, hnn']
        refine hM.fresh.post hn1 hp ?_
        rintro k hk (e | e)
        · omega
        · have := e.2; omega
      · intro k ob hk hn hx
        have hki : k ≠ i := by rintro rfl; exact hn ((lst_set hl).2 (.inl rfl))
        have hnk : ¬ Lst listed k := fun hc => hn ((lst_set hl).2 (.inr hc))
        rw [hHn, hp.virt _ (hM.res k (by omega) hnk) ?_]
        · exact hM.virt k ob (by omega) hnk hx
        · rintro (e | e)
          · omega
          · have := e.1; omega
      · intro k hk hn
        have hki : k ≠ i := by rintro rfl; exact hn ((lst_set hl).2 (.inl rfl))
        have hnk : ¬ Lst listed k := fun hc => hn ((lst_set hl).2 (.inr hc))
        refine hp.dom _ (hM.res k hk hnk) ?_
        rintro (e | e)
        · omega
        · have := e.1; omega
      · intro k ob hk hx
        rcases (lst_set hl).1 hk with rfl | hk
        · rw [hX] at hx; cases hx
        · obtain ⟨g, hg⟩ := Option.ne_none_iff_exists'.1 (hM.has k ob hk hx)
          rw [hp.le _ g hg]; simp

/-! ### All of them -/
theorem countP_lt {p q : Nat → Bool} {i : Nat} (hp : p i = false) (hq : q i = true) : ∀ (l : List Nat), (∀ x ∈ l, p x = true → q x = true) → i ∈ l → l.countP p < l.countP q
  | [], _, hi => by cases hi
  | x :: l, h, hi => by
    have hle : l.countP p ≤ l.countP q := List.countP_mono_left fun y hy => h y (List.mem_cons_of_mem _ hy)
    rw [List.countP_cons, List.countP_cons]
    rcases List.mem_cons.1 hi with rfl | hi
    · rw [hp, hq]; simp; omega
    · have := countP_lt hp hq l (fun y hy => h y (List.mem_cons_of_mem _ hy)) hi
      have hx := h x (List.mem_cons_self ..)
      cases hpx : p x with
      | false => simp; omega
      | true => rw [hx hpx]; simp; omega

theorem any_sim (hC : CALL P C) (he : Evs P C ops n0 f) (hok : ops.toList.all opsOk = true) (hpo : pairsOk P ops.toList (befs ops.toList []) ops.toList 0 = true) (heo : edgesOk ops.toList 0 = true) (hdst : dstsOps m ops.toList = true) {Q : Exit → Act → World → Prop}
    (hQ : ∀ listed a w G p, Inv P ops n0 m f G0 H0 w0 ds listed a w G p → (∀ k, k < ops.size → Lst listed k) → Q .normal a w) :
    ∀ (fuel : Nat) (listed : Array Bool) (a : Act) (w : World) (G : Gh) (p : Nat), Inv P ops n0 m f G0 H0 w0 ds listed a w G p → (List.range ops.size).countP (fun i => !listed.getD i true) ≤ fuel → wpAny P .any ops Q fuel listed a w := by
  intro fuel
  have ready : ∀ {listed : Array Bool} {a w G p}, Inv P ops n0 m f G0 H0 w0 ds listed a w G p → ∀ i, i ∈ Region.ready .any ops listed → i < ops.size ∧ ¬ Lst listed i ∧ ∀ j, bef ops.toList j i = true → Lst listed j := by
    intro listed a w G p hI i hi
    unfold Region.ready at hi
    rw [List.mem_filter, List.mem_range, Bool.and_eq_true] at hi
    obtain ⟨hs, h1, h2⟩ := hi
    obtain ⟨o, ho⟩ := get_of_lt hs
    have ho' : ops.toList[i]? = some o := by rw [Array.getElem?_toList]; exact ho
    rw [ho] at h2
    simp only [Option.map_some, Option.getD_some] at h2
    refine ⟨hs, ?_, ?_⟩
    · intro hL
      rw [Array.getD_eq_getD_getElem?, (show listed[i]? = some true from hL)] at h1
      cases h1
    · intro j hj
      obtain ⟨e, e1, e2, e3⟩ := bef_spec heo ho' hj
      have hlt : e.on < ops.size := by
        have := edgesOk_at ops.toList 0 i o heo ho' e e1 e2
        omega
      have hL : Lst listed e.on := by
        have := (Array.all_eq_true_iff_forall_mem.1 h2) e (Array.mem_toList_iff.1 e1)
        have e2' : Region.binds .any e = true := e2
        rw [e2', Bool.not_true, Bool.false_or, Array.getD_eq_getD_getElem?] at this
        unfold Lst
        cases hx : listed[e.on]? with
        | none => rw [hx] at this; cases this
        | some b => rw [hx] at this; simp only [Option.getD_some] at this; rw [this]
      rcases e3 with rfl | e3
      · exact hL
      · exact hI.down e.on hL j e3
  have full : ∀ {listed : Array Bool} {a w G p}, Inv P ops n0 m f G0 H0 w0 ds listed a w G p → Region.ready .any ops listed = [] → ∀ k, k < ops.size → Lst listed k := by
    intro listed a w G p hI hr k
    induction k using Nat.strongRecOn with
    | _ k ih =>
      intro hk
      by_cases hL : Lst listed k
      · exact hL
      · exfalso
        obtain ⟨o, ho⟩ := get_of_lt hk
        have ho' : ops.toList[k]? = some o := by rw [Array.getElem?_toList]; exact ho
        have : k ∈ Region.ready .any ops listed := by
          unfold Region.ready
          rw [List.mem_filter, List.mem_range, Bool.and_eq_true]
          refine ⟨hk, ?_, ?_⟩
          · have hks : k < listed.size := by rw [hI.sz]; exact hk
            rw [Array.getD_eq_getD_getElem?, Array.getElem?_eq_getElem hks, Option.getD_some]
            cases hb : listed[k] with
            | false => rfl
            | true => exact absurd (show listed[k]? = some true by rw [Array.getElem?_eq_getElem hks, hb]) hL
          · rw [ho]
            simp only [Option.map_some, Option.getD_some]
            refine Array.all_eq_true_iff_forall_mem.2 fun e hm => ?_
            by_cases hon : Region.binds .any e = true
            · have hlt := edgesOk_at ops.toList 0 k o heo ho' e (Array.mem_toList_iff.2 hm) hon
              have := ih e.on (by omega) (by omega)
              rw [Array.getD_eq_getD_getElem?, (show listed[e.on]? = some true from this)]
              simp
            · simp only [Bool.not_eq_true] at hon
              rw [hon]; rfl
        rw [hr] at this
        cases this
  induction fuel with
  | zero =>
    intro listed a w G p hI hc
    have hall : ∀ k, k < ops.size → Lst listed k := by
      intro k hk
      have hz : (List.range ops.size).countP (fun i => !listed.getD i true) = 0 := by omega
      rw [List.countP_eq_zero] at hz
      have := hz k (List.mem_range.2 hk)
      have hks : k < listed.size := by rw [hI.sz]; exact hk
      rw [Array.getD_eq_getD_getElem?, Array.getElem?_eq_getElem hks, Option.getD_some] at this
      unfold Lst
      rw [Array.getElem?_eq_getElem hks]
      simpa using this
    refine ⟨?_, hQ listed a w G p hI hall⟩
    rw [List.eq_nil_iff_forall_not_mem]
    intro i hi
    obtain ⟨h1, h2, _⟩ := ready hI i hi
    exact h2 (hall i h1)
  | succ fuel ih =>
    intro listed a w G p hI hc
    refine ⟨fun hr => hQ listed a w G p hI (full hI hr), ?_⟩
    intro i hi
    obtain ⟨h1, h2, h3⟩ := ready hI i hi
    refine step_inv hC he hok hpo hdst hI h1 h2 h3 ?_
    intro a' w' G' p' hI'
    refine ih _ a' w' G' p' hI' ?_
    have hil : i < listed.size := by rw [hI.sz]; exact h1
    have hlt : (List.range ops.size).countP (fun j => !(listed.setIfInBounds i true).getD j true) < (List.range ops.size).countP (fun j => !listed.getD j true) := by
      refine countP_lt (i := i) ?_ ?_ _ ?_ (List.mem_range.2 h1)
      · rw [Array.getD_eq_getD_getElem?, Array.getElem?_setIfInBounds, if_pos rfl, if_pos hil]; rfl
      · rw [Array.getD_eq_getD_getElem?, Array.getElem?_eq_getElem hil, Option.getD_some]
        cases hb : listed[i] with
        | false => rfl
        | true => exact absurd (show listed[i]? = some true by rw [Array.getElem?_eq_getElem hil, hb]) h2
      · intro x _ hx
        rw [Array.getD_eq_getD_getElem?, Array.getElem?_setIfInBounds] at hx
        by_cases e : i = x
        · subst e; rw [if_pos rfl, if_pos hil] at hx; cases hx
        · rw [if_neg e] at hx; rw [Array.getD_eq_getD_getElem?]; exact hx
    omega

end

end Go.Proofs.Ytdnokdgkccnbnaa.Ax
