/- One operation of the abstract machine, and the model's: slices, operators, maps. -/
import Derived.Test.YtdnokdgkccnbnaaAx8
import Derived.Laws.StructEq
set_option linter.unusedSimpArgs false
set_option linter.unusedVariables false
namespace Go.Proofs.Ytdnokdgkccnbnaa.Ax
open Go
variable {P : Program}

/-! ### Slices -/
inductive OVR (G : Gh) : Option Value → Option Value → Prop
  | none : OVR G none none
  | some {v v' : Value} : VR G v v' → OVR G (some v) (some v')

theorem bound_sim {G : Gh} {v v' : Value} (hv : VR G v v') {l : Nat} {d : Nat} (h : bnd d (some v) = some l) (y : Nat) (hl : l ≤ y) (c : BoundsCode) (w : World) : (Instr.sliceBound v' y c).run P w = .ok l w := by
  unfold bnd at h
  split at h
  · rename_i h0; cases h0
  · rename_i k i h0
    cases h0
    obtain rfl := hv.intS
    split at h
    · rename_i hi
      cases h
      have : i ≤ (y : Int) := by omega
      simp [Instr.sliceBound, asIntOf, hi, this]
    · cases h
  · cases h

theorem bounds_sim {G : Gh} {lo lo' hi hi' : Option Value} (h1 : OVR G lo lo') (h2 : OVR G hi hi') {len cap l h : Nat} (hl : bnd 0 lo = some l) (hh : bnd len hi = some h) (hlh : l ≤ h) (hc : h ≤ cap) (b : Bool) (w : World) :
    (Instr.sliceBounds b len cap lo' hi' none).run P w = .ok (l, h, cap) w := by
  unfold Instr.sliceBounds
  cases h1 with
  | none =>
    cases hl
    cases h2 with
    | none => cases hh; simp
    | some hv => simp [bound_sim hv hh cap hc]
  | some hv1 =>
    cases h2 with
    | none => cases hh; simp [bound_sim hv1 hl _ hlh]
    | some hv => simp [bound_sim hv hh cap hc, bound_sim hv1 hl _ hlh]

theorem slice_sim {G : Gh} {ty : TypeId} {sz : Nat} (hs : sliceSz P ty = some sz) {x x' v : Value} (hx : VR G x x') {lo lo' hi hi' : Option Value} (h1 : OVR G lo lo') (h2 : OVR G hi hi') (h : sliceV sz x lo hi = some v) (w : World) :
    ∃ v', (Instr.sliceAt ty x' lo' hi' none).run P w = .ok v' w ∧ VR G v v' := by
  have hty : (P.underlying ty = some .string ∧ sz = 0) ∨ ∃ e i, P.underlying ty = some (.slice e) ∧ P.info? e = some i ∧ i.size = sz ∧ sz ≠ 0 := by
    unfold sliceSz at hs
    split at hs
    · rename_i hd; cases hs; exact .inl ⟨dsc_und hd, rfl⟩
    · rename_i e hd
      simp only [Option.bind_eq_some_iff] at hs
      obtain ⟨te, ht, hs⟩ := hs
      obtain ⟨i, z, i1, _, _, i4, _⟩ := tab_some ht
      split at hs
      · cases hs
      · rename_i hne; cases hs
        exact .inr ⟨e, i, dsc_und hd, i1, i4, hne⟩
    · cases hs
  unfold sliceV at h
  split at h
  · rename_i s
    simp only [Option.bind_eq_some_iff] at h
    obtain ⟨l, hl, r, hr, h⟩ := h
    split at h
    · rename_i hle
      obtain ⟨hle1, hle2, rfl⟩ := hle
      cases h
      obtain rfl := hx.strS
      rcases hty with ⟨hu, _⟩ | ⟨e, i, hu, hi, h0⟩
      · have := bounds_sim (P := P) h1 h2 hl hr hle1 hle2 false w
        exact ⟨_, by simp [Instr.sliceAt, Instr.slice, run_underlying hu, this], .sr (.str _)⟩
      · exact absurd rfl h0.2
    · cases h
  · simp only [Option.bind_eq_some_iff] at h
    obtain ⟨l, hl, r, hr, h⟩ := h
    split at h
    · rename_i hle
      obtain ⟨hle1, hle2, hz⟩ := hle
      cases h
      obtain ⟨rfl, rfl, rfl⟩ := hx.nilS
      rcases hty with ⟨_, rfl⟩ | ⟨e, i, hu, hi, h0⟩
      · omega
      · have := bounds_sim (P := P) h1 h2 hl hr hle1 hle2 true w
        have hl0 : l = 0 := by omega
        have hr0 : r = 0 := by omega
        subst hl0 hr0
        exact ⟨.slice none 0 0, by simp [Instr.sliceAt, Instr.slice, run_underlying hu, this, run_sizeOf hi], .sr .nils⟩
    · cases h
  · rename_i b o n c
    simp only [Option.bind_eq_some_iff] at h
    obtain ⟨l, hl, r, hr, h⟩ := h
    split at h
    · rename_i hle
      obtain ⟨hle1, hle2, hz⟩ := hle
      obtain ⟨g, c', hg, rfl, h3, h4⟩ := hx.slS
      rcases hty with ⟨_, rfl⟩ | ⟨e, i, hu, hi, h0⟩
      · omega
      · have hb := bounds_sim (P := P) h1 h2 hl hr hle1 (Nat.le_trans hle2 h3) true w
        have hrun : (Instr.sliceAt ty (.slice (some ⟨g.blk, g.sh + o, none⟩) n c') lo' hi' none).run P w = .ok (.slice (if c' = l then some ⟨g.blk, g.sh + o, none⟩ else some ⟨g.blk, g.sh + o + l * sz, none⟩) (r - l) (c' - l)) w := by
          have ha : (⟨g.blk, g.sh + o, none⟩ : Addr).add (l * sz) = ⟨g.blk, g.sh + o + l * sz, none⟩ := by
            unfold Addr.add; split
            · rename_i h; simp [h]
            · rfl
          simp [Instr.sliceAt, Instr.slice, run_underlying hu, hb, run_sizeOf hi, h0, ha]
        refine ⟨_, hrun, ?_⟩
        split at h
        · rename_i hlr
          cases h
          have : r - l = 0 := by omega
          rw [this]
          split
          · exact .sr .emp
          · exact .sr .emp
        · rename_i hlr
          cases h
          rw [if_neg (by omega), Nat.add_assoc]
          refine .sr (.sl hg (by omega) fun hrw ho => ?_)
          have hl0 : l = 0 := by
            rcases Nat.eq_zero_or_pos l with h | h
            · exact h
            · have := Nat.mul_pos h hz; omega
          subst hl0
          have := h4 hrw (by omega)
          rwa [Nat.sub_zero]
    · cases h
  · simp only [Option.bind_eq_some_iff] at h
    obtain ⟨l, hl, r, hr, h⟩ := h
    split at h
    · rename_i hle
      obtain ⟨hle1, hle2, hz⟩ := hle
      cases h
      obtain ⟨rfl, a', c', rfl⟩ := hx.empS
      rcases hty with ⟨_, rfl⟩ | ⟨e, i, hu, hi, h0⟩
      · omega
      · have := bounds_sim (P := P) (cap := c') h1 h2 hl hr hle1 (by omega) true w
        have hl0 : l = 0 := by omega
        have hr0 : r = 0 := by omega
        subst hl0 hr0
        refine ⟨.slice (if c' = 0 then some a' else some (a'.add (0 * sz))) 0 c', ?_, ?_⟩
        · simp [Instr.sliceAt, Instr.slice, run_underlying hu, this, run_sizeOf hi, h0]
        · split
          · exact .sr .emp
          · exact .sr .emp
    · cases h
  · cases h

/-! ### Operators -/
theorem bin_sim {G : Gh} {op : BinOp} {x y x' y' v : Value} (hx : VR G x x') (hy : VR G y y') (h : bin op x y = some v) (ty : TypeId) (ox oy : Operand) (w : World) :
    ∃ v', (do eqGuard op ty ox oy x' y'; binOp op ty x' y').run P w = .ok v' w ∧ VR G v v' := by
  unfold bin at h
  split at h
  · rename_i k a k' b
    obtain rfl := hx.intS
    obtain rfl := hy.intS
    have hg : (eqGuard op ty ox oy (.int k a) (.int k' b)).run P w = .ok () w := by cases op <;> simp [eqGuard]
    simp only [Sem.run_bind, hg, Result.andThen_ok]
    split at h
    · unfold shiftBin at h
      split at h
      · cases h
      · rename_i hb
        split at h
        · cases h; exact ⟨_, by simp [binOp, Op.shift, hb], .sr (.int _ _)⟩
        · cases h; exact ⟨_, by simp [binOp, Op.shift, hb], .sr (.int _ _)⟩
        · cases h
    · rename_i hsh
      split at h
      · rename_i hk
        subst hk
        unfold intBin at h
        split at h
        · cases h; exact ⟨_, by simp [binOp, Op.intArith], .sr (.int _ _)⟩
        · cases h; exact ⟨_, by simp [binOp, Op.intArith], .sr (.int _ _)⟩
        · cases h; exact ⟨_, by simp [binOp, Op.intArith], .sr (.int _ _)⟩
        · split at h
          · cases h
          · rename_i hb; cases h; exact ⟨_, by simp [binOp, Op.intDiv, hb], .sr (.int _ _)⟩
        · split at h
          · cases h
          · rename_i hb; cases h; exact ⟨_, by simp [binOp, Op.intDiv, hb], .sr (.int _ _)⟩
        · cases h; exact ⟨_, by simp only [binOp, Op.intBits, ne_eq, not_true_eq_false, if_false]; rfl, .sr (.int _ _)⟩
        · cases h; exact ⟨_, by simp only [binOp, Op.intBits, ne_eq, not_true_eq_false, if_false]; rfl, .sr (.int _ _)⟩
        · cases h; exact ⟨_, by simp only [binOp, Op.intBits, ne_eq, not_true_eq_false, if_false]; rfl, .sr (.int _ _)⟩
        · cases h; exact ⟨_, by simp only [binOp, Op.intBits, ne_eq, not_true_eq_false, if_false]; rfl, .sr (.int _ _)⟩
        · cases h; exact ⟨.bool (a == b), by simp only [binOp, Op.intCmp, ne_eq, not_true_eq_false, if_false]; rfl, .sr (.bool _)⟩
        · cases h; exact ⟨.bool (a != b), by simp only [binOp, Op.intCmp, ne_eq, not_true_eq_false, if_false]; rfl, .sr (.bool _)⟩
        · cases h; exact ⟨_, by simp only [binOp, Op.intCmp, ne_eq, not_true_eq_false, if_false]; rfl, .sr (.bool _)⟩
        · cases h; exact ⟨_, by simp only [binOp, Op.intCmp, ne_eq, not_true_eq_false, if_false]; rfl, .sr (.bool _)⟩
        · cases h; exact ⟨_, by simp only [binOp, Op.intCmp, ne_eq, not_true_eq_false, if_false]; rfl, .sr (.bool _)⟩
        · cases h; exact ⟨_, by simp only [binOp, Op.intCmp, ne_eq, not_true_eq_false, if_false]; rfl, .sr (.bool _)⟩
        · cases h
      · cases h
  · rename_i a b
    obtain rfl := hx.strS
    obtain rfl := hy.strS
    have hg : (eqGuard op ty ox oy (.string a) (.string b)).run P w = .ok () w := by cases op <;> simp [eqGuard]
    simp only [Sem.run_bind, hg, Result.andThen_ok]
    unfold strBin at h
    split at h
    · split at h
      · rename_i hle
        cases h
        refine ⟨.string (a ++ b), ?_, .sr (.str _)⟩
        have : ¬ (((a.size + b.size : Nat) : Int) > IntKind.i64.max) := by
          have e : IntKind.i64.max = 9223372036854775807 := by decide
          rw [e]; omega
        simp only [binOp, Op.stringOp, if_neg this]
        rfl
      · cases h
    · cases h; exact ⟨_, rfl, .sr (.bool _)⟩
    · cases h; exact ⟨_, rfl, .sr (.bool _)⟩
    · cases h
  · cases h

theorem run_equalIn_nilS {t e : TypeId} (ht : P.underlying t = some (.slice e)) {n c n' c' : Nat} (b : Option Addr) (k : Nat) (w : World) : (Op.equalIn (k + 1) t (.slice none n c) (.slice b n' c')).run P w = .ok b.isNone w := by
  simp only [Op.equalIn, Sem.run_bind, run_underlying ht, Result.andThen_ok, Sem.run_pure]
theorem run_equalIn_Snil {t e : TypeId} (ht : P.underlying t = some (.slice e)) {n c n' c' : Nat} (a : Addr) (k : Nat) (w : World) : (Op.equalIn (k + 1) t (.slice (some a) n c) (.slice none n' c')).run P w = .ok false w := by
  simp only [Op.equalIn, Sem.run_bind, run_underlying ht, Result.andThen_ok, Sem.run_pure]
theorem run_equal_nilS {t e : TypeId} (ht : P.underlying t = some (.slice e)) {n c n' c' : Nat} (b : Option Addr) (w : World) : (Op.equal t (.slice none n c) (.slice b n' c')).run P w = .ok b.isNone w := run_equalIn_nilS ht b 9999 w
theorem run_equal_Snil {t e : TypeId} (ht : P.underlying t = some (.slice e)) {n c n' c' : Nat} (a : Addr) (w : World) : (Op.equal t (.slice (some a) n c) (.slice none n' c')).run P w = .ok false w := run_equalIn_Snil ht a 9999 w

theorem eqc_sim {G : Gh} {t : TypeId} {d : TypeDesc} (ht : P.underlying t = some d) {x y x' y' : Value} (hx : VR G x x') (hy : VR G y y') {r : Bool} (h : eqc d x y = some r) (k : Nat) (w : World) :
    (Op.equalIn (k + 1) t x' y').run P w = .ok r w := by
  unfold eqc at h
  split at h
  · cases h
    obtain rfl := hx.boolS
    obtain rfl := hy.boolS
    simp only [Op.equalIn, Sem.run_bind, run_underlying ht, Result.andThen_ok, Sem.run_pure]
  · split at h
    · rename_i hk
      cases h
      subst hk
      obtain rfl := hx.intS
      obtain rfl := hy.intS
      simp [Op.equalIn, run_underlying ht]
    · cases h
  · cases h
    obtain rfl := hx.strS
    obtain rfl := hy.strS
    simp only [Op.equalIn, Sem.run_bind, run_underlying ht, Result.andThen_ok, Sem.run_pure, beq_toListBytes]
  · cases h

theorem flat_part {t : TypeId} {ti : TI} (ht : tab P t = some ti) (ha : ti.agg = false) {G : Gh} {cs cs' : Array Value} (hc : All2 (CR G) cs.toList cs'.toList) {off : Nat} {x : Value} (hx : cs.toList[off]? = some x) (w : World) :
    ∃ x', (part t cs' off).run P w = .ok x' w ∧ VR G x x' := by
  obtain ⟨i, z, i1, i2, _, _, _, _, i7⟩ := tab_some ht
  have hag := run_isAgg (P := P) i2 w
  rw [← i7, ha] at hag
  obtain ⟨x', h1, h2⟩ := hc.get hx
  rw [Array.getElem?_toList] at h1
  exact ⟨x', by simp [part, hag, h1], .p (.c h2)⟩

theorem eqFs_sim {G : Gh} {xs ys xs' ys' : Array Value} (hx : All2 (CR G) xs.toList xs'.toList) (hy : All2 (CR G) ys.toList ys'.toList) (k : Nat) (w : World) :
    ∀ (l : List Field) (fs : List (Nat × TypeDesc)) (r : Bool), flatFs (tab P) l = some fs → eqFs xs.toList ys.toList fs = some r → (Op.eqFields (k + 1) xs' ys' l).run P w = .ok r w
  | [], fs, r, h1, h2 => by cases h1; cases h2; simp [Op.eqFields]
  | f :: l, fs, r, h1, h2 => by
    unfold flatFs at h1
    split at h1
    · cases h1
    · rename_i hn
      simp only [Option.bind_eq_some_iff] at h1
      obtain ⟨ti, ht, h1⟩ := h1
      split at h1
      · rename_i hfl
        simp only [Option.bind_eq_some_iff, Option.some.injEq] at h1
        obtain ⟨fs', hf, rfl⟩ := h1
        unfold eqFs at h2
        simp only [Option.bind_eq_some_iff, Option.some.injEq] at h2
        obtain ⟨x, hx1, y, hy1, r1, hr1, r2, hr2, rfl⟩ := h2
        simp only [Bool.and_eq_true, Bool.not_eq_true'] at hfl
        obtain ⟨x', a1, a2⟩ := flat_part (P := P) ht hfl.2 hx hx1 w
        obtain ⟨y', b1, b2⟩ := flat_part (P := P) ht hfl.2 hy hy1 w
        obtain ⟨i, z, _, i2, _⟩ := tab_some ht
        have he := eqc_sim (P := P) i2 a2 b2 hr1 k w
        have ih := eqFs_sim hx hy k w l fs' r2 hf hr2
        simp only [Op.eqFields, if_pos (show f.name ≠ "_" from hn), Sem.run_bind, a1, b1, he, Result.andThen_ok]
        cases r1
        · simp
        · simpa using ih
      · cases h1

theorem eqFields_some {t : TypeId} {fs : List (Nat × TypeDesc)} (h : eqFields P t = some fs) : ∃ l, P.underlying t = some (.struct l) ∧ P.eqGuardType P.depth t = false ∧ P.stoodInHeld t = false ∧ flatFs (tab P) l.toList = some fs := by
  unfold eqFields at h
  simp only [Option.bind_eq_some_iff] at h
  obtain ⟨ti, ht, h⟩ := h
  obtain ⟨i, z, _, i2, _⟩ := tab_some ht
  split at h
  · rename_i l hd
    split at h
    · rename_i hc; exact ⟨l, by rw [i2, hd], hc.1, hc.2, h⟩
    · cases h
  · cases h

theorem aggEq_sim {G : Gh} {t : TypeId} {fs : List (Nat × TypeDesc)} (h : eqFields P t = some fs) {x y x' y' : Value} (hx : VR G x x') (hy : VR G y y') {r : Bool} (hr : aggEq fs x y = some r) (w : World) :
    (Op.equal t x' y').run P w = .ok r w := by
  obtain ⟨l, hu, _, hs, hf⟩ := eqFields_some h
  unfold aggEq at hr
  split at hr
  · rename_i xs ys
    obtain ⟨xs', rfl, hx'⟩ := hx.aggS
    obtain ⟨ys', rfl, hy'⟩ := hy.aggS
    show (Op.equalIn (9999 + 1) t (.agg xs') (.agg ys')).run P w = _
    have hfo : P.fieldsOf t = l := by simp [Program.fieldsOf, hu]
    rw [run_equalIn_struct w 9999 t xs' ys' (by rw [hfo]; exact hu) hs, hfo]
    exact eqFs_sim hx' hy' 9998 w l.toList fs r hf hr
  · cases hr

theorem eqV_sim {G : Gh} {op : BinOp} {r : Option Bool} {v : Value} (h : eqV op r = some v) {t : TypeId} {x' y' : Value} {w : World} (hop : ∀ b, r = some b → (Op.equal t x' y').run P w = .ok b w)
    (hb : ∀ op, isEq op = true → binOp op t x' y' = (match op with | .eql => (do pure (.bool (← Op.equal t x' y'))) | _ => (do pure (.bool (!(← Op.equal t x' y')))) : Sem Value)) (ox oy : Operand) (hg : (eqGuard op t ox oy x' y').run P w = .ok () w) :
    ∃ v', (do eqGuard op t ox oy x' y'; binOp op t x' y').run P w = .ok v' w ∧ VR G v v' := by
  unfold eqV at h
  split at h
  · simp only [Option.bind_eq_some_iff, Option.some.injEq] at h
    obtain ⟨b, rfl, rfl⟩ := h
    refine ⟨.bool b, ?_, .sr (.bool _)⟩
    rw [Sem.run_bind, hg, Result.andThen_ok, hb _ rfl]
    simp [hop b rfl]
  · simp only [Option.bind_eq_some_iff, Option.some.injEq] at h
    obtain ⟨b, rfl, rfl⟩ := h
    refine ⟨.bool !b, ?_, .sr (.bool _)⟩
    rw [Sem.run_bind, hg, Result.andThen_ok, hb _ rfl]
    simp [hop b rfl]
  · cases h

theorem binK_sim {G : Gh} {op : BinOp} {ty : TypeId} {x y x' y' v : Value} (hx : VR G x x') (hy : VR G y y') (h : binK (kindOf P op ty) op x y = some v) (ox oy : Operand) (w : World) :
    ∃ v', (do eqGuard op ty ox oy x' y'; binOp op ty x' y').run P w = .ok v' w ∧ VR G v v' := by
  generalize hk : kindOf P op ty = k at h
  unfold binK at h
  split at h
  · exact bin_sim hx hy h ty ox oy w
  · -- bool
    unfold kindOf at hk
    split at hk <;> try (first | cases hk | (split at hk <;> cases hk))
    · rename_i hd hop
      have hu := dsc_und hd
      unfold boolEq at h
      split at h
      · rename_i a b
        obtain rfl := hx.boolS
        obtain rfl := hy.boolS
        exact eqV_sim h (fun r hr => by cases hr; exact eqc_sim (P := P) (G := G) hu (.sr (.bool a)) (.sr (.bool b)) rfl 9999 w) (by intro op hop; cases op <;> first | exact absurd hop (by decide) | rfl) ox oy (by cases op <;> simp [eqGuard])
      · unfold eqV at h; split at h <;> cases h
    · rename_i hd hop
      split at hk
      · split at hk <;> exact BK.noConfusion hk
      · exact BK.noConfusion hk
  · -- slice
    unfold kindOf at hk
    split at hk <;> try (first | cases hk | (split at hk <;> cases hk))
    · rename_i e hd hop
      have hu := dsc_und hd
      have hx' : ∃ a n c, x = .slice a n c ∧ ∃ a' n' c', x' = .slice a' n' c' ∧ a'.isNone = a.isNone := by
        unfold slNil at h
        split at h
        · obtain ⟨_, _, h3⟩ := hx.nilS; exact ⟨_, _, _, rfl, _, _, _, h3, rfl⟩
        · rename_i a n c _ _
          obtain ⟨b, o, sp⟩ := a
          cases sp with
          | none => obtain ⟨g, c', _, h3, _⟩ := hx.slS; exact ⟨_, _, _, rfl, _, _, _, h3, rfl⟩
          | some q => obtain ⟨_, a', c', h3⟩ := hx.empS; exact ⟨_, _, _, rfl, _, _, _, h3, rfl⟩
        · unfold eqV at h; split at h <;> cases h
      have hy' : ∃ a n c, y = .slice a n c ∧ ∃ a' n' c', y' = .slice a' n' c' ∧ a'.isNone = a.isNone := by
        unfold slNil at h
        split at h
        · rename_i b n c
          cases b with
          | none => obtain ⟨_, _, h3⟩ := hy.nilS; exact ⟨_, _, _, rfl, _, _, _, h3, rfl⟩
          | some a =>
            obtain ⟨b, o, sp⟩ := a
            cases sp with
            | none => obtain ⟨g, c', _, h3, _⟩ := hy.slS; exact ⟨_, _, _, rfl, _, _, _, h3, rfl⟩
            | some q => obtain ⟨_, a', c', h3⟩ := hy.empS; exact ⟨_, _, _, rfl, _, _, _, h3, rfl⟩
        · obtain ⟨_, _, h3⟩ := hy.nilS; exact ⟨_, _, _, rfl, _, _, _, h3, rfl⟩
        · unfold eqV at h; split at h <;> cases h
      obtain ⟨a, n, c, rfl, a', n', c', rfl, ha⟩ := hx'
      obtain ⟨b, m, d, rfl, b', m', d', rfl, hb⟩ := hy'
      refine eqV_sim h (fun r hr => ?_) (by intro op hop; cases op <;> first | exact absurd hop (by decide) | rfl) ox oy (by cases op <;> simp [eqGuard])
      unfold slNil at hr
      split at hr
      · rename_i h1 h2
        cases h1; cases h2
        cases hr
        cases a' with
        | some _ => cases ha
        | none => rw [run_equal_nilS hu, hb]
      · rename_i h1 h2
        cases h1; cases h2
        cases hr
        cases b' with
        | some _ => cases hb
        | none => cases a' with
          | none => cases ha
          | some a' => exact run_equal_Snil hu a' w
      · cases hr
    · rename_i hd hop
      split at hk
      · split at hk <;> exact BK.noConfusion hk
      · exact BK.noConfusion hk
  · -- struct
    rename_i fs
    unfold kindOf at hk
    split at hk <;> try (first | cases hk | (split at hk <;> cases hk))
    rename_i fl hd
    split at hk
    · split at hk
      · rename_i fs' he
        cases hk
        obtain ⟨l, hu, hgt, _, _⟩ := eqFields_some he
        have hxy : (∃ xs, x' = .agg xs) ∧ ∃ ys, y' = .agg ys := by
          unfold aggEq at h
          split at h
          · obtain ⟨xs', h1, _⟩ := hx.aggS
            obtain ⟨ys', h2, _⟩ := hy.aggS
            exact ⟨⟨_, h1⟩, _, h2⟩
          · unfold eqV at h; split at h <;> cases h
        refine eqV_sim h (fun r hr => aggEq_sim he hx hy hr w) ?_ ox oy ?_
        · obtain ⟨⟨xs, rfl⟩, ys, rfl⟩ := hxy
          intro op hop; cases op <;> first | exact absurd hop (by decide) | rfl
        · obtain ⟨⟨xs, rfl⟩, ys, rfl⟩ := hxy
          cases op <;> simp [eqGuard, hgt]
      · cases hk
    · cases hk
  · cases h

end Go.Proofs.Ytdnokdgkccnbnaa.Ax
