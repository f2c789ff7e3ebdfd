/- One operation of the abstract machine, and the model's: new rows, append, conversions. -/
import Derived.Test.YtdnokdgkccnbnaaAx5
import Derived.Laws.Tables
import Derived.IntWalk
set_option linter.unusedSimpArgs false
set_option linter.unusedVariables false
namespace Go.Proofs.Ytdnokdgkccnbnaa.Ax
open Go
variable {P : Program}

/-! ### Cells of a new row -/
theorem flat_get (z : List Value) (k : Nat) (hk : z.length = k) : ∀ (n i : Nat), i < n * k → (List.replicate n z).flatten[i]? = z[i % k]? := by
  intro n
  induction n with
  | zero => intro i h; omega
  | succ n ih =>
    intro i h
    rw [List.replicate_succ, List.flatten_cons]
    by_cases hi : i < k
    · rw [List.getElem?_append_left (by omega), Nat.mod_eq_of_lt hi]
    · rw [List.getElem?_append_right (by omega), hk, ih (i - k) (by rw [Nat.succ_mul] at h; omega), ← Nat.mod_eq_sub_mod (by omega)]
theorem flat_length (z : List Value) (n : Nat) : (List.replicate n z).flatten.length = n * z.length := by
  induction n with
  | zero => simp
  | succ n ih => rw [List.replicate_succ, List.flatten_cons, List.length_append, ih, Nat.succ_mul]; omega
theorem range_flat (z : Array Value) (n k : Nat) (hk : z.size = k) : ((Array.range (n * k)).map (fun i => z[i % k]!)).toList = (List.replicate n z.toList).flatten := by
  apply List.ext_getElem?
  intro i
  by_cases hi : i < n * k
  · rw [flat_get _ k (by simpa using hk) n i hi]
    have h0 : 0 < k := by
      rcases Nat.eq_zero_or_pos k with h | h
      · subst h; omega
      · exact h
    have hm : i % k < z.size := by rw [hk]; exact Nat.mod_lt _ h0
    simp [hi, hm]
  · rw [List.getElem?_eq_none (by simp; omega), List.getElem?_eq_none (by rw [flat_length]; simp; rw [hk]; omega)]

theorem CellsOk.new {G : Gh} {cs cs' room : List Value} (h : All2 (CR G) cs cs') : CellsOk G cs 0 ⟨cs' ++ room⟩ := by
  have hl := h.length
  refine ⟨?_, ?_⟩
  · show 0 + cs.length ≤ (cs' ++ room).length
    simp; omega
  · show All2 (CR G) cs (((cs' ++ room).drop 0).take cs.length)
    rw [List.drop_zero, List.take_append_of_le_length (by omega), List.take_of_length_le (by omega)]
    exact h

/-- A new row of ours. -/
theorem Post.row {G : Gh} {H : Hp} {w w' : World} (h : HR G H w) {id : Nat} (hid : G id = none) {cs cs' room : List Value} (hc : All2 (CR G) cs cs') (e : Nat) (ty : TypeId) (fr : Nat × Nat) (hf : free fr (cs' ++ room).length)
    (hh : w'.heap = w.heap.push (.cells ⟨cs' ++ room⟩ ty fr)) (ho : w'.os = w.os) (ht : w'.tape = w.tape) (hp : w'.output = w.output) :
    Post (· = id) G H w (G.set id ⟨w.heap.size, 0, (cs' ++ room).length, e, true⟩) (H.set id (some (.row cs e true))) w' := by
  refine Post.alloc h hid _ _ _ rfl rfl hh ho ht hp ?_
  show RowOk _ _ cs e true _
  exact ⟨⟨_, _, _, rfl, CellsOk.new (hc.mono fun _ _ => CR.mono (GLe.set _ hid)), fun _ => ⟨rfl, rfl, hf⟩⟩, rfl, fun _ => rfl⟩

theorem alloc_sim {G : Gh} {H : Hp} {w : World} (hH : HR G H w) {id : Nat} (hid : G id = none) {ty : TypeId} {ti : TI} (ht : tab P ty = some ti) (hz : ti.zero.all gnd1 = true) :
    ∃ v' w' G', (Instr.alloc ty true (.tuple #[])).run P w = .ok v' w' ∧ VR G' (ptr id 0) v' ∧ Post (· = id) G H w G' (H.set id (some (.row ti.zero 0 true))) w' := by
  obtain ⟨i, z, h1, h2, h3, h4, h5, h6, h7⟩ := tab_some ht
  have hp := Post.row (w' := { w with heap := w.heap.push (.cells ⟨ti.zero ++ []⟩ ty) }) hH hid (gnds_cr (G := G) hz) (room := []) 0 ty (0, 0) (.inl rfl) rfl rfl rfl rfl
  refine ⟨.pointer (some ⟨w.heap.size, 0, none⟩), _, _, ?_, ?_, hp⟩
  · simp only [Instr.alloc, Sem.run_bind, run_zeroValue h1 h3, Result.andThen_ok, newVar, newRow, run_newObj, Sem.run_pure]
    rw [List.append_nil, h6]
  · exact .sr (.ptr (i := id) (o := 0) (Gh.set_same _ _ _))

theorem box_sim {G : Gh} {H : Hp} {w : World} (hH : HR G H w) {id : Nat} (hid : G id = none) (ty : TypeId) {v v' : Value} (hv : VR G v v') {cs : List Value} (hc : vcells v = some cs) :
    ∃ u w' G', (Instr.box ty v').run P w = .ok u w' ∧ VR G' (ptr id 0) u ∧ Post (· = id) G H w G' (H.set id (some (.row cs 0 true))) w' := by
  obtain ⟨cs', h1, h2⟩ := vcells_cr hv hc
  have hp := Post.row (w' := { w with heap := w.heap.push (.cells ⟨cs' ++ []⟩ ty) }) hH hid h2 (room := []) 0 ty (0, 0) (.inl rfl) rfl rfl rfl rfl
  refine ⟨.pointer (some ⟨w.heap.size, 0, none⟩), _, _, ?_, ?_, hp⟩
  · simp only [Instr.box, Sem.run_bind, newVar, newRow, run_newObj, Result.andThen_ok, Sem.run_pure, h1]
    rw [List.append_nil]
  · exact .sr (.ptr (i := id) (o := 0) (Gh.set_same _ _ _))

/-! ### Parts put into cells -/
theorem foldl_setR (off : Nat) : ∀ (l : List Value) (j : Nat) (cs : Array Value), (l.zipIdx j).foldl (fun cs (p : Value × Nat) => cs.setIfInBounds (off + p.2) p.1) cs = setR cs (off + j) l := by
  intro l
  induction l with
  | nil => intros; rfl
  | cons v r ih => intro j cs; rw [List.zipIdx_cons, List.foldl_cons, ih]; rfl
theorem fold_setR (off : Nat) (v cs : Array Value) : v.zipIdx.foldl (fun cs (p : Value × Nat) => cs.setIfInBounds (off + p.2) p.1) cs = setR cs off v.toList := by
  rw [← Array.foldl_toList, Array.toList_zipIdx]
  exact foldl_setR off v.toList 0 cs

/-- The parts, as both sides have them. -/
inductive Parts (G : Gh) (place : Nat → Option (Nat × Nat)) : List (Nat × Nat × Value) → List (Nat × Value) → Prop
  | nil : Parts G place [] []
  | cons {off sz i : Nat} {v v' : Value} {l : List (Nat × Nat × Value)} {m : List (Nat × Value)} : place i = some (off, sz) → VR G v v' → Parts G place l m → Parts G place ((off, sz, v) :: l) ((i, v') :: m)

theorem fill_sim {G : Gh} {place : Nat → Option (Nat × Nat)} {ps : List (Nat × Nat × Value)} {qs : List (Nat × Value)} (h : Parts G place ps qs) :
    ∀ {cells : List Value} {cells' : Array Value} {cs : List Value}, All2 (CR G) cells cells'.toList → fill cells ps = some cs → ∃ cs' : Array Value, Instr.fill place cells' qs = some cs' ∧ All2 (CR G) cs cs'.toList := by
  induction h with
  | nil => intro cells cells' cs hc hf; cases hf; exact ⟨cells', rfl, hc⟩
  | @cons off sz i v v' l m hpl hv _ ih =>
    intro cells cells' cs hc hf
    unfold fill at hf
    simp only [Option.bind_eq_some_iff] at hf
    obtain ⟨vs, hvs, hf⟩ := hf
    split at hf
    · rename_i hle
      obtain ⟨vs', hv', hcr⟩ := vcells_cr hv hvs
      have l1 := hcr.length
      have l2 := hc.length
      have hk : CellsOk G cells 0 cells' := ⟨by simp at l2; omega, by rw [List.drop_zero, List.take_of_length_le (by omega)]; exact hc⟩
      have hk2 := hk.set (o := off) hcr (by omega)
      have hset : All2 (CR G) (setAt cells off vs) (setR cells' off vs').toList := by
        have := hk2.2
        rw [List.drop_zero, List.take_of_length_le] at this
        · exact this
        · rw [setAt_length _ _ _ (by omega)]; simp [setR_size]; simp at l2; omega
      obtain ⟨cs', h1, h2⟩ := ih hset hf
      refine ⟨cs', ?_, h2⟩
      unfold Instr.fill
      rw [hpl]
      simp only [hv']
      rw [if_neg]
      · rw [fold_setR]; exact h1
      · have e1 : (⟨vs'⟩ : Array Value).size = vs'.length := rfl
        have e2 : cells.length = cells'.size := by rw [l2, Array.length_toList]
        simp only [e1, ne_eq, Bool.or_eq_true, decide_eq_true_eq]
        omega
    · cases hf

theorem fieldAt_some {s : TypeId} {f : Nat} {p : Nat × TI} (h : fieldAt P s f = some p) : ∃ fs fd, P.underlying s = some (.struct fs) ∧ fs[f]? = some fd ∧ p.1 = fd.offset ∧ tab P fd.type = some p.2 ∧ p.2.size ≠ 0 := by
  unfold fieldAt at h
  simp only [Option.bind_eq_some_iff] at h
  obtain ⟨ti, ht, h⟩ := h
  split at h
  · rename_i fs hd
    simp only [Option.bind_eq_some_iff] at h
    obtain ⟨fd, hfd, tf, htf, h⟩ := h
    split at h
    · cases h
    · cases h
      obtain ⟨i, z, _, h2, _⟩ := tab_some ht
      exact ⟨fs, fd, by rw [h2, hd], by rw [← Array.getElem?_toList]; exact hfd, rfl, htf, by assumption⟩
  · cases h

theorem elemT_some {t : TypeId} {te : TI} (h : elemT P t = some te) : ∃ e, P.underlying t = some (.slice e) ∧ tab P e = some te := by
  unfold elemT at h
  simp only [Option.bind_eq_some_iff] at h
  obtain ⟨ti, ht, h⟩ := h
  split at h
  · rename_i e hd
    obtain ⟨i, z, _, h2, _⟩ := tab_some ht
    exact ⟨e, by rw [h2, hd], h⟩
  · cases h

theorem places_get : ∀ (l : List Field), (l.all fun f => (tab P f.type).isSome) = true → ∃ r, l.mapM (fun (f : Field) => (P.info? f.type).map fun i => (f.offset, i.size)) = some r ∧ ∀ (i : Nat) (f : Field) (ti : TI), l[i]? = some f → tab P f.type = some ti → r[i]? = some (f.offset, ti.size) := by
  intro l
  induction l with
  | nil => intro _; exact ⟨[], rfl, by simp⟩
  | cons f l ih =>
    intro h
    simp only [List.all_cons, Bool.and_eq_true] at h
    obtain ⟨r, hr, hg⟩ := ih h.2
    obtain ⟨tf, htf⟩ := Option.isSome_iff_exists.1 h.1
    obtain ⟨i, z, h1, _, _, h4, _⟩ := tab_some htf
    refine ⟨(f.offset, i.size) :: r, ?_, ?_⟩
    · simp only [List.mapM_cons, h1, Option.map_some, hr]; rfl
    · intro k g tg hk htg
      cases k with
      | zero =>
        simp only [List.getElem?_cons_zero, Option.some.injEq] at hk
        subst hk
        rw [htf] at htg; cases htg
        simp [h4]
      | succ k => simp only [List.getElem?_cons_succ] at hk ⊢; exact hg k g tg hk htg

theorem places_parts {G : Gh} {ty : TypeId} {fs : Array Field} (hu : P.underlying ty = some (.struct fs)) {f : Operand → Value} {ρ : Operand → Value} {r : List (Nat × Nat)}
    (hr : ∀ (i : Nat) (f : Field) (ti : TI), fs.toList[i]? = some f → tab P f.type = some ti → r[i]? = some (f.offset, ti.size)) : ∀ (l : List (Nat × Operand)) (ps : List (Nat × Nat × Value)), (∀ x ∈ l, VR G (f x.2) (ρ x.2)) → places P ty f l = some ps →
    Parts G (fun i => r[i]?) ps (l.map fun p => (p.1, ρ p.2)) := by
  intro l
  induction l with
  | nil => intro ps _ h; cases h; exact .nil
  | cons p l ih =>
    intro ps hv h
    obtain ⟨i, x⟩ := p
    unfold places at h
    simp only [Option.bind_eq_some_iff, Option.some.injEq] at h
    obtain ⟨q, hq, ps', hps, rfl⟩ := h
    obtain ⟨fs', fd, h1, h2, h3, h4, h5⟩ := fieldAt_some hq
    rw [hu] at h1; cases h1
    refine .cons ?_ (hv (i, x) (List.mem_cons_self ..)) (ih ps' (fun y hy => hv y (List.mem_cons_of_mem _ hy)) hps)
    rw [h3]; exact hr i fd q.2 (by rw [Array.getElem?_toList]; exact h2) h4

theorem build_sim {G : Gh} {w : World} {ty : TypeId} {ti : TI} (ht : tab P ty = some ti) (hs : isStruct P ty = true) (hz : ti.zero.all gnd1 = true) {f ρ : Operand → Value} {parts : Array (Nat × Operand)}
    (hv : ∀ x ∈ parts.toList, VR G (f x.2) (ρ x.2)) {ps : List (Nat × Nat × Value)} (hp : places P ty f parts.toList = some ps) {v : Value} (hb : bld ti.zero ps = some v) :
    ∃ v', (Instr.build ty (parts.map fun (i, x) => (i, ρ x))).run P w = .ok v' w ∧ VR G v v' := by
  obtain ⟨i, z, h1, h2, h3, h4, h5, h6, h7⟩ := tab_some ht
  unfold isStruct dsc at hs
  rw [ht] at hs
  simp only [Option.map_some] at hs
  cases hd : ti.desc <;> rw [hd] at hs h2 <;> try (simp at hs; done)
  rename_i fs
  obtain ⟨r, hr, hg⟩ := places_get fs.toList hs
  unfold bld at hb
  simp only [Option.bind_eq_some_iff, Option.some.injEq] at hb
  obtain ⟨cs, hcs, rfl⟩ := hb
  have hparts := places_parts (G := G) h2 hg parts.toList ps hv hp
  obtain ⟨cs', e1, e2⟩ := fill_sim hparts (cells' := z.cells) (by rw [← h6]; exact gnds_cr hz) hcs
  refine ⟨.agg cs', run_build w ty _ cs' ?_, .p (.agg (by simpa using e2))⟩
  unfold Program.built
  rw [h1, h2]
  simp only [h3, hr]
  rw [show (parts.map fun x => (x.1, ρ x.2)).toList = parts.toList.map fun p => (p.1, ρ p.2) from by simp]
  simpa using e1

theorem elems_parts {G : Gh} (sz : Nat) {f ρ : Operand → Value} : ∀ (l : List (Nat × Operand)), (∀ x ∈ l, VR G (f x.2) (ρ x.2)) → Parts G (fun i => some (i * sz, sz)) (elems sz f l) (l.map fun p => (p.1, ρ p.2)) := by
  intro l
  induction l with
  | nil => intro _; exact .nil
  | cons p l ih =>
    intro hv
    obtain ⟨i, x⟩ := p
    exact .cons rfl (hv (i, x) (List.mem_cons_self ..)) (ih fun y hy => hv y (List.mem_cons_of_mem _ hy))

theorem gnds_flat {G : Gh} {z : List Value} (hz : z.all gnd1 = true) (n : Nat) : All2 (CR G) (List.replicate n z).flatten (List.replicate n z).flatten := by
  refine All2.refl_of fun x hx => ?_
  simp only [List.mem_flatten, List.mem_replicate] at hx
  obtain ⟨l, ⟨_, rfl⟩, hx⟩ := hx
  exact .s (gnd1_sr (List.all_eq_true.1 hz x hx))

theorem VR.sl_new {G : Gh} {id : Nat} {g : GI} (hg : G id = some g) (hs : g.sh = 0) (n c' : Nat) (hn : n ≤ c') (hc : c' * g.esz ≤ g.tot) : VR G (Ax.sl id 0 n) (.slice (some ⟨g.blk, 0, none⟩) n c') := by
  have := SR.sl (i := id) (o := 0) (c := 0) hg hn fun _ _ => hc
  rw [hs] at this
  exact .sr this

theorem bsl_sim {G : Gh} {H H' : Hp} {w : World} (hH : HR G H w) {id : Nat} (hid : G id = none) {ty : TypeId} {te : TI} (ht : elemT P ty = some te) (hz : te.zero.all gnd1 = true) {f ρ : Operand → Value} {n : Nat} {parts : Array (Nat × Operand)}
    (hv : ∀ x ∈ parts.toList, VR G (f x.2) (ρ x.2)) {v : Value} (h : bsl id te.size n te.zero (elems te.size f parts.toList) H = some (v, H')) :
    ∃ v' w' G', (Instr.buildSlice ty n (parts.map fun (i, x) => (i, ρ x))).run P w = .ok v' w' ∧ VR G' v v' ∧ Post (· = id) G H w G' H' w' := by
  obtain ⟨e, hu, hte⟩ := elemT_some ht
  obtain ⟨i, z, h1, h2, h3, h4, h5, h6, h7⟩ := tab_some hte
  unfold bsl at h
  split at h
  · rename_i hb
    obtain ⟨hb1, hb2⟩ := hb
    simp only [Option.bind_eq_some_iff, Option.some.injEq, Prod.mk.injEq] at h
    obtain ⟨cs, hcs, rfl, rfl⟩ := h
    have hzs : z.cells.size = te.size := by rw [← hb2, h6]; simp
    have hzero : ∀ (zz : Array Value), (n * te.size = 0 ∧ zz = #[]) ∨ (n * te.size ≠ 0 ∧ zz = z.cells) → ((Array.range (n * te.size)).map (fun j => zz[j % zz.size]!)).toList = (List.replicate n te.zero).flatten := by
      rintro zz (⟨h0, rfl⟩ | ⟨h0, rfl⟩)
      · rw [h0]
        apply List.ext_getElem?
        intro j
        rw [List.getElem?_eq_none (by simp), List.getElem?_eq_none (by rw [flat_length, hb2]; omega)]
      · rw [h6, hzs]
        exact range_flat z.cells n te.size hzs
    have go : ∀ zz : Array Value, (n * te.size = 0 ∧ zz = #[]) ∨ (n * te.size ≠ 0 ∧ zz = z.cells) → ∃ cs' : Array Value, Instr.fill (fun i => some (i * te.size, te.size)) ((Array.range (n * te.size)).map (fun j => zz[j % zz.size]!)) (parts.map fun x => (x.1, ρ x.2)).toList = some cs' ∧ All2 (CR G) cs cs'.toList := by
      intro zz hzz
      refine fill_sim (place := fun i => some (i * te.size, te.size)) ?_ (by rw [hzero zz hzz]; exact gnds_flat hz n) hcs
      rw [show (parts.map fun x => (x.1, ρ x.2)).toList = parts.toList.map fun p => (p.1, ρ p.2) from by simp]
      exact elems_parts te.size _ hv
    have fin : ∀ cs' : Array Value, All2 (CR G) cs cs'.toList → cs.length = n * te.size → ∃ w' G', VR G' (Ax.sl id 0 n) (.slice (some ⟨w.heap.size, 0, none⟩) n n) ∧ Post (· = id) G H w G' (H.set id (some (.row cs te.size true))) w' ∧ w' = { w with heap := w.heap.push (.cells cs' e) } := by
      intro cs' hc hl
      have hp := Post.row (w' := { w with heap := w.heap.push (.cells ⟨cs'.toList ++ []⟩ e) }) hH hid hc (room := []) te.size e (0, 0) (.inl rfl) rfl rfl rfl rfl
      refine ⟨_, _, VR.sl_new (Gh.set_same _ _ _) rfl n n (Nat.le_refl _) ?_, hp, ?_⟩
      · show n * te.size ≤ (cs'.toList ++ []).length
        rw [List.append_nil, ← hc.length, hl]; exact Nat.le_refl _
      · rw [List.append_nil]
    have hlen : cs.length = n * te.size := by
      have : ∀ (ps : List (Nat × Nat × Value)) (c0 c1 : List Value), fill c0 ps = some c1 → c1.length = c0.length := by
        intro ps
        induction ps with
        | nil => intro c0 c1 h; cases h; rfl
        | cons p ps ih =>
          intro c0 c1 h
          obtain ⟨off, sz, v⟩ := p
          unfold fill at h
          simp only [Option.bind_eq_some_iff] at h
          obtain ⟨vs, _, h⟩ := h
          split at h
          · rename_i hle
            rw [ih _ _ h, setAt_length _ _ _ (by omega)]
          · cases h
      rw [this _ _ _ hcs, flat_length, hb2]
    by_cases h0 : n * te.size = 0
    · obtain ⟨cs', e1, e2⟩ := go #[] (.inl ⟨h0, rfl⟩)
      obtain ⟨w', G', f1, f2, rfl⟩ := fin cs' e2 hlen
      refine ⟨_, _, G', ?_, f1, f2⟩
      simp only [Instr.buildSlice, Sem.run_bind, run_underlying hu, Result.andThen_ok, run_sizeOf h1, h4]
      rw [if_neg (by omega), if_pos h0]
      simp only [Sem.run_bind, Sem.run_pure, Result.andThen_ok, e1, newRow, run_newObj]
    · obtain ⟨cs', e1, e2⟩ := go z.cells (.inr ⟨h0, rfl⟩)
      obtain ⟨w', G', f1, f2, rfl⟩ := fin cs' e2 hlen
      refine ⟨_, _, G', ?_, f1, f2⟩
      simp only [Instr.buildSlice, Sem.run_bind, run_underlying hu, Result.andThen_ok, run_sizeOf h1, h4]
      rw [if_neg (by omega), if_neg h0]
      simp only [Sem.run_bind, run_zeroValue h1 h3, Sem.run_pure, Result.andThen_ok, e1, newRow, run_newObj]
  · cases h

theorem mks_sim {G : Gh} {H H' : Hp} {w : World} (hH : HR G H w) {id : Nat} (hid : G id = none) {ty : TypeId} {te : TI} (ht : elemT P ty = some te) (hz : te.zero.all gnd1 = true) {l c l' c' : Value} (hl : VR G l l') (hc : VR G c c')
    {v : Value} (h : mks id te.size te.bytes te.zero l c H = some (v, H')) : ∃ v' w' G', (Instr.makeSlice ty l' c').run P w = .ok v' w' ∧ VR G' v v' ∧ Post (· = id) G H w G' H' w' := by
  obtain ⟨e, hu, hte⟩ := elemT_some ht
  obtain ⟨i, z, h1, h2, h3, h4, h5, h6, h7⟩ := tab_some hte
  unfold mks at h
  split at h
  · split at h
    · rename_i a b hb
      obtain ⟨rfl, ha, hby, hab, hzl⟩ := hb
      cases h
      cases hl with
      | p hl => cases hl with
        | c hl => cases hl with
          | s hl => cases hl with
            | int =>
      cases hc with
      | p hc => cases hc with
        | c hc => cases hc with
          | s hc => cases hc with
            | int =>
      have hle : a ≤ 140737488355328 := by
        have : a * 1 ≤ a * (te.bytes : Int) := Int.mul_le_mul_of_nonneg_left (by omega) ha
        omega
      have hw : IntKind.i64.wrap a = a := by
        exact IntWalk.i64_in a (by omega)
      have hbig : ¬ (te.bytes : Int) * a > 2 ^ 48 := by rw [Int.mul_comm]; omega
      have hzs : z.cells.size = te.size := by rw [← hzl, h6]; simp
      have hp := fun (n : Nat) (hn : n = a.toNat) => Post.row (w' := { w with heap := w.heap.push (.cells ⟨(List.replicate n te.zero).flatten ++ []⟩ e) }) hH hid (gnds_flat (G := G) hz n) (room := []) te.size e (0, 0) (.inl rfl) rfl rfl rfl rfl
      have hp := hp a.toNat rfl
      refine ⟨.slice (some ⟨w.heap.size, 0, none⟩) a.toNat a.toNat, _, _, ?_, VR.sl_new (Gh.set_same _ _ _) rfl a.toNat a.toNat (Nat.le_refl _) ?_, hp⟩
      · simp only [Instr.makeSlice, Sem.run_bind, run_underlying hu, Result.andThen_ok, asInt, asIntOf, Sem.run_pure, run_typeInfo h1, h5, hw]
        rw [if_neg (by simp; omega)]
        simp only [Sem.run_bind, run_askRoom, Sem.run_pure, Result.andThen_ok, run_sizeOf h1, h4]
        by_cases h0 : a.toNat * te.size = 0
        · rw [if_pos h0]
          simp only [Sem.run_pure, Result.andThen_ok, newRow, Sem.run_bind, run_newObj]
          congr 1
          have : (Array.range (a.toNat * te.size)).map (fun j => (#[] : Array Value)[j % (#[] : Array Value).size]!) = ⟨(List.replicate a.toNat te.zero).flatten ++ []⟩ := by
            rw [h0]
            have : (List.replicate a.toNat te.zero).flatten = [] := by
              apply List.length_eq_zero_iff.1; rw [flat_length, hzl]; exact h0
            rw [this]; simp
          rw [this]
        · rw [if_neg h0]
          simp only [Sem.run_bind, run_zeroValue h1 h3, Sem.run_pure, Result.andThen_ok, newRow, run_newObj]
          congr 1
          have : (Array.range (a.toNat * te.size)).map (fun j => z.cells[j % z.cells.size]!) = ⟨(List.replicate a.toNat te.zero).flatten ++ []⟩ := by
            apply Array.toList_inj.1
            rw [List.append_nil, h6, ← range_flat z.cells a.toNat te.size hzs, hzs]
          rw [this]
      · show a.toNat * te.size ≤ ((List.replicate a.toNat te.zero).flatten ++ []).length
        rw [List.append_nil, flat_length, hzl]; exact Nat.le_refl _
    · cases h
  · cases h

end Go.Proofs.Ytdnokdgkccnbnaa.Ax
