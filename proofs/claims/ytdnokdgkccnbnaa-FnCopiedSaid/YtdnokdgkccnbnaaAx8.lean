/- One operation of the abstract machine, and the model's: conversions and plain values. -/
import Derived.Test.YtdnokdgkccnbnaaAx7
import Derived.Laws.IdiomStrings
import Derived.Laws.BytesArg
set_option linter.unusedSimpArgs false
set_option linter.unusedVariables false
namespace Go.Proofs.Ytdnokdgkccnbnaa.Ax
open Go
variable {P : Program}

theorem dsc_und {t : TypeId} {d : TypeDesc} (h : dsc P t = some d) : P.underlying t = some d := by
  unfold dsc at h
  simp only [Option.map_eq_some_iff] at h
  obtain ⟨ti, h1, rfl⟩ := h
  obtain ⟨i, z, _, h2, _⟩ := tab_some h1
  exact h2
theorem isU8_und {e : TypeId} (h : isU8 P e = true) : P.underlying e = some (.int .u8) := by
  unfold isU8 at h
  split at h
  · rename_i h1; exact dsc_und h1
  · cases h

theorem unbytes_map : ∀ (cs : List Value) (l : List UInt8), unbytes cs = some l → ∃ ns : List Int, cs = ns.map (Value.int .u8) ∧ l = ns.map fun n => UInt8.ofNat n.toNat
  | [], l, h => by cases h; exact ⟨[], rfl, rfl⟩
  | c :: cs, l, h => by
    unfold unbytes at h
    split at h
    · rename_i heq; cases heq
    · rename_i n r heq
      cases heq
      simp only [Option.bind_eq_some_iff, Option.some.injEq] at h
      obtain ⟨l', h1, rfl⟩ := h
      obtain ⟨ns, rfl, rfl⟩ := unbytes_map _ _ h1
      exact ⟨n :: ns, rfl, rfl⟩
    · cases h

theorem CR.ints {G : Gh} : ∀ (ns : List Int) (cs' : List Value), All2 (CR G) (ns.map (Value.int .u8)) cs' → cs' = ns.map (Value.int .u8)
  | [], cs', h => by cases h; rfl
  | n :: ns, cs', h => by
    obtain ⟨b, m', rfl, h1, h2⟩ := All2.cons_left h
    rw [CR.ints ns m' h2]
    cases h1 with
    | s h => cases h with
      | int => rfl

theorem rowsOf_sim {G : Gh} {H : Hp} {w : World} (hH : HR G H w) {x x' : Value} (hx : VR G x x') {cs : List Value} {l : List UInt8} (h : rowsOf 1 x H = some cs) (hl : unbytes cs = some l) :
    (Conv.bytesToString x').run P w = .ok (.string ⟨⟨l⟩⟩) w := by
  obtain ⟨ns, rfl, rfl⟩ := unbytes_map _ _ hl
  have fin : ∀ (ns : List Int), ns.foldl (fun r n => r.push (UInt8.ofNat n.toNat)) ByteArray.empty = ⟨⟨ns.map fun n => UInt8.ofNat n.toNat⟩⟩ := by
    intro ns
    rw [foldl_push_bytes]
    simp [ByteArray.empty, ByteArray.emptyWithCapacity]
    rfl
  unfold rowsOf at h
  split at h
  · obtain ⟨rfl, rfl, rfl⟩ := hx.nilS
    simp only [Option.some.injEq] at h
    cases ns with
    | nil => rfl
    | cons n ns => cases h
  · obtain ⟨rfl, a', c', rfl⟩ := hx.empS
    simp only [Option.some.injEq] at h
    cases ns with
    | nil => exact run_bytesToString w a' 0 c' [] rfl
    | cons n ns => cases h
  · rename_i i o n c
    split at h
    · rename_i cs0 e rw_ hi
      split at h
      · rename_i hle
        simp only [Option.some.injEq] at h
        obtain ⟨g, c', hg, rfl, h1, h2⟩ := hx.slS
        have hor : RowOk G g cs0 e rw_ w.heap[g.blk]? := hH.obj i _ g hi hg
        obtain ⟨⟨cs', ty', fr, e1, e2, e3⟩, _, _⟩ := hor
        have hs := e2.1
        have hsub := e2.sub o (n * 1) hle
        rw [h] at hsub
        have he := CR.ints _ _ hsub
        have hr := run_cells (P := P) e1 (g.sh + o) (n * 1) (by omega)
        rw [he, Nat.mul_one] at hr
        rw [run_bytesToString w _ n c' ns hr, fin]
      · cases h
    · cases h
  · cases h

theorem run_mark {w : World} {b : Nat} {cs : Array Value} {ty : TypeId} {fr : Nat × Nat} (h : w.heap[b]? = some (.cells cs ty fr)) (o : Nat) (hf : free fr cs.size) :
    ∃ w' fr', (markStringish ⟨b, o, none⟩).run P w = .ok () w' ∧ w'.heap[b]? = some (.cells cs ty fr') ∧ free fr' cs.size ∧ w'.heap.size = w.heap.size ∧ (∀ b', b' ≠ b → w'.heap[b']? = w.heap[b']?) ∧ w'.os = w.os ∧ w'.tape = w.tape ∧ w'.output = w.output := by
  have hs : w.shape? b = some (ty, cs.size) := by unfold World.shape?; rw [h]
  refine ⟨w.freeze ⟨b, cs.size, none⟩ 1, if fr.1 == fr.2 then (cs.size, cs.size + 1) else (min fr.1 cs.size, max fr.2 (cs.size + 1)), ?_, ?_, ?_, ?_, ?_, ?_, ?_, ?_⟩
  · simp [markStringish, hs]
  · obtain ⟨lo, hi⟩ := fr
    show (w.freeze ⟨b, cs.size, none⟩ 1).heap[b]? = _
    simp only [World.freeze, Nat.succ_ne_zero, if_false]
    rw [Array.getElem?_modify, if_pos rfl, h]
    rfl
  · unfold free at hf ⊢
    split
    · exact .inr (Nat.le_refl _)
    · rename_i hne
      rcases hf with hf | hf
      · rw [hf] at hne; simp at hne
      · exact .inr (Nat.le_min.2 ⟨hf, Nat.le_refl _⟩)
  · simp [World.freeze]
  · intro b' hb
    simp only [World.freeze, Nat.succ_ne_zero, if_false]
    rw [Array.getElem?_modify]
    rw [if_neg (Ne.symm hb)]
  · rfl
  · rfl
  · rfl

theorem conv_sim {G : Gh} {H H' : Hp} {w : World} (hH : HR G H w) {id : Nat} (hid : G id = none) {s d : TypeId} {x x' v : Value} (hx : VR G x x') (h : conv (convK P s d) id x H = some (v, H')) :
    ∃ v' w' G', (convert s d x').run P w = .ok v' w' ∧ VR G' v v' ∧ Post (· = id) G H w G' H' w' := by
  generalize hk : convK P s d = ck at h
  unfold conv at h
  split at h
  · -- toInt
    rename_i k _ n
    cases h
    obtain rfl := hx.intS
    unfold convK at hk
    split at hk <;> try (first | cases hk | (split at hk <;> cases hk))
    rename_i k0 _ h1 h2
    have h1 := dsc_und h1
    have h2 := dsc_und h2
    exact ⟨_, w, G, by simp [convert, run_underlying h1, run_underlying h2, Conv.intToInt], .sr (.int _ _), Post.refl hH⟩
  · rename_i _ n
    cases h
    obtain rfl := hx.intS
    unfold convK at hk
    split at hk <;> try (first | cases hk | (split at hk <;> cases hk))
    rename_i k0 h1 h2
    have h1 := dsc_und h1
    have h2 := dsc_und h2
    exact ⟨_, w, G, by simp [convert, run_underlying h1, run_underlying h2, Conv.intToString], .sr (.str _), Post.refl hH⟩
  · rename_i s0
    cases h
    obtain rfl := hx.strS
    unfold convK at hk
    split at hk <;> try (first | cases hk | (split at hk <;> cases hk))
    rename_i h1 h2
    have h1 := dsc_und h1
    have h2 := dsc_und h2
    exact ⟨_, w, G, by simp [convert, run_underlying h1, run_underlying h2], .sr (.str _), Post.refl hH⟩
  · rename_i s0
    cases h
    obtain rfl := hx.strS
    unfold convK at hk
    split at hk <;> try (first | cases hk | (split at hk <;> cases hk))
    rename_i e h1 h2 h3
    have h1 := dsc_und h1
    have h2 := dsc_und h2
    have h3 := isU8_und h3
    have hr := run_bytes_of_string (P := P) w s d e s0 h1 h2 h3
    have hge := grownCap_ge w s0.size 0 e
    generalize grownCap w s0.size 0 e = N at hr hge
    have hbr : bytesRow s0 N = ⟨bytesOf s0 ++ List.replicate (N - s0.size) (Value.int .u8 0)⟩ := by
      apply Array.toList_inj.1
      simp [bytesRow, bytesOf]
    rw [hbr] at hr
    refine ⟨_, _, _, hr, VR.sl_new (g := ⟨w.heap.size, 0, (bytesOf s0 ++ List.replicate (N - s0.size) (Value.int .u8 0)).length, 1, true⟩) (Gh.set_same _ _ _) rfl s0.size N hge ?_, Post.row hH hid (All2.refl_of ?_) 1 e _ (.inr (Nat.le_refl _)) rfl rfl rfl rfl⟩
    · show N * 1 ≤ _
      simp [bytesOf]
      have : s0.data.size = s0.size := rfl
      omega
    · intro x hx
      simp only [bytesOf, List.mem_map] at hx
      obtain ⟨b, _, rfl⟩ := hx
      exact .s (.int _ _)
  · simp only [Option.bind_eq_some_iff, Option.some.injEq, Prod.mk.injEq] at h
    obtain ⟨cs, h1, l, h2, rfl, rfl⟩ := h
    unfold convK at hk
    split at hk <;> try (first | cases hk | (split at hk <;> cases hk))
    rename_i e h3 h4 h5
    have h3 := dsc_und h3
    have h4 := dsc_und h4
    have h5 := isU8_und h5
    have hr := rowsOf_sim (P := P) hH hx h1 h2
    have : ∃ a l c, x' = .slice a l c := by
      unfold rowsOf at h1
      split at h1
      · exact ⟨_, _, _, hx.nilS.2.2⟩
      · obtain ⟨_, a', c', h⟩ := hx.empS; exact ⟨_, _, _, h⟩
      · obtain ⟨g, c', _, h, _⟩ := hx.slS; exact ⟨_, _, _, h⟩
      · cases h1
    obtain ⟨a, l', c, rfl⟩ := this
    exact ⟨_, w, G, by rw [run_convert_bytes_string w s d e a l' c h3 h5 h4]; exact hr, .sr (.str _), Post.refl hH⟩
  · rename_i i o n c
    split at h
    · rename_i cs e hi
      cases h
      obtain ⟨g, c', hg, rfl, h1, h2⟩ := hx.slS
      unfold convK at hk
      split at hk <;> try (first | cases hk | (split at hk <;> cases hk))
      rename_i e1 e2 h3 h4 h5
      obtain ⟨rfl, h5⟩ := h5
      have h4 := dsc_und h4
      have h5 := isU8_und h5
      have hor : RowOk G g cs e true w.heap[g.blk]? := hH.obj i _ g hi hg
      obtain ⟨⟨cs', ty', fr, f1, f2, f3⟩, f4, f5⟩ := hor
      obtain ⟨s0, s1, s2⟩ := f3 rfl
      obtain ⟨w', fr', m1, m2, m3, m4, m5, m6, m7, m8⟩ := run_mark (P := P) f1 (g.sh + o) s2
      refine ⟨.slice (some ⟨g.blk, g.sh + o, none⟩) n c', w', G, ?_, .sr (.sl hg h1 h2), ?_⟩
      · simp [convert, run_underlying h4, run_underlying h5, m1]
      · have hw := Post.write (New := (· = id)) (w' := w') hH hi (o' := .row cs e true) rfl hg rfl m4 m5 m6 m7 m8 (show RowOk G g cs e true _ from ⟨⟨cs', ty', fr', m2, f2, fun _ => ⟨s0, s1, m3⟩⟩, f4, f5⟩)
        have : H.set i (some (.row cs e true)) = H := by
          funext j
          unfold Hp.set
          split
          · rename_i e; rw [e, hi]
          · rfl
        rwa [this] at hw
    · cases h
  · cases h

/-! ### Plain values -/
theorem pick_sim {G : Gh} {c a b c' a' b' v : Value} (hc : VR G c c') (ha : VR G a a') (hb : VR G b b') (h : pickV c a b = some v) (w : World) :
    ∃ v', (do pure (Next.value (if ← asBool c' then a' else b')) : Sem Next).run P w = .ok (.value v') w ∧ VR G v v' := by
  unfold pickV at h
  split at h
  · rename_i b0
    cases h
    obtain rfl := hc.boolS
    cases b0
    · exact ⟨b', by simp [asBool], hb⟩
    · exact ⟨a', by simp [asBool], ha⟩
  · cases h

theorem nilchk_sim {G : Gh} {x x' v : Value} (hx : VR G x x') (h : nilchk x = some v) : ∃ a, x' = .pointer (some a) ∧ VR G v x' := by
  unfold nilchk at h
  split at h
  · cases h
    cases hx with
    | p hx => cases hx with
      | c hx => cases hx with
        | s hx => cases hx with
          | ptr hg => exact ⟨_, rfl, .sr (.ptr hg)⟩
  · cases h

theorem fieldA_sim {G : Gh} {s : TypeId} {f : Nat} {p : Nat × TI} (hp : fieldAt P s f = some p) {x x' v : Value} (hx : VR G x x') (h : fieldA p.1 x = some v) (w : World) :
    ∃ v', (Instr.fieldAt s x' f).run P w = .ok v' w ∧ VR G v v' := by
  obtain ⟨fs, fd, h1, h2, h3, h4, h5⟩ := fieldAt_some hp
  obtain ⟨i, z, i1, _, _, i4, _⟩ := tab_some h4
  unfold fieldA at h
  split at h
  · rename_i j o
    cases h
    obtain ⟨g, hg, rfl⟩ := hx.ptr
    have hne : i.size ≠ 0 := by rw [i4]; exact h5
    refine ⟨.pointer (some ⟨g.blk, g.sh + (o + p.1), none⟩), ?_, .sr (.ptr hg)⟩
    simp [Instr.fieldAt, run_underlying h1, h2, Instr.sureAddr, fieldPlace, run_sizeOf i1, hne, Addr.add, h3, Nat.add_assoc]
  · cases h

theorem All2.extract {G : Gh} {cs cs' : Array Value} (h : All2 (CR G) cs.toList cs'.toList) (o n : Nat) : All2 (CR G) ((cs.toList.drop o).take n) ((cs'.extract o (o + n)).toList) := by
  rw [Array.toList_extract]
  simp only [List.extract]
  rw [Nat.add_sub_cancel_left]
  exact (h.drop o).take n

theorem part_sim {G : Gh} {ty : TypeId} {ti : TI} (ht : tab P ty = some ti) {x x' v : Value} {off : Nat} (hx : VR G x x') (h : partV ti.agg ti.size off x = some v) (w : World) :
    ∃ cs' v', x' = .agg cs' ∧ (part ty cs' off).run P w = .ok v' w ∧ VR G v v' := by
  obtain ⟨i, z, i1, i2, i3, i4, _, _, i7⟩ := tab_some ht
  unfold partV at h
  split at h
  · rename_i cs
    obtain ⟨cs', rfl, hc⟩ := hx.aggS
    have hag := run_isAgg (P := P) i2 w
    rw [← i7] at hag
    cases hagg : ti.agg with
    | true =>
      simp only [hagg, if_true] at h
      split at h
      · cases h
        rw [hagg] at hag
        exact ⟨cs', .agg (cs'.extract off (off + ti.size)), rfl, by simp [part, hag, run_sizeOf i1, i4], .p (.agg (hc.extract off ti.size))⟩
      · cases h
    | false =>
      simp only [hagg, Bool.false_eq_true, if_false] at h
      rw [hagg] at hag
      obtain ⟨v', hv, hr⟩ := hc.get h
      rw [Array.getElem?_toList] at hv
      exact ⟨cs', v', rfl, by simp [part, hag, hv], .p (.c hr)⟩
  · cases h

theorem field_sim {G : Gh} {s : TypeId} {f : Nat} {p : Nat × TI} (hp : fieldAt P s f = some p) {x x' v : Value} (hx : VR G x x') (h : partV p.2.agg p.2.size p.1 x = some v) (w : World) :
    ∃ v', (Instr.field s x' f).run P w = .ok v' w ∧ VR G v v' := by
  obtain ⟨fs, fd, h1, h2, h3, h4, h5⟩ := fieldAt_some hp
  obtain ⟨cs', v', rfl, hr, hv⟩ := part_sim h4 hx h w
  refine ⟨v', ?_, hv⟩
  simp [Instr.field, run_underlying h1, h2, asAgg, ← h3, hr]

theorem idxA_sim {G : Gh} {ty : TypeId} {te : TI} (ht : elemT P ty = some te) {x x' i i' v : Value} (hx : VR G x x') (hi : VR G i i') (h : idxA te.size x i = some v) (w : World) :
    ∃ v', (Instr.indexAt ty x' i').run P w = .ok v' w ∧ VR G v v' := by
  obtain ⟨e, hu, hte⟩ := elemT_some ht
  obtain ⟨ii, z, i1, _, _, i4, _⟩ := tab_some hte
  unfold idxA at h
  split at h
  · rename_i b o n c k j
    split at h
    · rename_i hj
      cases h
      obtain ⟨g, c', hg, rfl, _, _⟩ := hx.slS
      obtain rfl := hi.intS
      refine ⟨.pointer (some ⟨g.blk, g.sh + (o + j.toNat * te.size), none⟩), ?_, .sr (.ptr hg)⟩
      simp [Instr.indexAt, asIntOf, run_underlying hu, run_sizeOf i1, i4, hj.1, hj.2, Addr.add, Nat.add_assoc]
    · cases h
  · cases h

theorem idxS_sim {G : Gh} {ty : TypeId} (hu : P.underlying ty = some .string) {x x' i i' v : Value} (hx : VR G x x') (hi : VR G i i') (h : idxS x i = some v) (w : World) :
    ∃ v', (Instr.index ty x' i').run P w = .ok v' w ∧ VR G v v' := by
  unfold idxS at h
  split at h
  · rename_i s k j
    split at h
    · rename_i hj
      cases h
      obtain rfl := hx.strS
      obtain rfl := hi.intS
      have hlt : j.toNat < s.size := by omega
      refine ⟨.int .u8 (s.data.toList.getD j.toNat 0).toNat, ?_, .sr (.int _ _)⟩
      have hg : s[j.toNat]? = some (s.data.toList.getD j.toNat 0) := by
        rw [getElem?_pos s j.toNat hlt]
        have hl : j.toNat < s.data.toList.length := by simpa using hlt
        rw [List.getD_eq_getElem?_getD, List.getElem?_eq_getElem hl]
        rfl
      simp [Instr.index, asIntOf, run_underlying hu, hj.1, hg]
    · cases h
  · cases h

theorem isStrT_true {t : TypeId} (h : isStrT P t = true) : P.underlying t = some .string := by
  unfold isStrT at h
  split at h
  · rename_i h1; exact dsc_und h1
  · cases h

theorem len_sim {G : Gh} {ty : TypeId} (ht : lenOk P ty = true) {x x' v : Value} (hx : VR G x x') (h : lenV (isStrT P ty) x = some v) (ty3 : TypeId) (w : World) :
    ∃ v', (Builtin.len_ #[ty] ty3 #[x']).run P w = .ok v' w ∧ VR G v v' := by
  generalize hs : isStrT P ty = str at h
  unfold lenV at h
  split at h
  · rename_i a n c
    cases h
    rcases srcOk_desc ht with hd | ⟨e, hu⟩
    · exfalso
      unfold lenOk srcOk at ht
      unfold isStrT at hs
      split at ht
      · rename_i hq; rw [hq] at hs; cases hs
      · rename_i hq; have := dsc_und hq; rw [hd] at this; cases this
      · cases ht
    · refine ⟨.int .i64 n, ?_, .sr (.int _ _)⟩
      cases a with
      | none => obtain ⟨rfl, rfl, rfl⟩ := hx.nilS; simp [Builtin.len_, run_underlying hu, goInt]
      | some a =>
        obtain ⟨b, o, sp⟩ := a
        cases sp with
        | none => obtain ⟨g, c', _, rfl, _⟩ := hx.slS; simp [Builtin.len_, run_underlying hu, goInt]
        | some q => obtain ⟨rfl, a', c', rfl⟩ := hx.empS; simp [Builtin.len_, run_underlying hu, goInt]
  · rename_i s
    cases h
    obtain rfl := hx.strS
    exact ⟨_, by simp [Builtin.len_, run_underlying (isStrT_true hs), goInt], .sr (.int _ _)⟩
  · cases h

theorem ext_sim {G : Gh} {x x' v : Value} {i : Nat} (hx : VR G x x') (h : ext i x = some v) (w : World) : ∃ v', (Instr.extract x' i).run P w = .ok v' w ∧ VR G v v' := by
  unfold ext at h
  split at h
  · rename_i vs
    obtain ⟨vs', rfl, hv⟩ := hx.tupS
    obtain ⟨v', h1, h2⟩ := hv.get h
    rw [Array.getElem?_toList] at h1
    exact ⟨v', by simp [Instr.extract, h1], .p h2⟩
  · cases h

theorem un_sim {G : Gh} {op : UnOp} {x x' v : Value} (hx : VR G x x') (h : un op x = some v) (w : World) : ∃ v', (Op.unary op x').run P w = .ok v' w ∧ VR G v v' := by
  unfold un at h
  split at h
  · cases h; obtain rfl := hx.intS
    exact ⟨_, by simp [Op.unary, Op.intArith], .sr (.int _ _)⟩
  · cases h; obtain rfl := hx.boolS
    exact ⟨_, by simp [Op.unary], .sr (.bool _)⟩
  · cases h

end Go.Proofs.Ytdnokdgkccnbnaa.Ax
