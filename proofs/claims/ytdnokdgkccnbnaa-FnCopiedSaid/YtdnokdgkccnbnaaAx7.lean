/- One operation of the abstract machine, and the model's: append and conversions. -/
import Derived.Test.YtdnokdgkccnbnaaAx6
import Derived.Laws.AppendOwn
set_option linter.unusedSimpArgs false
set_option linter.unusedVariables false
namespace Go.Proofs.Ytdnokdgkccnbnaa.Ax
open Go
variable {P : Program}

theorem VR.nilS {G : Gh} {n c : Nat} {x' : Value} (h : VR G (.slice none n c) x') : n = 0 ∧ c = 0 ∧ x' = .slice none 0 0 := by
  cases h with
  | p h => cases h with
    | c h => cases h with
      | s h => cases h with
        | nils => exact ⟨rfl, rfl, rfl⟩
theorem VR.slS {G : Gh} {i o n c : Nat} {x' : Value} (h : VR G (.slice (some ⟨i, o, none⟩) n c) x') : ∃ g c', G i = some g ∧ x' = .slice (some ⟨g.blk, g.sh + o, none⟩) n c' ∧ n ≤ c' ∧ (g.rw = true → o = 0 → c' * g.esz ≤ g.tot) := by
  cases h with
  | p h => cases h with
    | c h => cases h with
      | s h => cases h with
        | sl h1 h2 h3 => exact ⟨_, _, h1, rfl, h2, h3⟩
theorem VR.empS {G : Gh} {i o q n c : Nat} {x' : Value} (h : VR G (.slice (some ⟨i, o, some q⟩) n c) x') : n = 0 ∧ ∃ a' c', x' = .slice (some a') 0 c' := by
  cases h with
  | p h => cases h with
    | c h => cases h with
      | s h => cases h with
        | emp => exact ⟨rfl, _, _, rfl⟩
theorem VR.strS {G : Gh} {s : ByteArray} {x' : Value} (h : VR G (.string s) x') : x' = .string s := by
  cases h with
  | p h => cases h with
    | c h => cases h with
      | s h => cases h with
        | str => rfl
theorem VR.intS {G : Gh} {k : IntKind} {n : Int} {x' : Value} (h : VR G (.int k n) x') : x' = .int k n := by
  cases h with
  | p h => cases h with
    | c h => cases h with
      | s h => cases h with
        | int => rfl
theorem VR.boolS {G : Gh} {b : Bool} {x' : Value} (h : VR G (.bool b) x') : x' = .bool b := by
  cases h with
  | p h => cases h with
    | c h => cases h with
      | s h => cases h with
        | bool => rfl
theorem VR.aggS {G : Gh} {cs : Array Value} {x' : Value} (h : VR G (.agg cs) x') : ∃ cs' : Array Value, x' = .agg cs' ∧ All2 (CR G) cs.toList cs'.toList := by
  cases h with
  | p h => cases h with
    | c h => exact absurd h.cell (by simp [isCell])
    | agg h => exact ⟨_, rfl, h⟩
theorem VR.mapS {G : Gh} {i : Nat} {x' : Value} (h : VR G (.map (some i)) x') : ∃ g, G i = some g ∧ x' = .map (some g.blk) := by
  cases h with
  | p h => cases h with
    | c h => cases h with
      | s h => cases h with
        | map h => exact ⟨_, h, rfl⟩
theorem VR.tupS {G : Gh} {vs : Array Value} {x' : Value} (h : VR G (.tuple vs) x') : ∃ vs' : Array Value, x' = .tuple vs' ∧ All2 (PR G) vs.toList vs'.toList := by
  cases h with
  | tup h => exact ⟨_, rfl, h⟩
  | p h => cases h with
    | c h => exact absurd h.cell (by simp [isCell])

theorem run_cells {w : World} {b : Nat} {cs : Array Value} {ty : TypeId} {fr : Nat × Nat} (h : w.heap[b]? = some (.cells cs ty fr)) (o n : Nat) (hn : o + n ≤ cs.size) :
    (loadCells ⟨b, o, none⟩ n).run P w = .ok ⟨(cs.toList.drop o).take n⟩ w := by
  have hl : ((cs.toList.drop o).take n).length = n := by simp; omega
  have := run_loadCells_list (P := P) w ⟨b, o, none⟩ ((cs.toList.drop o).take n) (fun j v hv => by rw [Addr.add_mid]; exact range_of h o n j v hv)
  rw [hl] at this
  exact this

theorem extract_all (s : ByteArray) : (s.extract 0 s.size).data.toList = s.data.toList := by
  rw [ByteArray.data_extract]
  show (s.data.extract 0 s.data.size).toList = _
  rw [Array.extract_size]

/-- What is appended. -/
theorem src_sim {G : Gh} {H : Hp} {w : World} (hH : HR G H w) {sz : Nat} {x x' : Value} (hx : VR G x x') {xs : List Value} {m : Nat} (h : src sz x H = some (xs, m)) :
    ∃ xs', (∀ w2 : World, w2.heap = w.heap → (Builtin.lenOf x').run P w2 = .ok m w2 ∧ (Builtin.firstCells sz m x').run P w2 = .ok ⟨xs'⟩ w2) ∧ All2 (CR G) xs xs' ∧ xs.length = m * sz := by
  unfold src at h
  split at h
  · cases h
    obtain ⟨rfl, rfl, rfl⟩ := hx.nilS
    exact ⟨[], fun w2 _ => ⟨rfl, rfl⟩, .nil, by simp⟩
  · cases h
    obtain ⟨rfl, a', c', rfl⟩ := hx.empS
    exact ⟨[], fun w2 _ => ⟨rfl, by simp [Builtin.firstCells, loadCells, loadCellsFrom]⟩, .nil, by simp⟩
  · rename_i i o n c
    split at h
    · rename_i cs e rw_ hi
      split at h
      · rename_i hle
        cases h
        obtain ⟨g, c', hg, rfl, h1, h2⟩ := hx.slS
        have hor : RowOk G g cs e rw_ w.heap[g.blk]? := hH.obj i _ g hi hg
        obtain ⟨⟨cs', ty', fr, e1, e2, e3⟩, _, _⟩ := hor
        have hs := e2.1
        refine ⟨_, fun w2 hw => ⟨rfl, ?_⟩, e2.sub o (m * sz) hle, by simp; omega⟩
        simp only [Builtin.firstCells]
        exact run_cells (by rw [hw]; exact e1) _ _ (by omega)
      · cases h
    · cases h
  · rename_i s
    split at h
    · rename_i hsz
      cases h
      have := hx.strS
      subst this
      refine ⟨s.data.toList.map fun b => .int .u8 b.toNat, fun w2 _ => ⟨rfl, ?_⟩, All2.map fun b _ => .s (.int _ _), ?_⟩
      · simp only [Builtin.firstCells, Sem.run_pure]
        congr 1
        apply Array.toList_inj.1
        rw [Array.toList_map]
        exact congrArg (List.map _) (extract_all s)
      · rw [hsz, List.length_map, Array.length_toList, Nat.mul_one]; rfl
    · cases h
  · cases h

theorem grow_le (L : Nat) : ∀ (r c : Nat), c ≤ L + (L + 768) / 4 + 1 → Builtin.growBy L r c ≤ L + (L + 768) / 4 + 1 := by
  intro r
  induction r with
  | zero => intro c h; exact h
  | succ r ih =>
    intro c h
    unfold Builtin.growBy
    split
    · exact h
    · exact ih _ (by omega)
theorem nextcap_le {need cap : Nat} (h : cap < need) : Builtin.nextslicecap need cap ≤ 2 * need + 1024 := by
  unfold Builtin.nextslicecap
  split
  · omega
  · split
    · omega
    · have := grow_le need 4 cap (by omega); omega

theorem srcOk_desc {ty2 : TypeId} (h : srcOk P ty2 = true) : P.underlying ty2 = some .string ∨ ∃ e, P.underlying ty2 = some (.slice e) := by
  unfold srcOk dsc at h
  cases ht : tab P ty2 with
  | none => rw [ht] at h; cases h
  | some ti =>
    rw [ht] at h
    obtain ⟨i, z, h1, h2, _⟩ := tab_some ht
    simp only [Option.map_some] at h
    rw [h2]
    cases hd : ti.desc <;> rw [hd] at h <;> first | exact .inl rfl | exact .inr ⟨_, rfl⟩ | cases h

/-- Where there is room. -/
theorem run_app_in {w : World} {ty ty2 ty3 e : TypeId} {i : TypeInfo} (hu : P.underlying ty = some (.slice e)) (hi : P.info? e = some i) (h2 : srcOk P ty2 = true) {base : Option Addr} {n m c : Nat} {x' : Value} {xs' : List Value}
    (hlen : (Builtin.lenOf x').run P w = .ok m w) (hf : (Builtin.firstCells i.size m x').run P w = .ok ⟨xs'⟩ w) (hle : n + m ≤ c) {w' : World}
    (hst : ((match base with | some a => storeCells (a.add (n * i.size)) xs' | none => pure ()) : Sem Unit).run P w = .ok () w') :
    (Builtin.append_ #[ty, ty2] ty3 #[.slice base n c, x']).run P w = .ok (.slice base (n + m) c) w' := by
  cases base with
  | none =>
    simp only [Sem.run_pure, Result.ok.injEq, true_and] at hst
    subst hst
    rcases srcOk_desc h2 with hd | ⟨e2, hd⟩ <;> simp [Builtin.append_, run_underlying hu, run_underlying hd, sizeOf, typeInfo, hi, hlen, hle, hf]
  | some a =>
    simp only at hst
    rcases srcOk_desc h2 with hd | ⟨e2, hd⟩ <;> simp [Builtin.append_, run_underlying hu, run_underlying hd, sizeOf, typeInfo, hi, hlen, hle, hf, hst]

/-- Where there is none. -/
theorem run_app_grow {w : World} {ty ty2 ty3 e : TypeId} {i : TypeInfo} {z : Value} (hu : P.underlying ty = some (.slice e)) (hi : P.info? e = some i) (hz : i.zero = some z) (h2 : srcOk P ty2 = true) {base : Option Addr} {n m c : Nat} {x' : Value} {olds xs' : List Value}
    (hlen : (Builtin.lenOf x').run P w = .ok m w) (hf : (Builtin.firstCells i.size m x').run P w.drew = .ok ⟨xs'⟩ w.drew) (hfo : (Builtin.firstCells i.size n (.slice base n c)).run P w.drew = .ok ⟨olds⟩ w.drew)
    (hg : c < n + m) (h63 : ((n + m : Nat) : Int) ≤ 9223372036854775807) (hfit : Builtin.nextslicecap (n + m) c * i.bytes ≤ 281474976710656) :
    (Builtin.append_ #[ty, ty2] ty3 #[.slice base n c, x']).run P w =
      .ok (.slice (some ⟨w.heap.size, 0, none⟩) (n + m) (grownCap w (n + m) c e)) (w.drew.alloc (.cells (olds.toArray ++ xs'.toArray ++ Builtin.zeroCells z.cells (grownCap w (n + m) c e - (n + m))) e)) := by
  have hn : ¬ (n + m ≤ c) := by omega
  have h63' : ¬ (9223372036854775807 < ((n : Int) + (m : Int))) := by omega
  have h48' : ¬ (281474976710656 < Builtin.nextslicecap (n + m) c * i.bytes) := by omega
  rcases srcOk_desc h2 with hd | ⟨e2, hd⟩ <;> simp [Builtin.append_, run_underlying hu, run_underlying hd, sizeOf, typeInfo, zeroValue, hi, hz, hlen, hn, h63', h48', Question.forced, hf, hfo, newRow, grownCap] <;> (congr 2; apply Array.toList_inj.1; simp)

theorem zeroCells_len (z : Array Value) (n : Nat) : (Builtin.zeroCells z n).size = n * z.size := by simp [Builtin.zeroCells]

theorem app_sim {G : Gh} {H H' : Hp} {w : World} (hH : HR G H w) {id : Nat} (hid : G id = none) {ty ty2 ty3 : TypeId} {te : TI} (ht : elemT P ty = some te) (h2 : srcOk P ty2 = true) (hzl : te.size = te.zero.length) (hpos : 0 < te.size)
    {s x s' x' : Value} (hs : VR G s s') (hx : VR G x x') {v : Value} (h : app id te.size te.bytes s x H = some (v, H')) :
    ∃ v' w' G', (Builtin.append_ #[ty, ty2] ty3 #[s', x']).run P w = .ok v' w' ∧ VR G' v v' ∧ Post (· = id) G H w G' H' w' := by
  obtain ⟨e, hu, hte⟩ := elemT_some ht
  obtain ⟨i, z, i1, i2, i3, i4, i5, i6, i7⟩ := tab_some hte
  have hzs : z.cells.size = te.size := by rw [hzl, i6]; simp
  unfold app at h
  simp only [Option.bind_eq_some_iff] at h
  obtain ⟨⟨xs, m⟩, hsrc, h⟩ := h
  obtain ⟨xs', hrun, hxs, hxl⟩ := src_sim (P := P) hH hx hsrc
  have hxl' : xs'.length = m * te.size := by rw [← hxs.length]; exact hxl
  simp only at h
  -- a new row
  have grow : ∀ (H1 : Hp) (hH1 : HR G H1 w) (base : Option Addr) (n c : Nat) (cs olds : List Value), All2 (CR G) cs olds → olds.length = n * te.size →
      (Builtin.firstCells te.size n (.slice base n c)).run P w.drew = .ok ⟨olds⟩ w.drew → c < n + m → 1 ≤ te.bytes → (2 * (n + m) + 1024) * te.bytes ≤ 281474976710656 →
      ∃ v' w' G', (Builtin.append_ #[ty, ty2] ty3 #[.slice base n c, x']).run P w = .ok v' w' ∧ VR G' (Ax.sl id 0 (n + m)) v' ∧ Post (· = id) G H1 w G' (H1.set id (some (.row (cs ++ xs) te.size true))) w' := by
    intro H1 hH1 base n c cs olds hcs hol hfo hlt hby hbound
    have hnm : 2 * (n + m) + 1024 ≤ 281474976710656 := by
      have h := Nat.mul_le_mul_left (2 * (n + m) + 1024) hby
      rw [Nat.mul_one] at h
      exact Nat.le_trans h hbound
    have hfit : Builtin.nextslicecap (n + m) c * i.bytes ≤ 281474976710656 := by
      rw [i5]; exact Nat.le_trans (Nat.mul_le_mul_right _ (nextcap_le hlt)) hbound
    obtain ⟨hl, _⟩ := hrun w rfl
    obtain ⟨_, hf⟩ := hrun w.drew rfl
    have hr := run_app_grow (P := P) (w := w) (ty3 := ty3) hu i1 i3 h2 hl (by rw [i4]; exact hf) (by rw [i4]; exact hfo) hlt (by omega) hfit
    have hge := grownCap_ge w (n + m) c e
    generalize hN : grownCap w (n + m) c e = N at hr hge
    have hp := Post.row (w' := w.drew.alloc (.cells ⟨(olds ++ xs') ++ (Builtin.zeroCells z.cells (N - (n + m))).toList⟩ e)) hH1 hid (hcs.append hxs) (room := (Builtin.zeroCells z.cells (N - (n + m))).toList) te.size e (0, 0) (.inl rfl) rfl rfl rfl rfl
    refine ⟨_, _, _, ?_, VR.sl_new (Gh.set_same _ _ _) rfl (n + m) N hge ?_, hp⟩
    · rw [hr]
      congr 2
      congr 1
      apply Array.toList_inj.1
      simp
    · show N * te.size ≤ ((olds ++ xs') ++ (Builtin.zeroCells z.cells (N - (n + m))).toList).length
      have e1 : (Builtin.zeroCells z.cells (N - (n + m))).toList.length = (N - (n + m)) * te.size := by rw [Array.length_toList, zeroCells_len, hzs]
      rw [List.length_append, List.length_append, hol, hxl', e1, ← Nat.add_mul, ← Nat.add_mul]
      exact Nat.mul_le_mul_right _ (by omega)
  split at h
  · rename_i n0 c0
    obtain ⟨rfl, rfl, rfl⟩ := hs.nilS
    split at h
    · rename_i hm
      subst hm
      cases h
      obtain ⟨hl, hf⟩ := hrun w rfl
      refine ⟨_, _, G, run_app_in (P := P) (ty3 := ty3) hu i1 h2 hl (by rw [i4]; exact hf) (Nat.le_refl _) rfl, .sr .nils, Post.refl hH⟩
    · split at h
      · rename_i hm hb
        cases h
        obtain ⟨v', w', G', h1, h2', h3⟩ := grow H hH none 0 0 [] [] .nil (by simp) (by simp [Builtin.firstCells]) (by omega) hb.1 (by simpa using hb.2)
        exact ⟨v', w', G', h1, by simpa using h2', by simpa using h3⟩
      · cases h
  · rename_i j n c
    split at h
    · rename_i cs ez hj
      split at h
      · rename_i hb
        obtain ⟨rfl, hle, hby, hbound⟩ := hb
        cases h
        obtain ⟨g, c', hg, rfl, hnc, hcap⟩ := hs.slS
        have hor : RowOk G g cs te.size true w.heap[g.blk]? := hH.obj j _ g hj hg
        obtain ⟨⟨cs', ty', fr, e1, e2, e3⟩, e4, e5⟩ := hor
        obtain ⟨s0, s1, s2⟩ := e3 rfl
        have hcap := hcap e4 rfl
        rw [e5 rfl] at hcap
        rw [s0] at e2
        have hcl := e2.1
        have hsub := e2.sub 0 (n * te.size) (by omega)
        rw [List.drop_zero, Nat.zero_add, List.drop_zero] at hsub
        have hol : (cs'.toList.take (n * te.size)).length = n * te.size := by simp; omega
        rw [s0, Nat.zero_add]
        by_cases hroom : n + m ≤ c'
        · -- in place
          obtain ⟨hl, hf⟩ := hrun w rfl
          have hmul : (n + m) * te.size ≤ c' * te.size := Nat.mul_le_mul_right _ hroom
          rw [Nat.add_mul] at hmul
          have hcell : ∀ q, q < xs'.length → n * te.size + q < cs'.size := by intro q hq; omega
          have hst := run_storeCells_cells (P := P) g.blk (n * te.size) xs' 0 w (fun q hq => by rw [Nat.add_zero, cell_of e1]; simp [hcell q hq]) (fun q hq => by rw [Nat.add_zero]; exact frozen_of e1 s2 _ (hcell q hq))
            (fun u hu => by obtain ⟨y, _, hr⟩ := hxs.mem_right hu; exact hr.one)
          rw [Nat.add_zero] at hst
          obtain ⟨r1, r2, r3, r4⟩ := setCells_rest g.blk xs' (n * te.size) w
          refine ⟨_, _, G.set id ⟨g.blk, 0, g.tot, te.size, true⟩, run_app_in (P := P) (ty3 := ty3) hu i1 h2 hl (by rw [i4]; exact hf) hroom (w' := w.setCells g.blk (n * te.size) xs') ?_, ?_, ?_⟩
          · simp only [i4]
            rw [Addr.add_mid, Nat.zero_add]; exact hst
          · exact VR.sl_new (Gh.set_same _ _ _) rfl (n + m) c' hroom hcap
          · refine Post.move hH hid hj rfl hg rfl _ rfl r1 (fun b hb => heap_setCells_ne _ _ hb _ _ _) r2 r3 r4 ?_
            show RowOk _ _ (cs.take (n * te.size) ++ xs) te.size true _
            refine ⟨⟨_, _, _, heap_setCells_same g.blk ty' fr xs' (n * te.size) w cs' e1, ?_, fun _ => ⟨rfl, by rw [setR_size]; exact s1, by rw [setR_size]; exact s2⟩⟩, rfl, fun _ => rfl⟩
            have hlen : (cs.take (n * te.size) ++ xs).length = n * te.size + m * te.size := by rw [List.length_append, hxl]; simp; omega
            refine ⟨by rw [hlen, setR_size]; show 0 + (n * te.size + m * te.size) ≤ cs'.size; omega, ?_⟩
            rw [hlen, List.drop_zero, setR_list _ _ _ (by omega)]
            have : (setAt cs'.toList (n * te.size) xs').take (n * te.size + m * te.size) = cs'.toList.take (n * te.size) ++ xs' := by
              unfold setAt
              rw [List.take_append_of_le_length (by simp; omega), List.take_of_length_le (by simp; omega)]
            rw [this]
            exact (hsub.append hxs).mono fun _ _ => CR.mono (GLe.set _ hid)
        · -- anew
          have hfo : (Builtin.firstCells te.size n (.slice (some ⟨g.blk, 0, none⟩) n c')).run P w.drew = .ok ⟨cs'.toList.take (n * te.size)⟩ w.drew := by
            simp only [Builtin.firstCells]
            have := run_cells (P := P) (w := w.drew) (b := g.blk) (cs := cs') (ty := ty') (fr := fr) e1 0 (n * te.size) (by omega)
            rwa [List.drop_zero] at this
          obtain ⟨v', w', G', h1, h2', h3⟩ := grow (H.set j none) (hH.kill j) (some ⟨g.blk, 0, none⟩) n c' _ _ hsub hol hfo (by omega) hby hbound
          exact ⟨v', w', G', h1, h2', Post.killed hj hg h3⟩
      · cases h
    · cases h
  · cases h

end Go.Proofs.Ytdnokdgkccnbnaa.Ax
