/- One operation of the abstract machine, and the model's: reading, writing, new variables, rows. -/
import Derived.Test.YtdnokdgkccnbnaaAx4
set_option linter.unusedSimpArgs false
set_option linter.unusedVariables false
namespace Go.Proofs.Ytdnokdgkccnbnaa.Ax
open Go
variable {P : Program}

theorem tab_some {t : TypeId} {ti : TI} (h : tab P t = some ti) : ∃ i z, P.info? t = some i ∧ P.underlying t = some ti.desc ∧ i.zero = some z ∧ i.size = ti.size ∧ i.bytes = ti.bytes ∧ ti.zero = z.cells.toList ∧ ti.agg = aggDesc ti.desc := by
  unfold tab at h
  simp only [Option.bind_eq_some_iff, Option.some.injEq] at h
  obtain ⟨i, hi, d, hd, z, hz, rfl⟩ := h
  exact ⟨i, z, hi, hd, hz, rfl, rfl, rfl, rfl⟩
theorem run_sizeOf {t : TypeId} {i : TypeInfo} (h : P.info? t = some i) (w : World) : (sizeOf t).run P w = .ok i.size w := by simp [sizeOf, typeInfo, h]
theorem run_typeInfo {t : TypeId} {i : TypeInfo} (h : P.info? t = some i) (w : World) : (typeInfo t).run P w = .ok i w := by simp [typeInfo, h]
theorem run_zeroValue {t : TypeId} {i : TypeInfo} {z : Value} (h : P.info? t = some i) (hz : i.zero = some z) (w : World) : (zeroValue t).run P w = .ok z w := by simp [zeroValue, typeInfo, h, hz]
theorem run_isAgg {t : TypeId} {d : TypeDesc} (h : P.underlying t = some d) (w : World) : (Go.isAgg t).run P w = .ok (aggDesc d) w := by
  unfold Go.isAgg
  rw [Sem.run_bind, run_underlying h w]
  cases d <;> rfl

/-! ### Reading -/
theorem cellsAt_some {a : Value} {H : Hp} {p : List Value × Nat} (h : cellsAt a H = some p) : ∃ i e rw, a = .pointer (some ⟨i, p.2, none⟩) ∧ H i = some (.row p.1 e rw) := by
  unfold cellsAt at h
  split at h
  · split at h
    · cases h; exact ⟨_, _, _, rfl, by assumption⟩
    · cases h
  · cases h
theorem VR.ptr {G : Gh} {i o : Nat} {a' : Value} (h : VR G (.pointer (some ⟨i, o, none⟩)) a') : ∃ g, G i = some g ∧ a' = .pointer (some ⟨g.blk, g.sh + o, none⟩) := by
  cases h with
  | p h => cases h with
    | c h => cases h with
      | s h => cases h with
        | ptr h => exact ⟨_, h, rfl⟩

theorem CellsOk.get {G : Gh} {cs : List Value} {sh : Nat} {cs' : Array Value} (h : CellsOk G cs sh cs') {j : Nat} {v : Value} (hj : cs[j]? = some v) : ∃ v', cs'[sh + j]? = some v' ∧ CR G v v' := by
  obtain ⟨v', hv', hr⟩ := h.2.get hj
  rw [List.getElem?_take] at hv'
  split at hv'
  · rw [List.getElem?_drop] at hv'
    exact ⟨v', by rw [← Array.getElem?_toList]; exact hv', hr⟩
  · cases hv'
theorem CellsOk.sub {G : Gh} {cs : List Value} {sh : Nat} {cs' : Array Value} (h : CellsOk G cs sh cs') (o n : Nat) (hn : o + n ≤ cs.length) : All2 (CR G) ((cs.drop o).take n) ((cs'.toList.drop (sh + o)).take n) := by
  have := (h.2.drop o).take n
  rw [List.drop_take, List.drop_drop, List.take_take] at this
  rwa [show min n (cs.length - o) = n from by omega] at this

theorem cell_of {w : World} {b : Nat} {cs : Array Value} {ty : TypeId} {fr : Nat × Nat} (h : w.heap[b]? = some (.cells cs ty fr)) (o : Nat) : w.cell? ⟨b, o, none⟩ = cs[o]? := by simp [World.cell?, h]
theorem frozen_of {w : World} {b : Nat} {cs : Array Value} {ty : TypeId} {fr : Nat × Nat} (h : w.heap[b]? = some (.cells cs ty fr)) (hf : free fr cs.size) (o : Nat) (ho : o < cs.size) : w.frozen? ⟨b, o, none⟩ = false := by
  simp only [World.frozen?, h]
  unfold free at hf
  simp only [Bool.and_eq_false_iff, decide_eq_false_iff_not]
  omega
theorem range_of {w : World} {b : Nat} {cs : Array Value} {ty : TypeId} {fr : Nat × Nat} (h : w.heap[b]? = some (.cells cs ty fr)) (o n : Nat) : w.rangeAt b o ((cs.toList.drop o).take n) := by
  intro j v hj
  rw [cell_of h]
  rw [List.getElem?_take] at hj
  split at hj
  · rw [List.getElem?_drop] at hj; rw [← Array.getElem?_toList]; exact hj
  · cases hj

theorem ld_sim {G : Gh} {H : Hp} {w : World} (hH : HR G H w) {ty : TypeId} {ti : TI} (ht : tab P ty = some ti) {a a' v : Value} (ha : VR G a a') (h : ld ti.agg ti.size a H = some v) :
    ∃ v', (Instr.loadAt ty a').run P w = .ok v' w ∧ PR G v v' := by
  obtain ⟨i, z, h1, h2, h3, h4, h5, h6, h7⟩ := tab_some ht
  unfold ld at h
  split at h
  · rename_i hagg
    unfold lda at h
    simp only [Option.bind_eq_some_iff] at h
    obtain ⟨p, hp, h⟩ := h
    split at h
    · rename_i hle
      cases h
      obtain ⟨b, e, rw_, rfl, hb⟩ := cellsAt_some hp
      obtain ⟨g, hg, rfl⟩ := ha.ptr
      have hor : RowOk G g p.1 e rw_ w.heap[g.blk]? := hH.obj b _ g hb hg
      obtain ⟨⟨cs', ty', fr, e1, e2, e3⟩, _, _⟩ := hor
      have hsub := e2.sub p.2 ti.size hle
      refine ⟨.agg ((cs'.toList.drop (g.sh + p.2)).take ti.size).toArray, ?_, .agg hsub⟩
      refine run_loadAt_mid w g.blk (g.sh + p.2) ty _ ti.desc (range_of e1 _ _) h2 ?_ ?_
      · rw [h7] at hagg
        cases hd : ti.desc <;> rw [hd] at hagg <;> first | rfl | cases hagg
      · rw [h1]
        simp only [Option.map_some, h4, Option.some.injEq]
        have := hsub.length
        rw [List.length_take, List.length_drop] at this
        omega
    · cases h
  · rename_i hagg
    unfold ldc at h
    simp only [Option.bind_eq_some_iff] at h
    obtain ⟨p, hp, h⟩ := h
    obtain ⟨b, e, rw_, rfl, hb⟩ := cellsAt_some hp
    obtain ⟨g, hg, rfl⟩ := ha.ptr
    have hor : RowOk G g p.1 e rw_ w.heap[g.blk]? := hH.obj b _ g hb hg
    obtain ⟨⟨cs', ty', fr, e1, e2, e3⟩, _, _⟩ := hor
    obtain ⟨v', hv', hr⟩ := e2.get h
    refine ⟨v', ?_, .c hr⟩
    have hq : aggDesc ti.desc = false := by rw [← h7]; simpa using hagg
    simp only [Instr.loadAt, Instr.sureAddr, loadVar, Sem.run_bind, Sem.run_pure, Result.andThen_ok, run_isAgg h2, hq, Bool.false_eq_true, if_false, run_load, cell_of e1, hv']

/-! ### Writing -/
def setR (a : Array Value) : Nat → List Value → Array Value
  | _, [] => a
  | o, v :: r => setR (a.setIfInBounds o v) (o + 1) r
theorem setR_size (a : Array Value) (o : Nat) (l : List Value) : (setR a o l).size = a.size := by
  induction l generalizing a o with
  | nil => rfl
  | cons v r ih => unfold setR; rw [ih]; simp
theorem setR_get (l : List Value) : ∀ (a : Array Value) (o i : Nat), (setR a o l)[i]? = if o ≤ i ∧ i < o + l.length ∧ i < a.size then l[i - o]? else a[i]? := by
  induction l with
  | nil => intro a o i; simp [setR]; intros; omega
  | cons v r ih =>
    intro a o i
    unfold setR
    rw [ih]
    simp only [Array.size_setIfInBounds, List.length_cons]
    by_cases h : i = o
    · subst h
      rw [if_neg (by omega)]
      by_cases hs : i < a.size
      · rw [if_pos (by omega)]; simp [hs]
      · rw [if_neg (by omega)]
        rw [Array.getElem?_eq_none (by simp; omega), Array.getElem?_eq_none (by omega)]
    · by_cases h2 : o + 1 ≤ i ∧ i < o + 1 + r.length ∧ i < a.size
      · rw [if_pos h2, if_pos (by omega)]
        rw [show i - o = (i - (o + 1)) + 1 from by omega, List.getElem?_cons_succ]
      · rw [if_neg h2, if_neg (by omega), Array.getElem?_setIfInBounds_ne (by omega)]
theorem setR_list (a : Array Value) (o : Nat) (l : List Value) (h : o + l.length ≤ a.size) : (setR a o l).toList = setAt a.toList o l := by
  apply List.ext_getElem?
  intro i
  rw [Array.getElem?_toList, setR_get]
  unfold setAt
  by_cases h1 : i < o
  · rw [if_neg (by omega), List.append_assoc, List.getElem?_append_left (by simp; omega), List.getElem?_take, if_pos h1, Array.getElem?_toList]
  · by_cases h2 : i < o + l.length
    · rw [if_pos (by omega), List.append_assoc, List.getElem?_append_right (by simp; omega)]
      simp only [List.length_take, Array.length_toList]
      rw [show i - min o a.size = i - o from by omega, List.getElem?_append_left (by omega)]
    · rw [if_neg (by omega), List.getElem?_append_right (by simp; omega)]
      simp only [List.length_append, List.length_take, Array.length_toList, List.getElem?_drop]
      rw [show o + l.length + (i - (min o a.size + l.length)) = i from by omega, Array.getElem?_toList]
theorem setAt_length (cs : List Value) (o : Nat) (vs : List Value) (h : o + vs.length ≤ cs.length) : (setAt cs o vs).length = cs.length := by
  unfold setAt; simp only [List.length_append, List.length_take, List.length_drop]; omega

theorem setAt_append (X Y : List Value) (o : Nat) (vs : List Value) (h : o + vs.length ≤ X.length) : setAt (X ++ Y) o vs = setAt X o vs ++ Y := by
  unfold setAt
  rw [List.take_append_of_le_length (by omega), List.drop_append_of_le_length (by omega)]
  simp

theorem heap_setCells_same (b : Nat) (ty : TypeId) (fr : Nat × Nat) : ∀ (vs : List Value) (o : Nat) (w : World) (cs : Array Value), w.heap[b]? = some (.cells cs ty fr) → (w.setCells b o vs).heap[b]? = some (.cells (setR cs o vs) ty fr) := by
  intro vs
  induction vs with
  | nil => intro o w cs h; exact h
  | cons v r ih =>
    intro o w cs h
    refine ih (o + 1) _ _ ?_
    unfold World.setCell
    simp only [Array.getElem?_modify, if_true, h, Option.map_some, Option.isSome_none, Bool.false_eq_true, if_false]
theorem heap_setCells_ne (b b' : Nat) (hb : b' ≠ b) : ∀ (vs : List Value) (o : Nat) (w : World), (w.setCells b o vs).heap[b']? = w.heap[b']? := by
  intro vs
  induction vs with
  | nil => intros; rfl
  | cons v r ih =>
    intro o w
    rw [World.setCells, ih]
    unfold World.setCell
    simp only [Array.getElem?_modify]
    rw [if_neg (Ne.symm hb)]
theorem setCells_rest (b : Nat) : ∀ (vs : List Value) (o : Nat) (w : World), (w.setCells b o vs).heap.size = w.heap.size ∧ (w.setCells b o vs).os = w.os ∧ (w.setCells b o vs).tape = w.tape ∧ (w.setCells b o vs).output = w.output := by
  intro vs
  induction vs with
  | nil => intros; exact ⟨rfl, rfl, rfl, rfl⟩
  | cons v r ih =>
    intro o w
    obtain ⟨h1, h2, h3, h4⟩ := ih (o + 1) (w.setCell ⟨b, o, none⟩ v)
    refine ⟨?_, h2, h3, h4⟩
    rw [World.setCells, h1]
    simp [World.setCell]

theorem CellsOk.set {G : Gh} {cs : List Value} {cs' : Array Value} (h : CellsOk G cs 0 cs') {o : Nat} {vs vs' : List Value} (hv : All2 (CR G) vs vs') (hle : o + vs.length ≤ cs.length) : CellsOk G (setAt cs o vs) 0 (setR cs' o vs') := by
  have hl := hv.length
  have h1 := h.1
  refine ⟨by rw [setAt_length _ _ _ hle, setR_size]; exact h1, ?_⟩
  rw [setR_list _ _ _ (by omega), setAt_length _ _ _ hle, List.drop_zero]
  have h2 := h.2
  rw [List.drop_zero] at h2
  have hx : (cs'.toList.take cs.length).length = cs.length := by simp; omega
  have e1 : (setAt cs'.toList o vs').take cs.length = setAt (cs'.toList.take cs.length) o vs' := by
    conv => lhs; rw [← List.take_append_drop cs.length cs'.toList]
    rw [setAt_append _ _ _ _ (by omega), List.take_append_of_le_length (by rw [setAt_length _ _ _ (by omega)]; omega), List.take_of_length_le (by rw [setAt_length _ _ _ (by omega)]; omega)]
  rw [e1]
  unfold setAt
  rw [← hl]
  exact ((h2.take o).append hv).append (h2.drop _)

theorem stv_some {a : Value} {vs : List Value} {H H' : Hp} (h : stv a vs H = some H') : ∃ i o cs e, a = .pointer (some ⟨i, o, none⟩) ∧ H i = some (.row cs e true) ∧ o + vs.length ≤ cs.length ∧ H' = H.set i (some (.row (setAt cs o vs) e true)) := by
  unfold stv at h
  split at h
  · split at h
    · split at h
      · cases h; exact ⟨_, _, _, _, rfl, by assumption, by assumption, rfl⟩
      · cases h
    · cases h
  · cases h

theorem stv_sim {G : Gh} {H H' : Hp} {w : World} (hH : HR G H w) {New : Nat → Prop} {a a' : Value} (ha : VR G a a') {vs vs' : List Value} (hv : All2 (CR G) vs vs') (h : stv a vs H = some H') :
    ∃ b o, a' = .pointer (some ⟨b, o, none⟩) ∧ w.there b o vs'.length ∧ Post New G H w G H' (w.setCells b o vs') := by
  obtain ⟨i, o, cs, e, rfl, hi, hle, rfl⟩ := stv_some h
  obtain ⟨g, hg, rfl⟩ := ha.ptr
  have hor : RowOk G g cs e true w.heap[g.blk]? := hH.obj i _ g hi hg
  obtain ⟨⟨cs', ty, fr, e1, e2, e3⟩, e4, e5⟩ := hor
  obtain ⟨s0, s1, s2⟩ := e3 rfl
  have hl := hv.length
  rw [s0] at e2
  have hsz := e2.1
  refine ⟨g.blk, g.sh + o, rfl, ?_, ?_⟩
  · intro j hj
    rw [s0, Nat.zero_add]
    have hlt : o + j < cs'.size := by omega
    exact ⟨by rw [cell_of e1]; simp [hlt], frozen_of e1 s2 _ hlt⟩
  · obtain ⟨r1, r2, r3, r4⟩ := setCells_rest g.blk vs' (g.sh + o) w
    refine Post.write hH hi rfl hg rfl r1 (fun b hb => heap_setCells_ne _ _ hb _ _ _) r2 r3 r4 ?_
    show RowOk G g _ e true _
    refine ⟨⟨_, _, _, heap_setCells_same g.blk ty fr vs' (g.sh + o) w cs' e1, ?_, ?_⟩, e4, e5⟩
    · rw [s0, Nat.zero_add]; exact e2.set hv hle
    · intro _; rw [setR_size]; exact ⟨s0, s1, s2⟩

theorem st_sim {G : Gh} {H H' : Hp} {w : World} (hH : HR G H w) {New : Nat → Prop} {ty : TypeId} {ti : TI} (ht : tab P ty = some ti) {a a' v v' : Value} (ha : VR G a a') (hv : VR G v v') (h : st ti.agg ti.size a v H = some H') :
    ∃ w', (Instr.storeAt ty a' v').run P w = .ok () w' ∧ Post New G H w G H' w' := by
  obtain ⟨i, z, h1, h2, h3, h4, h5, h6, h7⟩ := tab_some ht
  have key : ∀ vs vs' : List Value, All2 (CR G) vs vs' → v'.cells = ⟨vs'⟩ → vs.length = ti.size → stv a vs H = some H' → ∃ w', (Instr.storeAt ty a' v').run P w = .ok () w' ∧ Post New G H w G H' w' := by
    intro vs vs' hvs hc hl hst
    obtain ⟨b, o, rfl, hth, hpost⟩ := stv_sim (New := New) hH ha hvs hst
    refine ⟨_, ?_, hpost⟩
    have hlen := hvs.length
    have hone : ∀ x ∈ vs', x.oneCell' = true := fun x hx => by obtain ⟨y, _, hr⟩ := hvs.mem_right hx; exact hr.one
    have := run_storeCells_cells (P := P) b o vs' 0 w (fun j hj => by simpa using (hth j hj).1) (fun j hj => by simpa using (hth j hj).2) hone
    simp only [Nat.add_zero] at this
    have hs : (⟨vs'⟩ : Array Value).size = i.size := by rw [h4, ← hl, hlen]; rfl
    simp only [Instr.storeAt, Instr.sureAddr, storeVar, Sem.run_bind, Sem.run_pure, Result.andThen_ok, run_sizeOf h1, Sem.run_ite, ne_eq, hc, this]
    exact if_neg fun hx => hx hs
  unfold st at h
  split at h
  · rename_i cs heq
    split at h
    · rename_i hl
      cases hv with
      | p hv => cases hv with
        | c hv => exact absurd hv.cell (by simp [isCell])
        | agg hv => exact key _ _ hv rfl hl h
    · cases h
  · cases h
  · cases h
  · cases h
  · rename_i x y hn1 hn2
    split at h
    · rename_i hsz
      cases hv with
      | tup hv => exact absurd rfl (hn2 _)
      | p hv => cases hv with
        | agg hv => exact absurd rfl (hn1 _)
        | c hv =>
          refine key [_] [v'] (.one hv) ?_ (by simp [hsz]) h
          have := hv.one
          cases v' <;> first | rfl | cases this
    · cases h

end Go.Proofs.Ytdnokdgkccnbnaa.Ax
