/- Parameters that lie in memory: structs, and slices of structs, of numbers and texts. -/
import Derived.Test.YtdnokdgkccnbnaaAx21
import Derived.Deep.Slices
import Derived.ChangeArms
import Derived.WideShapes
set_option linter.unusedSimpArgs false
set_option linter.unusedVariables false
namespace Go.Proofs.Ytdnokdgkccnbnaa.Ax
open Go Go.RowKit Go.Deep

def chkF (P : Program) : List Field → List Bool → Nat → Bool
  | [], [], _ => true
  | f :: fs, k :: ks, i => (f.offset == i) && (P.cellsOf f.type == 1) && (match P.underlying f.type, k with | some .string, true => true | some (.int .i64), false => true | _, _ => false) && chkF P fs ks (i + 1)
  | _, _, _ => false
def cellOk (k : Bool) (c : Value) : Prop :=
  match k with
  | true => ∃ s : ByteArray, c = .string s ∧ s.size ≤ 9223372036854775807
  | false => ∃ n : Int, c = .int .i64 n ∧ -9223372036854775808 ≤ n ∧ n ≤ 9223372036854775807
theorem chkF_at {P : Program} : ∀ {fs : List Field} {ks : List Bool} {i : Nat}, chkF P fs ks i = true → fs.length = ks.length ∧ ∀ (j : Nat) (k : Bool), ks[j]? = some k → ∃ f, fs[j]? = some f ∧ f.offset = i + j ∧ P.cellsOf f.type = 1 ∧ P.underlying f.type = (if k then some .string else some (.int .i64))
  | [], [], _, _ => ⟨rfl, fun j k h => by simp at h⟩
  | f :: fs, k :: ks, i, h => by
    unfold chkF at h
    simp only [Bool.and_eq_true, beq_iff_eq] at h
    obtain ⟨⟨⟨h1, h2⟩, h3⟩, h4⟩ := h
    obtain ⟨g1, g2⟩ := chkF_at h4
    refine ⟨by simp [g1], fun j k' hj => ?_⟩
    cases j with
    | zero =>
      simp only [List.getElem?_cons_zero, Option.some.injEq] at hj
      subst hj
      refine ⟨f, rfl, by omega, h2, ?_⟩
      split at h3 <;> simp_all
    | succ j =>
      simp only [List.getElem?_cons_succ] at hj ⊢
      obtain ⟨f', e1, e2, e3, e4⟩ := g2 j k' hj
      exact ⟨f', e1, by omega, e3, e4⟩
  | [], _ :: _, _, h => by simp [chkF] at h
  | _ :: _, [], _, h => by simp [chkF] at h
section
variable {HH : Type} {enc : TypeId × Value → HH} {P : Program} {W : World} {base : Nat} {spare : Nat → Bool} {held : Bool}
theorem scalar_cell {t : TypeId} {k : Bool} {fuel : Nat} {cs : List Value} {x : DataW HH × List MemPlace} (ht : P.underlying t = (if k then some .string else some (.int .i64))) (h : DataW.trod enc P W base spare held fuel t cs = some x) : ∃ c, cs = [c] ∧ cellOk k c := by
  cases k with
  | true =>
    obtain ⟨s, rfl, _, hs⟩ := DataW.trod_string (by simpa using ht) h
    exact ⟨_, rfl, s, rfl, hs⟩
  | false =>
    obtain ⟨n, rfl, _, hn⟩ := DataW.trod_int (k := .i64) (by simpa using ht) h
    exact ⟨_, rfl, n, rfl, i64_wf hn⟩
theorem flat_struct {t : TypeId} {fs : Array Field} {ks : List Bool} {fuel : Nat} {cs : List Value} {x : DataW HH × List MemPlace} (ht : P.underlying t = some (.struct fs)) (hk : chkF P fs.toList ks 0 = true) (hc : P.cellsOf t = ks.length) (h : DataW.trod enc P W base spare held fuel t cs = some x) :
    cs.length = ks.length ∧ ∀ (j : Nat) (k : Bool), ks[j]? = some k → ∃ c, cs[j]? = some c ∧ cellOk k c := by
  obtain ⟨xs, n, _, _, hl, hlen, hf⟩ := DataW.trod_struct ht h
  obtain ⟨g1, g2⟩ := chkF_at hk
  rw [hc] at hl
  refine ⟨hl, fun j k hj => ?_⟩
  obtain ⟨f, e1, e2, e3, e4⟩ := g2 j k hj
  have hjl : j < ks.length := (List.getElem?_eq_some_iff.1 hj).1
  have := hf j f (by rw [← Array.getElem?_toList]; exact e1)
  have hxs : j < xs.length := by rw [hlen]; rw [← g1] at hjl; simpa using hjl
  rw [List.getElem?_eq_getElem hxs, e2, e3] at this
  obtain ⟨c, c1, c2⟩ := scalar_cell e4 this
  refine ⟨c, ?_, c2⟩
  have := congrArg (fun l => l[0]?) c1
  simpa [List.getElem?_take, List.getElem?_drop] using this
theorem node_cells {t : TypeId} {fs : Array Field} {fuel : Nat} {cs : List Value} {x : DataW HH × List MemPlace} (ht : P.underlying t = some (.struct fs)) (hk : chkF P fs.toList [false, false, true, false, false] 0 = true) (hc : P.cellsOf t = 5) (h : DataW.trod enc P W base spare held fuel t cs = some x) :
    ∃ y : Nd, cs = y.cells ∧ y.s.size ≤ 9223372036854775807 := by
  obtain ⟨h1, h2⟩ := flat_struct ht hk hc h
  obtain ⟨c0, e0, n0, rfl, _⟩ := h2 0 false rfl
  obtain ⟨c1, e1, n1, rfl, _⟩ := h2 1 false rfl
  obtain ⟨c2, e2, s2, rfl, hs⟩ := h2 2 true rfl
  obtain ⟨c3, e3, n3, rfl, _⟩ := h2 3 false rfl
  obtain ⟨c4, e4, n4, rfl, _⟩ := h2 4 false rfl
  refine ⟨⟨n0, n1, s2, n3, n4⟩, ?_, hs⟩
  match cs, h1 with
  | [a, b, c, d, e], _ => simp_all [Nd.cells]
theorem ins_cells {t : TypeId} {fs : Array Field} {fuel : Nat} {cs : List Value} {x : DataW HH × List MemPlace} (ht : P.underlying t = some (.struct fs)) (hk : chkF P fs.toList [false, false, false, true] 0 = true) (hc : P.cellsOf t = 4) (h : DataW.trod enc P W base spare held fuel t cs = some x) :
    ∃ y : Ins, cs = y.cells ∧ y.s.size ≤ 9223372036854775807 := by
  obtain ⟨h1, h2⟩ := flat_struct ht hk hc h
  obtain ⟨c0, e0, n0, rfl, _⟩ := h2 0 false rfl
  obtain ⟨c1, e1, n1, rfl, _⟩ := h2 1 false rfl
  obtain ⟨c2, e2, n2, rfl, _⟩ := h2 2 false rfl
  obtain ⟨c3, e3, s3, rfl, hs⟩ := h2 3 true rfl
  refine ⟨⟨n0, n1, n2, s3⟩, ?_, hs⟩
  match cs, h1 with
  | [a, b, c, d], _ => simp_all [Ins.cells]
theorem def_cells {t : TypeId} {fs : Array Field} {fuel : Nat} {cs : List Value} {x : DataW HH × List MemPlace} (ht : P.underlying t = some (.struct fs)) (hk : chkF P fs.toList [true, false, false] 0 = true) (hc : P.cellsOf t = 3) (h : DataW.trod enc P W base spare held fuel t cs = some x) :
    ∃ y : Df, cs = y.cells ∧ y.s.size ≤ 9223372036854775807 := by
  obtain ⟨h1, h2⟩ := flat_struct ht hk hc h
  obtain ⟨c0, e0, s0, rfl, hs⟩ := h2 0 true rfl
  obtain ⟨c1, e1, n1, rfl, _⟩ := h2 1 false rfl
  obtain ⟨c2, e2, n2, rfl, _⟩ := h2 2 false rfl
  refine ⟨⟨s0, n1, n2⟩, ?_, hs⟩
  match cs, h1 with
  | [a, b, c], _ => simp_all [Df.cells]

/-- A slice of structs. -/
theorem slice_row {α : Type} [Inhabited α] (E : Enc α) {t e : TypeId} {fuel : Nat} {cs : List Value} {x : DataW HH × List MemPlace} (ht : P.underlying t = some (.slice e)) (hc : P.cellsOf e = E.sz) (hz : 0 < E.sz) {Good : α → Prop} (hel : ∀ n cs x, DataW.trod enc P W base spare held n e cs = some x → ∃ y : α, cs = E.cells y ∧ Good y) (hg : ∀ y, ∀ c ∈ E.cells y, gnd1 c = true) (h : DataW.trod enc P W base spare held fuel t cs = some x) :
    ∃ (a : Option Addr) (len cap : Nat) (l : List α), cs = [.slice a len cap] ∧ l.length = len ∧ len ≤ 9223372036854775807 ∧ (∀ y ∈ l, Good y) ∧ CRow E.sz W a len cap (l.flatMap E.cells) := by
  rcases open_slice ht h with ⟨rfl, _⟩ | ⟨a, len, cap, m, n, D, Pl, rfl, hb, hl, hm, hmm, _, hx⟩
  · exact ⟨none, 0, 0, [], rfl, rfl, by omega, by simp, ⟨by simp, by simp, .inl ⟨rfl, rfl, rfl⟩⟩⟩
  · have hlm : len ≤ m := by rw [hmm]; split <;> omega
    have each : ∀ i, i < len → ∃ y : α, W.cells? base (a.add (i * E.sz)) E.sz = some (E.cells y) ∧ Good y := by
      intro i hi
      obtain ⟨cs', h1, h2⟩ := hx i (by omega)
      obtain ⟨y, rfl, hy⟩ := hel _ _ _ h2
      rw [hc] at h1
      exact ⟨y, h1, hy⟩
    obtain ⟨V, hV⟩ := choose_lt each
    have hll : ((List.range len).map V).length = len := by simp
    have hml : maxLen = 9223372036854775807 := by decide
    refine ⟨some a, len, cap, (List.range len).map V, rfl, hll, by omega, ?_, ⟨by rw [flat_len, hll], ?_, .inr ⟨a, rfl, hl, ?_⟩⟩⟩
    · intro y hy
      obtain ⟨i, hi, rfl⟩ := List.mem_map.1 hy
      exact (hV i (List.mem_range.1 hi)).2
    · intro c hc'
      obtain ⟨y, _, hy⟩ := List.mem_flatMap.1 hc'
      exact hg y c hy
    · intro i c hi
      have hil : i < len * E.sz := by
        have := (List.getElem?_eq_some_iff.1 hi).1
        rw [flat_len, hll] at this; exact this
      have hj : i / E.sz < len := (Nat.div_lt_iff_lt_mul hz).2 hil
      have hf : i % E.sz < E.sz := Nat.mod_lt _ hz
      have hdm : i = (i / E.sz) * E.sz + i % E.sz := by rw [Nat.mul_comm]; exact (Nat.div_add_mod i E.sz).symm
      obtain ⟨_, hlen, hcell⟩ := World.cells?_some (hV _ hj).1
      have := hcell (i % E.sz) hf
      rw [add_add, ← hdm] at this
      rw [this]
      rw [hdm, flat_cell E (by rw [hll]; exact hj) hf] at hi
      have he : ((List.range len).map V)[i / E.sz]'(by rw [hll]; exact hj) = V (i / E.sz) := by simp
      rw [he] at hi
      rw [← hi]
end
theorem node_gnd (y : Nd) : ∀ c ∈ eNode.cells y, gnd1 c = true := by intro c hc; simp [Nd.cells] at hc; rcases hc with rfl | rfl | rfl | rfl | rfl <;> rfl
theorem ins_gnd (y : Ins) : ∀ c ∈ eIns.cells y, gnd1 c = true := by intro c hc; simp [Ins.cells] at hc; rcases hc with rfl | rfl | rfl | rfl <;> rfl
theorem def_gnd (y : Df) : ∀ c ∈ eDef.cells y, gnd1 c = true := by intro c hc; simp [Df.cells] at hc; rcases hc with rfl | rfl | rfl <;> rfl

/-- What is handed in of a list of structs. -/
def Handed {α : Type} {W : World} (E : Enc α) (Good : α → Prop) (c : Value) (b : Ob W) (l : List α) : Prop :=
  l.length ≤ 9223372036854775807 ∧ (∀ y ∈ l, Good y) ∧ ∀ j, ∃ u, (∀ G : Gh, G j = b.gi → SR G u c) ∧ ∀ H n, H j = b.ob → j < n → Li E n H u l
theorem handed {α : Type} {W : World} (E : Enc α) {Good : α → Prop} (hz : 0 < E.sz) {a : Option Addr} {len cap : Nat} {l : List α} (h1 : l.length = len) (h2 : len ≤ 9223372036854775807) (h3 : ∀ y ∈ l, Good y) (h4 : CRow E.sz W a len cap (l.flatMap E.cells)) : ∃ b : Ob W, Handed E Good (.slice a len cap) b l := by
  obtain ⟨b, hb⟩ := slice_param h4 hz
  refine ⟨b, by omega, h3, fun j => ?_⟩
  obtain ⟨v, hv1, hv2⟩ := hb j
  exact ⟨v, hv1, fun H n hH hj => ⟨by rw [h1]; exact (hv2 H n hH hj).1, (hv2 H n hH hj).2⟩⟩
abbrev NdGood (y : Nd) : Prop := y.s.size ≤ 9223372036854775807
abbrev InsGood (y : Ins) : Prop := y.s.size ≤ 9223372036854775807
abbrev DfGood (y : Df) : Prop := y.s.size ≤ 9223372036854775807
section
variable {HH : Type} {enc : TypeId × Value → HH} {P : Program} {W : World} {base : Nat} {spare : Nat → Bool} {held : Bool}
/-- The cells of a pool. -/
theorem pool_cells {t te : TypeId} {f0 : Field} {fe : Array Field} {fuel : Nat} {cs : List Value} {x : DataW HH × List MemPlace} (ht : P.underlying t = some (.struct #[f0])) (hc : P.cellsOf t = 1) (ho : f0.offset = 0) (hc0 : P.cellsOf f0.type = 1) (h0 : P.underlying f0.type = some (.slice te)) (he : P.underlying te = some (.struct fe)) (hce : P.cellsOf te = 5) (hk : chkF P fe.toList [false, false, true, false, false] 0 = true) (h : DataW.trod enc P W base spare held fuel t cs = some x) :
    ∃ (c : Value) (b : Ob W) (l : List Nd), cs = [c] ∧ Handed eNode NdGood c b l := by
  obtain ⟨xs, n, _, _, hl, hlen, hf⟩ := DataW.trod_struct ht h
  have := hf 0 f0 rfl
  have hxs : 0 < xs.length := by rw [hlen]; exact Nat.zero_lt_one
  rw [List.getElem?_eq_getElem hxs, ho, hc0, List.drop_zero, List.take_of_length_le (by omega)] at this
  obtain ⟨a, len, cap, l, rfl, g1, g2, g3, g4⟩ := slice_row eNode h0 hce (by decide) (Good := NdGood) (fun n cs x hx => node_cells he hk hce hx) node_gnd this
  obtain ⟨b, hb⟩ := handed eNode (by decide) g1 g2 g3 g4
  exact ⟨_, b, l, rfl, hb⟩
theorem pool_param {t te : TypeId} {f0 : Field} {fe : Array Field} {v : Value} {d : DataW HH} {ps : List MemPlace} {r : Reach} {b0 : Nat} (ht : P.underlying t = some (.struct #[f0])) (hc : P.cellsOf t = 1) (ho : f0.offset = 0) (hc0 : P.cellsOf f0.type = 1) (h0 : P.underlying f0.type = some (.slice te)) (he : P.underlying te = some (.struct fe)) (hce : P.cellsOf te = 5) (hk : chkF P fe.toList [false, false, true, false, false] 0 = true) (hval : Value.okWide P W r b0 t v) (h : DataW.Trod enc P W base spare held t v d ps) :
    ∃ (c : Value) (b : Ob W) (l : List Nd), v = .agg ⟨[c]⟩ ∧ Handed eNode NdGood c b l := by
  obtain ⟨cs, rfl, _⟩ := Go.WideShapes.okWide_struct ht hval
  obtain ⟨fuel, hf⟩ := h
  obtain ⟨c, b, l, h1, h2⟩ := pool_cells ht hc ho hc0 h0 he hce hk hf
  refine ⟨c, b, l, ?_, h2⟩
  have : cs.toList = [c] := h1
  cases cs; simp_all
theorem node_param {t : TypeId} {fe : Array Field} {v : Value} {d : DataW HH} {ps : List MemPlace} {r : Reach} {b0 : Nat} (ht : P.underlying t = some (.struct fe)) (hc : P.cellsOf t = 5) (hk : chkF P fe.toList [false, false, true, false, false] 0 = true) (hval : Value.okWide P W r b0 t v) (h : DataW.Trod enc P W base spare held t v d ps) :
    ∃ y : Nd, v = .agg ⟨y.cells⟩ ∧ y.s.size ≤ 9223372036854775807 := by
  obtain ⟨cs, rfl, _⟩ := Go.WideShapes.okWide_struct ht hval
  obtain ⟨fuel, hf⟩ := h
  obtain ⟨y, h1, h2⟩ := node_cells ht hk hc hf
  refine ⟨y, ?_, h2⟩
  have : cs.toList = y.cells := h1
  cases cs; simp_all
/-- The cells of one field. -/
theorem fld_cells {t : TypeId} {fs : Array Field} {fuel : Nat} {cs : List Value} {x : DataW HH × List MemPlace} (ht : P.underlying t = some (.struct fs)) (h : DataW.trod enc P W base spare held fuel t cs = some x) {j : Nat} {f : Field} (hj : fs[j]? = some f) :
    ∃ n y, DataW.trod enc P W base spare held n f.type ((cs.drop f.offset).take (P.cellsOf f.type)) = some y := by
  obtain ⟨xs, n, _, _, hl, hlen, hf⟩ := DataW.trod_struct ht h
  have := hf j f hj
  have hjl : j < fs.size := (Array.getElem?_eq_some_iff.1 hj).1
  have hxs : j < xs.length := by rw [hlen]; exact hjl
  rw [List.getElem?_eq_getElem hxs] at this
  exact ⟨n, _, this⟩
theorem code_param {t tn ti td : TypeId} {f0 f1 f2 g0 : Field} {fn fi fd : Array Field} {v : Value} {d : DataW HH} {ps : List MemPlace} {r : Reach} {b0 : Nat}
    (ht : P.underlying t = some (.struct #[f0, f1, f2])) (hct : P.cellsOf t = 3) (ho : f0.offset = 0 ∧ f1.offset = 1 ∧ f2.offset = 2) (hc : P.cellsOf f0.type = 1 ∧ P.cellsOf f1.type = 1 ∧ P.cellsOf f2.type = 1)
    (h0 : P.underlying f0.type = some (.struct #[g0])) (hg : g0.offset = 0 ∧ P.cellsOf g0.type = 1) (hn : P.underlying g0.type = some (.slice tn)) (hnn : P.underlying tn = some (.struct fn)) (hcn : P.cellsOf tn = 5) (hkn : chkF P fn.toList [false, false, true, false, false] 0 = true)
    (h1 : P.underlying f1.type = some (.slice ti)) (hii : P.underlying ti = some (.struct fi)) (hci : P.cellsOf ti = 4) (hki : chkF P fi.toList [false, false, false, true] 0 = true)
    (h2 : P.underlying f2.type = some (.slice td)) (hdd : P.underlying td = some (.struct fd)) (hcd : P.cellsOf td = 3) (hkd : chkF P fd.toList [true, false, false] 0 = true)
    (hval : Value.okWide P W r b0 t v) (h : DataW.Trod enc P W base spare held t v d ps) :
    ∃ (c ci cd : Value) (b bi bd : Ob W) (l : List Nd) (li : List Ins) (ld : List Df), v = .agg ⟨[c, ci, cd]⟩ ∧ Handed eNode NdGood c b l ∧ Handed eIns InsGood ci bi li ∧ Handed eDef DfGood cd bd ld := by
  obtain ⟨cs, rfl, _⟩ := Go.WideShapes.okWide_struct ht hval
  obtain ⟨fuel, hf⟩ := h
  have hlen : cs.toList.length = 3 := by
    obtain ⟨xs, n, _, _, hl, _⟩ := DataW.trod_struct ht hf
    rw [hct] at hl; exact hl
  obtain ⟨n0, y0, e0⟩ := fld_cells ht hf (j := 0) (f := f0) rfl
  obtain ⟨n1, y1, e1⟩ := fld_cells ht hf (j := 1) (f := f1) rfl
  obtain ⟨n2, y2, e2⟩ := fld_cells ht hf (j := 2) (f := f2) rfl
  rw [ho.1, hc.1] at e0
  rw [ho.2.1, hc.2.1] at e1
  rw [ho.2.2, hc.2.2] at e2
  obtain ⟨c, b, l, q1, q2⟩ := pool_cells h0 hc.1 hg.1 hg.2 hn hnn hcn hkn e0
  obtain ⟨a, len, cap, li, r1, r2, r3, r4, r5⟩ := slice_row eIns h1 hci (by decide) (Good := InsGood) (fun n cs x hx => ins_cells hii hki hci hx) ins_gnd e1
  obtain ⟨bi, hbi⟩ := handed eIns (by decide) r2 r3 r4 r5
  obtain ⟨a', len', cap', ld, s1, s2, s3, s4, s5⟩ := slice_row eDef h2 hcd (by decide) (Good := DfGood) (fun n cs x hx => def_cells hdd hkd hcd hx) def_gnd e2
  obtain ⟨bd, hbd⟩ := handed eDef (by decide) s2 s3 s4 s5
  refine ⟨c, _, _, b, bi, bd, l, li, ld, ?_, q2, hbi, hbd⟩
  obtain ⟨cl⟩ := cs
  match cl, hlen with
  | [x, y, z], _ =>
    have q1 : [x] = [c] := q1
    have r1 : [y] = [Value.slice a len cap] := r1
    have s1 : [z] = [Value.slice a' len' cap'] := s1
    simp_all
theorem machine_param {t tn : TypeId} {f0 f1 f2 f3 f4 f5 f6 f7 g0 : Field} {fn : Array Field} {v : Value} {d : DataW HH} {ps : List MemPlace} {r : Reach} {b0 : Nat}
    (ht : P.underlying t = some (.struct #[f0, f1, f2, f3, f4, f5, f6, f7])) (hct : P.cellsOf t = 8) (ho : f0.offset = 0 ∧ f1.offset = 1 ∧ f2.offset = 2 ∧ f3.offset = 3 ∧ f4.offset = 4 ∧ f5.offset = 5 ∧ f6.offset = 6 ∧ f7.offset = 7) (hc : P.cellsOf f0.type = 1 ∧ P.cellsOf f1.type = 1 ∧ P.cellsOf f2.type = 1 ∧ P.cellsOf f3.type = 1 ∧ P.cellsOf f4.type = 1 ∧ P.cellsOf f5.type = 1 ∧ P.cellsOf f6.type = 1 ∧ P.cellsOf f7.type = 1)
    (h0 : P.underlying f0.type = some (.struct #[g0])) (hg : g0.offset = 0 ∧ P.cellsOf g0.type = 1) (hn : P.underlying g0.type = some (.slice tn)) (hnn : P.underlying tn = some (.struct fn)) (hcn : P.cellsOf tn = 5) (hkn : chkF P fn.toList [false, false, true, false, false] 0 = true)
    (hi : P.underlying f1.type = some (.int .i64) ∧ P.underlying f2.type = some (.int .i64) ∧ P.underlying f3.type = some (.int .i64) ∧ P.underlying f4.type = some (.int .i64) ∧ P.underlying f5.type = some (.int .i64) ∧ P.underlying f6.type = some (.int .i64) ∧ P.underlying f7.type = some (.int .i64))
    (hval : Value.okWide P W r b0 t v) (h : DataW.Trod enc P W base spare held t v d ps) :
    ∃ (c : Value) (b : Ob W) (l : List Nd) (x1 x2 x3 x4 x5 x6 x7 : Int), v = .agg ⟨[c, .int .i64 x1, .int .i64 x2, .int .i64 x3, .int .i64 x4, .int .i64 x5, .int .i64 x6, .int .i64 x7]⟩ ∧ Handed eNode NdGood c b l := by
  obtain ⟨cs, rfl, _⟩ := Go.WideShapes.okWide_struct ht hval
  obtain ⟨fuel, hf⟩ := h
  have hlen : cs.toList.length = 8 := by
    obtain ⟨xs, n, _, _, hl, _⟩ := DataW.trod_struct ht hf
    rw [hct] at hl; exact hl
  obtain ⟨n0, y0, e0⟩ := fld_cells ht hf (j := 0) (f := f0) rfl
  rw [ho.1, hc.1] at e0
  obtain ⟨c, b, l, q1, q2⟩ := pool_cells h0 hc.1 hg.1 hg.2 hn hnn hcn hkn e0
  have one : ∀ (j o : Nat) (f : Field), (#[f0, f1, f2, f3, f4, f5, f6, f7] : Array Field)[j]? = some f → f.offset = o → P.cellsOf f.type = 1 → P.underlying f.type = some (.int .i64) → ∃ k : Int, (cs.toList.drop o).take 1 = [.int .i64 k] := by
    intro j o f hj hof hcf huf
    obtain ⟨n1, y1, e1⟩ := fld_cells ht hf hj
    rw [hof, hcf] at e1
    obtain ⟨k, hk, _⟩ := DataW.trod_int (k := .i64) huf e1
    exact ⟨k, hk⟩
  obtain ⟨x1, p1⟩ := one 1 1 f1 rfl ho.2.1 hc.2.1 hi.1
  obtain ⟨x2, p2⟩ := one 2 2 f2 rfl ho.2.2.1 hc.2.2.1 hi.2.1
  obtain ⟨x3, p3⟩ := one 3 3 f3 rfl ho.2.2.2.1 hc.2.2.2.1 hi.2.2.1
  obtain ⟨x4, p4⟩ := one 4 4 f4 rfl ho.2.2.2.2.1 hc.2.2.2.2.1 hi.2.2.2.1
  obtain ⟨x5, p5⟩ := one 5 5 f5 rfl ho.2.2.2.2.2.1 hc.2.2.2.2.2.1 hi.2.2.2.2.1
  obtain ⟨x6, p6⟩ := one 6 6 f6 rfl ho.2.2.2.2.2.2.1 hc.2.2.2.2.2.2.1 hi.2.2.2.2.2.1
  obtain ⟨x7, p7⟩ := one 7 7 f7 rfl ho.2.2.2.2.2.2.2 hc.2.2.2.2.2.2.2 hi.2.2.2.2.2.2
  refine ⟨c, b, l, x1, x2, x3, x4, x5, x6, x7, ?_, q2⟩
  obtain ⟨cl⟩ := cs
  match cl, hlen with
  | [z0, z1, z2, z3, z4, z5, z6, z7], _ =>
    have q1 : [z0] = [c] := q1
    have p1 : [z1] = [Value.int .i64 x1] := p1
    have p2 : [z2] = [Value.int .i64 x2] := p2
    have p3 : [z3] = [Value.int .i64 x3] := p3
    have p4 : [z4] = [Value.int .i64 x4] := p4
    have p5 : [z5] = [Value.int .i64 x5] := p5
    have p6 : [z6] = [Value.int .i64 x6] := p6
    have p7 : [z7] = [Value.int .i64 x7] := p7
    simp_all
end
end Go.Proofs.Ytdnokdgkccnbnaa.Ax
