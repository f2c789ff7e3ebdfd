/- Parameters that lie in memory, handed in as objects that are only read: slices of anything plain. -/
import Derived.Test.YtdnokdgkccnbnaaAx20
import Derived.Test.YtdnokdgkccnbnaaAy3
set_option linter.unusedSimpArgs false
set_option linter.unusedVariables false
namespace Go.Proofs.Ytdnokdgkccnbnaa.Ax
open Go Go.RowKit

/-- An object that stands for what is handed in, and where it lies. -/
structure Ob (W : World) where
  ob : Option Obj
  gi : Option GI
  hs : ob.isSome = true → gi.isSome = true
  ok : ∀ o g, ob = some o → gi = some g → ∀ G : Gh, rwObj o = false ∧ OR G g o W.heap[g.blk]?
def obsH {W : World} (l : List (Ob W)) : Hp := fun i => (l[i]?).bind Ob.ob
def obsG {W : World} (l : List (Ob W)) : Gh := fun i => (l[i]?).bind Ob.gi
theorem obsH_at {W : World} {l : List (Ob W)} {i : Nat} {o : Ob W} (h : l[i]? = some o) : obsH l i = o.ob := by simp [obsH, h]
theorem obsG_at {W : World} {l : List (Ob W)} {i : Nat} {o : Ob W} (h : l[i]? = some o) : obsG l i = o.gi := by simp [obsG, h]
theorem obs_HR {W : World} (l : List (Ob W)) : HR (obsG l) (obsH l) W := by
  refine HR.ro fun i o g ho hg => ?_
  cases h : l[i]? with
  | none => simp [obsH, h] at ho
  | some b =>
    rw [obsH_at h] at ho
    rw [obsG_at h] at hg
    exact b.ok o g ho hg _
theorem obs_ro {W : World} (l : List (Ob W)) : ∀ i o, obsH l i = some o → rwObj o = false := by
  intro i o ho
  cases h : l[i]? with
  | none => simp [obsH, h] at ho
  | some b =>
    rw [obsH_at h] at ho
    have := b.hs (by rw [ho]; rfl)
    obtain ⟨g, hg⟩ := Option.isSome_iff_exists.1 this
    exact (b.ok o g ho hg (obsG l)).1
theorem obs_fresh {W : World} (l : List (Ob W)) : Fresh (obsG l) (obsH l) l.length := by
  intro i hi
  have : l[i]? = none := List.getElem?_eq_none hi
  simp [obsG, obsH, this]
theorem obs_walk {P : Program} (hm : P.follows .mixedOrders = true) {f : Nat} {args args' : List Value} {W : World} (l : List (Ob W)) (ha : All2 (VR (obsG l)) args args') {b : Bool} {H' : Hp} {n' : Nat} (h : Call P f args (obsH l) l.length = some (.bool b, H', n')) :
    Calls P f ⟨args'⟩ W fun e W' => e = .returned (.bool b) ∧ Below W.heap.size W W' :=
  ro_walk hm (obs_HR l) (obs_ro l) (obs_fresh l) ha h

/-- What is told of a slice that is handed in: its cells. -/
def CRow (sz : Nat) (w : World) (a : Option Addr) (len cap : Nat) (cells : List Value) : Prop :=
  cells.length = len * sz ∧ (∀ c ∈ cells, gnd1 c = true) ∧ ((a = none ∧ len = 0 ∧ cap = 0) ∨ ∃ x, a = some x ∧ len ≤ cap ∧ ∀ i c, cells[i]? = some c → w.cell? (x.add i) = some c)

theorem slice_param {sz : Nat} {W : World} {a : Option Addr} {len cap : Nat} {cells : List Value} (h : CRow sz W a len cap cells) (hsz : 0 < sz) :
    ∃ b : Ob W, ∀ j, ∃ v, (∀ G : Gh, G j = b.gi → SR G v (.slice a len cap)) ∧ ∀ H n, H j = b.ob → j < n → View H sz v cells len ∧ Old n v := by
  obtain ⟨hl, hg, ⟨rfl, rfl, rfl⟩ | ⟨x, rfl, h1, h4⟩⟩ := h
  · have : cells = [] := List.length_eq_zero_iff.1 (by rw [hl, Nat.zero_mul])
    subst this
    exact ⟨⟨none, none, fun h => h, fun o g h => by cases h⟩, fun j => ⟨nilS, fun G _ => .nils, fun H n _ _ => ⟨View.nil, fun i o a c h => by cases h⟩⟩⟩
  · by_cases hlen : len = 0
    · subst hlen
      have : cells = [] := List.length_eq_zero_iff.1 (by rw [hl, Nat.zero_mul])
      subst this
      exact ⟨⟨none, none, fun h => h, fun o g h => by cases h⟩, fun j => ⟨emptyS, fun G _ => .emp, fun H n _ _ => ⟨⟨by simp, .inl ⟨rfl, .inr ⟨0, 0, 0, 0, rfl⟩⟩⟩, fun i o a c h => by cases h⟩⟩⟩
    · obtain ⟨b, off, sp⟩ := x
      have hpos : 0 < cells.length := by rw [hl]; exact Nat.mul_pos (by omega) hsz
      have h0 := h4 0 (cells[0]) (by simp [hpos])
      have hsp : sp = none := by
        unfold Addr.add at h0
        rw [if_pos rfl] at h0
        unfold World.cell? at h0
        simp only at h0
        split at h0
        · split at h0
          · cases h0
          · rename_i hs; cases sp with
            | none => rfl
            | some q => exact absurd rfl hs
        · cases h0
      subst hsp
      have hadd : ∀ i, (⟨b, off, none⟩ : Addr).add i = ⟨b, off + i, none⟩ := by
        intro i; unfold Addr.add; split
        · rename_i h; subst h; rfl
        · rfl
      obtain ⟨cs', ty, fr, hb⟩ : ∃ cs' ty fr, W.heap[b]? = some (.cells cs' ty fr) := by
        rw [hadd] at h0
        unfold World.cell? at h0
        simp only at h0
        split at h0
        · rename_i c e f hh; exact ⟨c, e, f, hh⟩
        · cases h0
      have hc : ∀ i c, cells[i]? = some c → cs'[off + i]? = some c := by
        intro i c hi
        have := h4 i c hi
        rw [hadd, cell_of hb] at this
        exact this
      refine ⟨⟨some (.row cells 0 false), some ⟨b, off, 0, 0, false⟩, fun _ => rfl, ?_⟩, fun j => ⟨sl j 0 len, ?_, ?_⟩⟩
      · intro o g ho hg' G
        cases ho; cases hg'
        refine ⟨rfl, (⟨⟨cs', ty, fr, hb, ?_, fun hr => by cases hr⟩, rfl, fun hr => by cases hr⟩ : RowOk G ⟨b, off, 0, 0, false⟩ _ 0 false _)⟩
        have hsz' : off + cells.length ≤ cs'.size := by
          have := hc (cells.length - 1) (cells[cells.length - 1]'(by omega)) (by simp [hpos])
          have := (Array.getElem?_eq_some_iff.1 this).1
          omega
        refine ⟨hsz', ?_⟩
        have he : (cs'.toList.drop off).take cells.length = cells := by
          apply List.ext_getElem?
          intro i
          rw [List.getElem?_take]
          split
          · rename_i hi
            rw [List.getElem?_drop, Array.getElem?_toList, hc i cells[i] (by simp [hi])]
            simp [hi]
          · rw [List.getElem?_eq_none (by omega)]
        rw [he]
        exact gnds_cr (List.all_eq_true.2 hg)
      · intro G hG
        have := SR.sl (G := G) (i := j) (o := 0) (n := len) (c := 0) (c' := cap) hG h1 (fun hr => by cases hr)
        exact this
      · intro H n hH hj
        exact ⟨View.new (e := 0) (rw := false) hH hl, fun i o a c h => by cases h; exact hj⟩
/-- A slice of numbers. -/
theorem NumRow.crow {k : IntKind} {w : World} {a : Option Addr} {len cap : Nat} {zs : List Int} (h : NumRow k w a len cap zs) : CRow 1 w a len cap ((zs.take len).map (Value.int k)) ∧ (zs.take len).length = len ∧ ∀ n ∈ zs.take len, (Lit.int k n).wf = true := by
  rcases h with ⟨rfl, rfl, rfl, rfl⟩ | ⟨x, rfl, h1, h2, h3, h4, h5⟩
  · exact ⟨⟨rfl, by simp, .inl ⟨rfl, rfl, rfl⟩⟩, rfl, by simp⟩
  · have hlen : (zs.take len).length = len := by rw [List.length_take]; omega
    refine ⟨⟨by rw [List.length_map, hlen, Nat.mul_one], fun c hc => ?_, .inr ⟨x, rfl, h1, fun i c hc => ?_⟩⟩, hlen, fun n hn => h5 n (List.mem_of_mem_take hn)⟩
    · obtain ⟨n, _, rfl⟩ := List.mem_map.1 hc; rfl
    · rw [List.getElem?_map, List.getElem?_take] at hc
      split at hc
      · rename_i hi
        have hiz : i < zs.length := by omega
        rw [h4 i hiz]
        simp [hiz] at hc
        rw [← hc]
        simp [List.getD_eq_getElem?_getD, hiz]
      · cases hc
theorem map_flat (E : Enc Int) (f : Int → Value) (h : ∀ x, E.cells x = [f x]) (l : List Int) : l.flatMap E.cells = l.map f := by
  induction l with
  | nil => rfl
  | cons x l ih => rw [List.flatMap_cons, h, ih]; rfl
theorem u8_wf {n : Int} (h : (Lit.int .u8 n).wf = true) : 0 ≤ n ∧ n ≤ 255 := by
  simp [Lit.wf] at h
  exact h
theorem i64_wf {n : Int} (h : (Lit.int .i64 n).wf = true) : -9223372036854775808 ≤ n ∧ n ≤ 9223372036854775807 := by
  simp [Lit.wf] at h
  exact h
theorem bytes_param {W : World} {a : Option Addr} {len cap : Nat} {zs : List Int} (h : NumRow .u8 W a len cap zs) : ∃ (b : Ob W) (l : List Int), (∀ c ∈ l, 0 ≤ c ∧ c ≤ 255) ∧ ∀ j, ∃ v, (∀ G : Gh, G j = b.gi → SR G v (.slice a len cap)) ∧ ∀ H n, H j = b.ob → j < n → Li eByte n H v l := by
  obtain ⟨h1, h2, h3⟩ := h.crow
  obtain ⟨b, hb⟩ := slice_param h1 (by decide)
  refine ⟨b, zs.take len, fun c hc => u8_wf (h3 c hc), fun j => ?_⟩
  obtain ⟨v, hv, hw⟩ := hb j
  refine ⟨v, hv, fun H n hH hj => ?_⟩
  obtain ⟨w1, w2⟩ := hw H n hH hj
  refine ⟨?_, w2⟩
  rw [map_flat eByte (Value.int .u8) (fun _ => rfl), h2]
  exact w1
theorem ints_param {W : World} {a : Option Addr} {len cap : Nat} {zs : List Int} (h : NumRow .i64 W a len cap zs) : ∃ (b : Ob W) (l : List Int), (∀ c ∈ l, -9223372036854775808 ≤ c ∧ c ≤ 9223372036854775807) ∧ ∀ j, ∃ v, (∀ G : Gh, G j = b.gi → SR G v (.slice a len cap)) ∧ ∀ H n, H j = b.ob → j < n → Li eInt n H v l := by
  obtain ⟨h1, h2, h3⟩ := h.crow
  obtain ⟨b, hb⟩ := slice_param h1 (by decide)
  refine ⟨b, zs.take len, fun c hc => i64_wf (h3 c hc), fun j => ?_⟩
  obtain ⟨v, hv, hw⟩ := hb j
  refine ⟨v, hv, fun H n hH hj => ?_⟩
  obtain ⟨w1, w2⟩ := hw H n hH hj
  refine ⟨?_, w2⟩
  rw [map_flat eInt (Value.int .i64) (fun _ => rfl), h2]
  exact w1
end Go.Proofs.Ytdnokdgkccnbnaa.Ax
