/- Parameters that lie in memory, handed in as objects that are only read: slices of numbers. -/
import Derived.Test.YtdnokdgkccnbnaaAx19
import Derived.Test.YtdnokdgkccnbnaaAy2
set_option linter.unusedSimpArgs false
set_option linter.unusedVariables false
namespace Go.Proofs.Ytdnokdgkccnbnaa.Ax
open Go Go.RowKit

theorem HR.ro {G : Gh} {H : Hp} {w : World} (h : ∀ i o g, H i = some o → G i = some g → rwObj o = false ∧ OR G g o w.heap[g.blk]?) : HR G H w :=
  ⟨fun i o g hi hg => (h i o g hi hg).2, fun i j oi oj gi gj _ hi hj hr hgi hgj => by rw [(h i oi gi hi hgi).1] at hr; cases hr⟩

/-- What is told of a slice of numbers that is handed in (the printed rows' form). -/
def NumRow (k : IntKind) (w : World) (a : Option Addr) (len cap : Nat) (zs : List Int) : Prop :=
  (a = none ∧ len = 0 ∧ cap = 0 ∧ zs = []) ∨
  ∃ x, a = some x ∧ len ≤ cap ∧ cap ≤ maxLen ∧ zs.length = cap ∧ (∀ i, i < zs.length → w.cell? (x.add i) = some (.int k (zs.getD i 0))) ∧ ∀ n ∈ zs, (Lit.int k n).wf = true

theorem nums_param {k : IntKind} {W : World} {a : Option Addr} {len cap : Nat} {zs : List Int} (h : NumRow k W a len cap zs) (j : Nat) :
    ∃ (v : Value) (ob : Option Obj) (gi : Option GI), (ob.isSome → gi.isSome) ∧ (∀ G : Gh, G j = gi → VR G v (.slice a len cap)) ∧ (∀ o g, ob = some o → gi = some g → ∀ G : Gh, rwObj o = false ∧ OR G g o W.heap[g.blk]?) ∧
      (∀ H : Hp, H j = ob → View H 1 v ((zs.take len).map (Value.int k)) len) ∧ (zs.take len).length = len ∧ ∀ n ∈ zs, (Lit.int k n).wf = true := by
  rcases h with ⟨rfl, rfl, rfl, rfl⟩ | ⟨x, rfl, h1, h2, h3, h4, h5⟩
  · exact ⟨nilS, none, none, fun h => h, fun G _ => .sr .nils, fun o g h => (by cases h), fun H _ => View.nil, rfl, by simp⟩
  · have hlen : (zs.take len).length = len := by rw [List.length_take]; omega
    by_cases hl : len = 0
    · subst hl
      exact ⟨emptyS, none, none, fun h => h, fun G _ => .sr .emp, fun o g h => (by cases h), fun H _ => ⟨by simp, .inl ⟨rfl, .inr ⟨0, 0, 0, 0, rfl⟩⟩⟩, hlen, h5⟩
    · obtain ⟨b, off, sp⟩ := x
      have h0 := h4 0 (by omega)
      have hsp : sp = none := by
        unfold Addr.add at h0
        rw [if_pos rfl] at h0
        unfold World.cell? at h0
        simp only at h0
        split at h0
        · split at h0
          · cases h0
          · rename_i hs; cases sp with
            | none => rfl
            | some q => exact absurd rfl hs
        · cases h0
      subst hsp
      have hadd : ∀ i, (⟨b, off, none⟩ : Addr).add i = ⟨b, off + i, none⟩ := by
        intro i; unfold Addr.add; split
        · rename_i h; subst h; rfl
        · rfl
      obtain ⟨cs', ty, fr, hb⟩ : ∃ cs' ty fr, W.heap[b]? = some (.cells cs' ty fr) := by
        rw [hadd] at h0
        unfold World.cell? at h0
        simp only at h0
        split at h0
        · rename_i c e f hh; exact ⟨c, e, f, hh⟩
        · cases h0
      have hc : ∀ i, i < zs.length → cs'[off + i]? = some (.int k (zs.getD i 0)) := by
        intro i hi
        have := h4 i hi
        rw [hadd, cell_of hb] at this
        exact this
      refine ⟨sl j 0 len, some (.row ((zs.take len).map (Value.int k)) 0 false), some ⟨b, off, 0, 0, false⟩, fun _ => rfl, ?_, ?_, ?_, hlen, h5⟩
      · intro G hG
        have := SR.sl (G := G) (i := j) (o := 0) (n := len) (c := 0) (c' := cap) hG h1 (fun hr => by cases hr)
        exact .sr this
      · intro o g ho hg G
        cases ho; cases hg
        refine ⟨rfl, (⟨⟨cs', ty, fr, hb, ?_, fun hr => by cases hr⟩, rfl, fun hr => by cases hr⟩ : RowOk G ⟨b, off, 0, 0, false⟩ _ 0 false _)⟩
        have hsz : off + len ≤ cs'.size := by
          have := hc (len - 1) (by omega)
          have := (Array.getElem?_eq_some_iff.1 this).1
          omega
        refine ⟨by rw [List.length_map, hlen]; exact hsz, ?_⟩
        have he : (cs'.toList.drop off).take ((zs.take len).map (Value.int k)).length = (zs.take len).map (Value.int k) := by
          rw [List.length_map, hlen]
          apply List.ext_getElem?
          intro i
          rw [List.getElem?_take, List.getElem?_map, List.getElem?_take]
          split
          · rename_i hi
            have hiz : i < zs.length := by omega
            rw [List.getElem?_drop, Array.getElem?_toList, hc i hiz, List.getElem?_eq_getElem hiz]
            simp [List.getD_eq_getElem?_getD, hiz]
          · rfl
        rw [he]
        exact All2.refl_of fun x hx => by
          obtain ⟨n, _, rfl⟩ := List.mem_map.1 hx
          exact .s (.int _ _)
      · intro H hH
        exact View.new (e := 0) (rw := false) hH (by rw [List.length_map, hlen, Nat.mul_one])

/-- From the abstract machine's answer to the model's call, where what is handed in is only read. -/
theorem ro_walk {P : Program} (hm : P.follows .mixedOrders = true) {f : Nat} {args args' : List Value} {H : Hp} {n : Nat} {G : Gh} {W : World} (hH : HR G H W) (hro : ∀ i o, H i = some o → rwObj o = false) (hF : Fresh G H n) (ha : All2 (VR G) args args') {b : Bool} {H' : Hp} {n' : Nat} (h : Call P f args H n = some (.bool b, H', n')) :
    Calls P f ⟨args'⟩ W fun e W' => e = .returned (.bool b) ∧ Below W.heap.size W W' := by
  refine Calls.mono (Call_sim hm h ha hH hF) ?_
  rintro e W' ⟨v', G', rfl, hv, _, hp⟩
  refine ⟨by rw [hv.boolS], hp.fr.os, hp.fr.tape, hp.fr.output, hp.fr.size, fun k hk => hp.fr.same k hk ?_⟩
  rintro ⟨i, o, g, hi, hr, _⟩
  rw [hro i o hi] at hr; cases hr

end Go.Proofs.Ytdnokdgkccnbnaa.Ax
