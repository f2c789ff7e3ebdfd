/- Slices of the abstract machine, seen as lists. -/
import Derived.Test.YtdnokdgkccnbnaaAy1
set_option linter.unusedSimpArgs false
set_option linter.unusedVariables false
namespace Go.Proofs.Ytdnokdgkccnbnaa.Ax
open Go

/-- A slice of 'n' elements whose cells are these. -/
def View (H : Hp) (sz : Nat) (v : Value) (cells : List Value) (n : Nat) : Prop :=
  cells.length = n * sz ∧ ((n = 0 ∧ (v = nilS ∨ ∃ i o q c, v = .slice (some ⟨i, o, some q⟩) 0 c)) ∨ ∃ i o c cs e rw, v = .slice (some ⟨i, o, none⟩) n c ∧ H i = some (.row cs e rw) ∧ o + n * sz ≤ cs.length ∧ (cs.drop o).take (n * sz) = cells)

theorem View.len {H : Hp} {sz : Nat} {v : Value} {cells : List Value} {n : Nat} (h : View H sz v cells n) : lenV false v = some (.int .i64 n) := by
  obtain ⟨_, h | ⟨i, o, c, cs, e, rw, rfl, _⟩⟩ := h
  · obtain ⟨rfl, rfl | ⟨i, o, q, c, rfl⟩⟩ := h <;> rfl
  · rfl
theorem ld_cell {H : Hp} {i p : Nat} {cs : List Value} {e : Nat} {rw : Bool} {sz : Nat} {v : Value} (h : H i = some (.row cs e rw)) (hv : cs[p]? = some v) : ld false sz (ptr i p) H = some v := by
  simp [ld, ldc, cellsAt, h, hv]
theorem ld_agg {H : Hp} {i p : Nat} {cs : List Value} {e : Nat} {rw : Bool} {sz : Nat} (h : H i = some (.row cs e rw)) (hv : p + sz ≤ cs.length) : ld true sz (ptr i p) H = some (.agg ⟨(cs.drop p).take sz⟩) := by
  simp [ld, lda, cellsAt, h, hv]
theorem View.idx {H : Hp} {sz : Nat} {v : Value} {cells : List Value} {n : Nat} (h : View H sz v cells n) {k : IntKind} {j : Int} (h0 : 0 ≤ j) (h1 : j < n) :
    ∃ p, idxA sz v (.int k j) = some p ∧ (∀ x, sz = 1 → cells[j.toNat]? = some x → ld false 1 p H = some x) ∧ ld true sz p H = some (.agg ⟨(cells.drop (j.toNat * sz)).take sz⟩) := by
  obtain ⟨hl, h | ⟨i, o, c, cs, e, rw, rfl, hi, hle, hcs⟩⟩ := h
  · omega
  · have hj : j.toNat < n := by omega
    have hmul : j.toNat * sz + sz ≤ n * sz := by
      have := Nat.mul_le_mul_right sz (show j.toNat + 1 ≤ n from hj)
      rw [Nat.add_mul, Nat.one_mul] at this
      exact this
    refine ⟨ptr i (o + j.toNat * sz), by simp [idxA, h0, h1], ?_, ?_⟩
    · intro x hs hx
      subst hs
      refine ld_cell hi ?_
      rw [← hcs, List.getElem?_take] at hx
      split at hx
      · rw [List.getElem?_drop] at hx
        rw [Nat.mul_one]; exact hx
      · cases hx
    · rw [ld_agg hi (by omega), ← hcs]
      congr 2
      congr 1
      rw [List.drop_take, List.drop_drop, List.take_take]
      congr 1
      omega
theorem View.le {H H' : Hp} {sz : Nat} {v : Value} {cells : List Value} {n : Nat} (h : View H sz v cells n) (hv : ∀ i o a c, v = .slice (some ⟨i, o, none⟩) a c → H' i = H i) : View H' sz v cells n := by
  obtain ⟨hl, h | ⟨i, o, c, cs, e, rw, rfl, hi, hle, hcs⟩⟩ := h
  · exact ⟨hl, .inl h⟩
  · exact ⟨hl, .inr ⟨i, o, c, cs, e, rw, rfl, by rw [hv i o n c rfl]; exact hi, hle, hcs⟩⟩
theorem View.new {H : Hp} {id sz e n : Nat} {cs : List Value} {rw : Bool} (h : H id = some (.row cs e rw)) (hl : cs.length = n * sz) : View H sz (sl id 0 n) cs n :=
  ⟨hl, .inr ⟨id, 0, 0, cs, e, rw, rfl, h, by omega, by rw [List.drop_zero, ← hl, List.take_length]⟩⟩
theorem View.nil {H : Hp} {sz : Nat} : View H sz nilS [] 0 := ⟨by simp, .inl ⟨rfl, .inl rfl⟩⟩

abbrev bytesV (l : List Int) : List Value := l.map (Value.int .u8)
abbrev intsV (l : List Int) : List Value := l.map (Value.int .i64)

/-- What lies below 'n' stays. -/
def Same (n : Nat) (H H' : Hp) : Prop := ∀ i, i < n → H' i = H i
theorem Same.refl (n : Nat) (H : Hp) : Same n H H := fun _ _ => rfl
theorem Same.trans {n n1 : Nat} {H H1 H2 : Hp} (h : Same n H H1) (h1 : Same n1 H1 H2) (hn : n ≤ n1) : Same n H H2 := fun i hi => (h1 i (by omega)).trans (h i hi)
theorem Same.less {n n1 : Nat} {H H1 : Hp} (h : Same n1 H H1) (hn : n ≤ n1) : Same n H H1 := fun i hi => h i (by omega)

end Go.Proofs.Ytdnokdgkccnbnaa.Ax
