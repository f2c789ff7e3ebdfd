/- More laws for going through bodies: single elements, boxes, what stays. -/
import Derived.Test.YtdnokdgkccnbnaaAy3
set_option linter.unusedVariables false
set_option linter.unusedSimpArgs false
namespace Go.Proofs.Ytdnokdgkccnbnaa.Ax
open Go

/-- The thing at a place. -/
def gi {α : Type} [Inhabited α] (l : List α) (i : Int) : α := l.getD i.toNat default
theorem gi_at {α : Type} [Inhabited α] {l : List α} {i : Int} (h0 : 0 ≤ i) (h1 : i < l.length) : gi l i = l[i.toNat]'(by omega) := by
  unfold gi
  rw [List.getD_eq_getElem?_getD, List.getElem?_eq_getElem (by omega)]
  rfl
theorem gi_nat {α : Type} [Inhabited α] {l : List α} {j : Nat} (h : j < l.length) : gi l (j : Int) = l[j] := gi_at (by omega) (by omega)
theorem gi_mem {α : Type} [Inhabited α] {l : List α} {i : Int} (h0 : 0 ≤ i) (h1 : i < l.length) : gi l i ∈ l := by rw [gi_at h0 h1]; exact List.getElem_mem _
theorem gi_app {α : Type} [Inhabited α] {l m : List α} {i : Int} (h1 : i < l.length) (h0 : 0 ≤ i) : gi (l ++ m) i = gi l i := by
  rw [gi_at h0 h1, gi_at h0 (by rw [List.length_append]; omega)]
  exact List.getElem_append_left (by omega)
theorem gi_last {α : Type} [Inhabited α] (l : List α) (x : α) : gi (l ++ [x]) (l.length : Int) = x := by
  rw [gi_nat (by simp)]; simp

namespace Li
variable {n : Nat} {H : Hp} {v : Value}
theorem nAll {l : List Nd} (h : Li eNode n H v l) {i : Int} (h0 : 0 ≤ i) (h1 : i < l.length) :
    (∀ k, idxA 5 v (.int k i) = some (elP 5 v i.toNat)) ∧ ld true 5 (elP 5 v i.toNat) H = some (.agg ⟨(gi l i).cells⟩) ∧ (∀ f, fieldA f (elP 5 v i.toNat) = some (elF 5 v i.toNat f)) ∧
    ld false 1 (elF 5 v i.toNat 0) H = some (.int .i64 (gi l i).k) ∧ ld false 1 (elF 5 v i.toNat 1) H = some (.int .i64 (gi l i).n) ∧ ld false 1 (elF 5 v i.toNat 2) H = some (.string (gi l i).s) ∧
    ld false 1 (elF 5 v i.toNat 3) H = some (.int .i64 (gi l i).a) ∧ ld false 1 (elF 5 v i.toNat 4) H = some (.int .i64 (gi l i).b) := by
  rw [gi_at h0 h1]
  exact ⟨fun k => h.idx h0 h1, h.lda h0 h1, fun f => h.fld h0 h1 f, h.ldf h0 h1 rfl, h.ldf h0 h1 rfl, h.ldf h0 h1 rfl, h.ldf h0 h1 rfl, h.ldf h0 h1 rfl⟩
theorem sAll {l : List Ins} (h : Li eIns n H v l) {i : Int} (h0 : 0 ≤ i) (h1 : i < l.length) :
    (∀ k, idxA 4 v (.int k i) = some (elP 4 v i.toNat)) ∧ ld true 4 (elP 4 v i.toNat) H = some (.agg ⟨(gi l i).cells⟩) ∧ (∀ f, fieldA f (elP 4 v i.toNat) = some (elF 4 v i.toNat f)) ∧
    ld false 1 (elF 4 v i.toNat 0) H = some (.int .i64 (gi l i).op) ∧ ld false 1 (elF 4 v i.toNat 1) H = some (.int .i64 (gi l i).n) ∧ ld false 1 (elF 4 v i.toNat 2) H = some (.int .i64 (gi l i).i) ∧
    ld false 1 (elF 4 v i.toNat 3) H = some (.string (gi l i).s) := by
  rw [gi_at h0 h1]
  exact ⟨fun k => h.idx h0 h1, h.lda h0 h1, fun f => h.fld h0 h1 f, h.ldf h0 h1 rfl, h.ldf h0 h1 rfl, h.ldf h0 h1 rfl, h.ldf h0 h1 rfl⟩
theorem dAll {l : List Df} (h : Li eDef n H v l) {i : Int} (h0 : 0 ≤ i) (h1 : i < l.length) :
    (∀ k, idxA 3 v (.int k i) = some (elP 3 v i.toNat)) ∧ ld true 3 (elP 3 v i.toNat) H = some (.agg ⟨(gi l i).cells⟩) ∧ (∀ f, fieldA f (elP 3 v i.toNat) = some (elF 3 v i.toNat f)) ∧
    ld false 1 (elF 3 v i.toNat 0) H = some (.string (gi l i).s) ∧ ld false 1 (elF 3 v i.toNat 1) H = some (.int .i64 (gi l i).at_) ∧ ld false 1 (elF 3 v i.toNat 2) H = some (.int .i64 (gi l i).args) := by
  rw [gi_at h0 h1]
  exact ⟨fun k => h.idx h0 h1, h.lda h0 h1, fun f => h.fld h0 h1 f, h.ldf h0 h1 rfl, h.ldf h0 h1 rfl, h.ldf h0 h1 rfl⟩
theorem iAll {l : List Int} (h : Li eInt n H v l) {i : Int} (h0 : 0 ≤ i) (h1 : i < l.length) : (∀ k, idxA 1 v (.int k i) = some (elP 1 v i.toNat)) ∧ ld false 1 (elP 1 v i.toNat) H = some (.int .i64 (gi l i)) := by
  rw [gi_at h0 h1]
  exact ⟨fun k => h.idx h0 h1, h.ldc h0 h1 rfl⟩
theorem bAll {l : List Int} (h : Li eByte n H v l) {i : Int} (h0 : 0 ≤ i) (h1 : i < l.length) : (∀ k, idxA 1 v (.int k i) = some (elP 1 v i.toNat)) ∧ ld false 1 (elP 1 v i.toNat) H = some (.int .u8 (gi l i)) := by
  rw [gi_at h0 h1]
  exact ⟨fun k => h.idx h0 h1, h.ldc h0 h1 rfl⟩
theorem oAll {l : List Bool} (h : Li eBool n H v l) {i : Int} (h0 : 0 ≤ i) (h1 : i < l.length) : (∀ k, idxA 1 v (.int k i) = some (elP 1 v i.toNat)) ∧ ld false 1 (elP 1 v i.toNat) H = some (.bool (gi l i)) := by
  rw [gi_at h0 h1]
  exact ⟨fun k => h.idx h0 h1, h.ldc h0 h1 rfl⟩
theorem tAll {l : List ByteArray} (h : Li eStr n H v l) {i : Int} (h0 : 0 ≤ i) (h1 : i < l.length) : (∀ k, idxA 1 v (.int k i) = some (elP 1 v i.toNat)) ∧ ld false 1 (elP 1 v i.toNat) H = some (.string (gi l i)) := by
  rw [gi_at h0 h1]
  exact ⟨fun k => h.idx h0 h1, h.ldc h0 h1 rfl⟩
end Li

/-! ### Boxes that were just set -/
theorem ld_set (H : Hp) (i j o sz : Nat) (cs : List Value) (e : Nat) (rw : Bool) : ld false sz (ptr i o) (H.set j (some (.row cs e rw))) = if i = j then cs[o]? else ld false sz (ptr i o) H := by
  by_cases h : i = j
  · subst h; rw [if_pos rfl, ld_box (Hp_same _ _ _)]
  · rw [if_neg h]; simp [ld, Ax.ldc, cellsAt, Hp_ne _ _ h]
theorem ldA_set (H : Hp) (i j o sz : Nat) (cs : List Value) (e : Nat) (rw : Bool) : ld true sz (ptr i o) (H.set j (some (.row cs e rw))) = if i = j then (if o + sz ≤ cs.length then some (.agg ⟨(cs.drop o).take sz⟩) else none) else ld true sz (ptr i o) H := by
  by_cases h : i = j
  · subst h; rw [if_pos rfl, ldA_box (Hp_same _ _ _)]
  · rw [if_neg h]; simp [ld, Ax.lda, cellsAt, Hp_ne _ _ h]
theorem Hp_set_set (H : Hp) (i : Nat) (a b : Option Obj) : (H.set i a).set i b = H.set i b := by
  funext j; unfold Hp.set; split <;> rfl
theorem stv_set (H : Hp) (i o : Nat) (cs vs : List Value) (e : Nat) : stv (ptr i o) vs (H.set i (some (.row cs e true))) = if o + vs.length ≤ cs.length then some (H.set i (some (.row (setAt cs o vs) e true))) else none := by
  rw [stv_box (Hp_same _ _ _), Hp_set_set]
theorem st_i (a : Value) (k : IntKind) (x : Int) (H : Hp) : st false 1 a (.int k x) H = stv a [.int k x] H := rfl
theorem st_s (a : Value) (x : ByteArray) (H : Hp) : st false 1 a (.string x) H = stv a [.string x] H := rfl
theorem st_b (a : Value) (x : Bool) (H : Hp) : st false 1 a (.bool x) H = stv a [.bool x] H := rfl
theorem st_l (a : Value) (p : Option Addr) (n c : Nat) (H : Hp) : st false 1 a (.slice p n c) H = stv a [.slice p n c] H := rfl
theorem st_p (a : Value) (p : Option Addr) (H : Hp) : st false 1 a (.pointer p) H = stv a [.pointer p] H := rfl
theorem st_agg (a : Value) (sz : Nat) (cs : List Value) (H : Hp) : st true sz a (.agg ⟨cs⟩) H = if cs.length = sz then stv a cs H else none := rfl
theorem vcells_s (x : ByteArray) : vcells (.string x) = some [.string x] := rfl
theorem vcells_b (x : Bool) : vcells (.bool x) = some [.bool x] := rfl
theorem vcells_l (p : Option Addr) (n c : Nat) : vcells (.slice p n c) = some [.slice p n c] := rfl
theorem vcells_i (k : IntKind) (x : Int) : vcells (.int k x) = some [.int k x] := rfl
theorem ask_same {α : Type} {p : Prop} (h : p) (k : Option α) : ask p k = k := by unfold ask; rw [if_pos h]
theorem ask_true {α : Type} (k : Option α) : ask True k = k := ask_same trivial k

theorem Hp_at (H : Hp) (i j : Nat) (o : Option Obj) : H.set j o i = if i = j then o else H i := rfl
def rowGet (o : Option Obj) (p : Nat) : Option Value := match o with | some (.row cs _ _) => cs[p]? | _ => none
def rowAgg (o : Option Obj) (p sz : Nat) : Option Value := match o with | some (.row cs _ _) => if p + sz ≤ cs.length then some (.agg ⟨(cs.drop p).take sz⟩) else none | _ => none
def rowSt (H : Hp) (i p : Nat) (vs : List Value) (o : Option Obj) : Option Hp := match o with | some (.row cs e true) => if p + vs.length ≤ cs.length then some (H.set i (some (.row (setAt cs p vs) e true))) else none | _ => none
theorem rowGet_row (cs : List Value) (e : Nat) (rw : Bool) (p : Nat) : rowGet (some (.row cs e rw)) p = cs[p]? := rfl
theorem rowAgg_row (cs : List Value) (e : Nat) (rw : Bool) (p sz : Nat) : rowAgg (some (.row cs e rw)) p sz = if p + sz ≤ cs.length then some (.agg ⟨(cs.drop p).take sz⟩) else none := rfl
theorem rowSt_row (H : Hp) (i p : Nat) (vs cs : List Value) (e : Nat) : rowSt H i p vs (some (.row cs e true)) = if p + vs.length ≤ cs.length then some (H.set i (some (.row (setAt cs p vs) e true))) else none := rfl
theorem ld_r (sz i o : Nat) (H : Hp) : ld false sz (ptr i o) H = rowGet (H i) o := by
  cases h : H i with
  | none => simp [ld, Ax.ldc, cellsAt, h, rowGet]
  | some b => cases b <;> simp [ld, Ax.ldc, cellsAt, h, rowGet]
theorem ldA_r (sz i o : Nat) (H : Hp) : ld true sz (ptr i o) H = rowAgg (H i) o sz := by
  cases h : H i with
  | none => simp [ld, Ax.lda, cellsAt, h, rowAgg]
  | some b => cases b <;> simp [ld, Ax.lda, cellsAt, h, rowAgg]
theorem stv_r (i o : Nat) (vs : List Value) (H : Hp) : stv (ptr i o) vs H = rowSt H i o vs (H i) := by
  cases h : H i with
  | none => simp [stv, h, rowSt]
  | some b => cases b with
    | row cs e rw => cases rw <;> simp [stv, h, rowSt]
    | map es => simp [stv, h, rowSt]
/-! ### What stays -/
theorem Same.set {n i : Nat} {H H' : Hp} (h : Same n H H') (hi : n ≤ i) (o : Option Obj) : Same n H (H'.set i o) := fun j hj => by rw [Hp_ne _ _ (by omega)]; exact h j hj
theorem Same.at {n i : Nat} {H H' : Hp} (h : Same n H H') (hi : i < n) {o : Option Obj} (ho : H i = o) : H' i = o := by rw [h i hi]; exact ho

/-- A call that leaves all that was there as it was. -/
abbrev Rt (P : Program) (f : Nat) (args : List Value) (H : Hp) (n : Nat) (v : Value) : Prop := ∃ H' n', n ≤ n' ∧ Same n H H' ∧ Call P f args H n = some (v, H', n')
abbrev RtN (P : Program) (f : Nat) (args : List Value) (H : Hp) (n : Nat) (R : Value → Hp → Nat → Prop) : Prop := ∃ v H' n', n ≤ n' ∧ Same n H H' ∧ Call P f args H n = some (v, H', n') ∧ R v H' n'

/-! ### Lists that go on -/
theorem take_next {α : Type} {l : List α} {j : Nat} (h : j < l.length) : l.take (j + 1) = l.take j ++ [l[j]] := by rw [List.take_add_one, List.getElem?_eq_getElem h]; rfl
theorem wj {j : Nat} {len : Nat} (h : j < len) (hl : len ≤ 1000000000) : IntKind.i64.wrap ((j : Int) + 1) = ((j + 1 : Nat) : Int) := by rw [w64 (by omega)]; omega
theorem nats_lt {j len : Nat} : ((j : Int) < (len : Int)) = (j < len) := by apply propext; omega
end Go.Proofs.Ytdnokdgkccnbnaa.Ax
