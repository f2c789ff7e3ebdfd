/- How the abstract machine is gone through: what holds of each outcome, loops by what stays true, lists of things in memory. -/
import Derived.Test.YtdnokdgkccnbnaaAy2
set_option linter.unusedVariables false
set_option linter.unusedSimpArgs false
namespace Go.Proofs.Ytdnokdgkccnbnaa.Ax
open Go

theorem Hp_same (H : Hp) (i : Nat) (o : Option Obj) : H.set i o i = o := by simp [Hp.set]
theorem Hp_ne (H : Hp) {i j : Nat} (o : Option Obj) (h : j ≠ i) : H.set i o j = H j := by simp [Hp.set, h]

/-! ### Outcomes -/
def Wp {α : Type} (x : Option α) (Q : α → Prop) : Prop := ∃ a, x = some a ∧ Q a
theorem Wp.pure {α : Type} {a : α} {Q : α → Prop} (h : Q a) : Wp (some a) Q := ⟨a, rfl, h⟩
theorem Wp.bind {α β : Type} {x : Option α} {f : α → Option β} {R : α → Prop} {Q : β → Prop} (h : Wp x R) (k : ∀ a, R a → Wp (f a) Q) : Wp (x.bind f) Q := by
  obtain ⟨a, rfl, ha⟩ := h
  exact k a ha
theorem Wp.mono {α : Type} {x : Option α} {R Q : α → Prop} (h : Wp x R) (k : ∀ a, R a → Q a) : Wp x Q := by
  obtain ⟨a, rfl, ha⟩ := h
  exact ⟨a, rfl, k a ha⟩
theorem Wp_bind_some {α β : Type} {a : α} {f : α → Option β} {Q : β → Prop} : Wp ((some a).bind f) Q = Wp (f a) Q := rfl

/-- What a round leaves: either it goes on, with less to do, or it is done. -/
def Nxt (I : Nat → Tm → Hp → Nat → Prop) (d : Nat) (Q : Out → Prop) (o : Out) : Prop :=
  match o.e with
  | .normal => ∃ d', d' < d ∧ I d' o.t o.H o.n
  | _ => Q o
theorem Nxt.go {I : Nat → Tm → Hp → Nat → Prop} {d : Nat} {Q : Out → Prop} {t : Tm} {H : Hp} {n : Nat} (d' : Nat) (hd : d' < d) (h : I d' t H n) : Nxt I d Q ⟨.normal, t, H, n⟩ := ⟨d', hd, h⟩
theorem Nxt.exit {I : Nat → Tm → Hp → Nat → Prop} {d j : Nat} {Q : Out → Prop} {t : Tm} {H : Hp} {n : Nat} (h : Q ⟨.exit j, t, H, n⟩) : Nxt I d Q ⟨.exit j, t, H, n⟩ := h
theorem Nxt.ret {I : Nat → Tm → Hp → Nat → Prop} {d : Nat} {Q : Out → Prop} {t : Tm} {H : Hp} {n : Nat} (h : Q ⟨.ret, t, H, n⟩) : Nxt I d Q ⟨.ret, t, H, n⟩ := h

theorem Loop_rule {φ : Body} (I : Nat → Tm → Hp → Nat → Prop) (Q : Out → Prop) (step : ∀ d t H n, I d t H n → Wp (φ t H n) (Nxt I d Q)) : ∀ d t H n, I d t H n → Wp (Loop φ t H n) Q := by
  intro d
  induction d using Nat.strongRecOn with
  | _ d ih =>
    intro t H n hI
    obtain ⟨⟨oe, ot, oH, on⟩, e1, e2⟩ := step d t H n hI
    rw [Loop_eq, e1, Option.bind_some]
    unfold thenO
    cases oe with
    | normal =>
      obtain ⟨d', hd, hI'⟩ := e2
      exact ih d' hd _ _ _ hI'
    | exit j => exact ⟨_, rfl, e2⟩
    | ret => exact ⟨_, rfl, e2⟩

/-! ### Lists of things in memory -/
structure Enc (α : Type) where
  sz : Nat
  cells : α → List Value
  ok : ∀ x, (cells x).length = sz

theorem flat_len {α : Type} (E : Enc α) (l : List α) : (l.flatMap E.cells).length = l.length * E.sz := by
  induction l with
  | nil => simp
  | cons x l ih => rw [List.flatMap_cons, List.length_append, ih, E.ok, List.length_cons, Nat.add_mul, Nat.one_mul, Nat.add_comm]
theorem flat_drop {α : Type} (E : Enc α) : ∀ (l : List α) (j : Nat), (l.flatMap E.cells).drop (j * E.sz) = (l.drop j).flatMap E.cells
  | [], j => by simp
  | x :: l, 0 => by simp
  | x :: l, j + 1 => by
    rw [List.flatMap_cons, List.drop_succ_cons, ← flat_drop E l j, Nat.add_mul, Nat.one_mul, Nat.add_comm, ← List.drop_drop]
    rw [List.drop_left' (E.ok x)]
theorem flat_take {α : Type} (E : Enc α) : ∀ (l : List α) (j : Nat), (l.flatMap E.cells).take (j * E.sz) = (l.take j).flatMap E.cells
  | [], j => by simp
  | x :: l, 0 => by simp
  | x :: l, j + 1 => by
    rw [List.flatMap_cons, List.take_succ_cons, List.flatMap_cons, ← flat_take E l j, Nat.add_mul, Nat.one_mul, Nat.add_comm, List.take_append, E.ok]
    rw [List.take_of_length_le (by rw [E.ok]; omega)]
    congr 2; omega
theorem flat_at {α : Type} (E : Enc α) {l : List α} {j : Nat} (hj : j < l.length) : ((l.flatMap E.cells).drop (j * E.sz)).take E.sz = E.cells l[j] := by
  rw [flat_drop, List.drop_eq_getElem_cons hj, List.flatMap_cons, List.take_left' (E.ok _)]
theorem flat_cell {α : Type} (E : Enc α) {l : List α} {j f : Nat} (hj : j < l.length) (hf : f < E.sz) : (l.flatMap E.cells)[j * E.sz + f]? = (E.cells l[j])[f]? := by
  rw [← flat_at E hj, List.getElem?_take, if_pos hf, List.getElem?_drop]

abbrev eByte : Enc Int := ⟨1, fun x => [.int .u8 x], fun _ => rfl⟩
abbrev eInt : Enc Int := ⟨1, fun x => [.int .i64 x], fun _ => rfl⟩
abbrev eBool : Enc Bool := ⟨1, fun x => [.bool x], fun _ => rfl⟩
abbrev eStr : Enc ByteArray := ⟨1, fun x => [.string x], fun _ => rfl⟩
abbrev eVal : Enc Value := ⟨1, fun x => [x], fun _ => rfl⟩
structure Nd where
  k : Int
  n : Int
  s : ByteArray
  a : Int
  b : Int
deriving DecidableEq
instance : Inhabited Nd := ⟨⟨0, 0, ⟨#[]⟩, 0, 0⟩⟩
def Nd.cells (x : Nd) : List Value := [.int .i64 x.k, .int .i64 x.n, .string x.s, .int .i64 x.a, .int .i64 x.b]
abbrev eNode : Enc Nd := ⟨5, Nd.cells, fun _ => rfl⟩
structure Ins where
  op : Int
  n : Int
  i : Int
  s : ByteArray
deriving DecidableEq
instance : Inhabited Ins := ⟨⟨0, 0, 0, ⟨#[]⟩⟩⟩
def Ins.cells (x : Ins) : List Value := [.int .i64 x.op, .int .i64 x.n, .int .i64 x.i, .string x.s]
abbrev eIns : Enc Ins := ⟨4, Ins.cells, fun _ => rfl⟩
structure Df where
  s : ByteArray
  at_ : Int
  args : Int
deriving DecidableEq
instance : Inhabited Df := ⟨⟨⟨#[]⟩, 0, 0⟩⟩
def Df.cells (x : Df) : List Value := [.string x.s, .int .i64 x.at_, .int .i64 x.args]
abbrev eDef : Enc Df := ⟨3, Df.cells, fun _ => rfl⟩
instance : Inhabited ByteArray := ⟨⟨#[]⟩⟩

theorem bytesV_flat (l : List Int) : bytesV l = l.flatMap eByte.cells := by
  induction l with
  | nil => rfl
  | cons x l ih => rw [List.flatMap_cons, ← ih]; rfl
theorem intsV_flat (l : List Int) : intsV l = l.flatMap eInt.cells := by
  induction l with
  | nil => rfl
  | cons x l ih => rw [List.flatMap_cons, ← ih]; rfl

/-- A slice whose object is older than 'n'. -/
def Old (n : Nat) (v : Value) : Prop := ∀ i o a c, v = .slice (some ⟨i, o, none⟩) a c → i < n
theorem Old.up {n m : Nat} {v : Value} (h : Old n v) (hm : n ≤ m) : Old m v := fun i o a c e => Nat.lt_of_lt_of_le (h i o a c e) hm
theorem View.same {H H' : Hp} {sz n m : Nat} {v : Value} {cells : List Value} (h : View H sz v cells n) (ho : Old m v) (hs : Same m H H') : View H' sz v cells n := h.le fun i o a c hv => hs i (ho i o a c hv)

/-- Where element 'j' lies. -/
def elP (sz : Nat) (v : Value) (j : Nat) : Value :=
  match v with
  | .slice (some ⟨i, o, _⟩) _ _ => ptr i (o + j * sz)
  | _ => .pointer none
/-- Where cell 'f' of element 'j' lies. -/
def elF (sz : Nat) (v : Value) (j f : Nat) : Value :=
  match v with
  | .slice (some ⟨i, o, _⟩) _ _ => ptr i (o + j * sz + f)
  | _ => .pointer none

/-- It is one cell. -/
def cell1 : Value → Bool
  | .agg _ => false
  | .tuple _ => false
  | _ => true
theorem vcells1 {v : Value} (h : cell1 v = true) : vcells v = some [v] := by cases v <;> first | rfl | cases h

/-- A list that lies in memory, in an object older than 'n'. -/
def Li {α : Type} (E : Enc α) (n : Nat) (H : Hp) (v : Value) (l : List α) : Prop := View H E.sz v (l.flatMap E.cells) l.length ∧ Old n v
namespace Li
variable {α : Type} {E : Enc α} {n : Nat} {H : Hp} {v : Value} {l : List α}
theorem keep (h : Li E n H v l) {H' : Hp} {m : Nat} (hs : Same m H H') (hm : n ≤ m) : Li E n H' v l := ⟨h.1.same h.2 (hs.less hm), h.2⟩
theorem keep' (h : Li E n H v l) {H' : Hp} (hs : ∀ i o a c, v = .slice (some ⟨i, o, none⟩) a c → H' i = H i) : Li E n H' v l := ⟨h.1.le hs, h.2⟩
theorem up (h : Li E n H v l) {m : Nat} (hm : n ≤ m) : Li E m H v l := ⟨h.1, h.2.up hm⟩
theorem len (h : Li E n H v l) : lenV false v = some (.int .i64 l.length) := h.1.len
theorem idx (h : Li E n H v l) {k : IntKind} {j : Int} (h0 : 0 ≤ j) (h1 : j < l.length) : idxA E.sz v (.int k j) = some (elP E.sz v j.toNat) := by
  obtain ⟨⟨_, h | ⟨i, o, c, cs, e, rw, rfl, hi, hle, hcs⟩⟩, _⟩ := h
  · omega
  · simp [idxA, elP, h0, h1]
theorem lda (h : Li E n H v l) {j : Int} (h0 : 0 ≤ j) (h1 : j < l.length) : ld true E.sz (elP E.sz v j.toNat) H = some (.agg ⟨E.cells (l[j.toNat]'(by omega))⟩) := by
  obtain ⟨⟨_, h | ⟨i, o, c, cs, e, rw, rfl, hi, hle, hcs⟩⟩, _⟩ := h
  · omega
  · have hj : j.toNat < l.length := by omega
    have hmul : j.toNat * E.sz + E.sz ≤ l.length * E.sz := by
      have := Nat.mul_le_mul_right E.sz (show j.toNat + 1 ≤ l.length from hj)
      rw [Nat.add_mul, Nat.one_mul] at this
      exact this
    show ld true E.sz (ptr i (o + j.toNat * E.sz)) H = _
    rw [ld_agg hi (by omega), ← flat_at E hj, ← hcs]
    congr 3
    rw [List.drop_take, List.drop_drop, List.take_take]
    congr 1
    omega
theorem fld (h : Li E n H v l) {j : Int} (h0 : 0 ≤ j) (h1 : j < l.length) (f : Nat) : fieldA f (elP E.sz v j.toNat) = some (elF E.sz v j.toNat f) := by
  obtain ⟨⟨_, h | ⟨i, o, c, cs, e, rw, rfl, hi, hle, hcs⟩⟩, _⟩ := h
  · omega
  · rfl
theorem ldf (h : Li E n H v l) {j : Int} (h0 : 0 ≤ j) (h1 : j < l.length) {f : Nat} {c : Value} (hc : (E.cells (l[j.toNat]'(by omega)))[f]? = some c) : ld false 1 (elF E.sz v j.toNat f) H = some c := by
  obtain ⟨⟨_, h | ⟨i, o, c, cs, e, rw, rfl, hi, hle, hcs⟩⟩, _⟩ := h
  · omega
  · have hj : j.toNat < l.length := by omega
    have hf : f < E.sz := by
      rw [← E.ok l[j.toNat]]
      exact (List.getElem?_eq_some_iff.1 hc).1
    show ld false 1 (ptr i (o + j.toNat * E.sz + f)) H = _
    refine ld_cell hi ?_
    rw [← flat_cell E hj hf, ← hcs, List.getElem?_take] at hc
    split at hc
    · rw [List.getElem?_drop, ← Nat.add_assoc] at hc
      exact hc
    · cases hc
theorem ldc (h : Li E n H v l) {j : Int} (h0 : 0 ≤ j) (h1 : j < l.length) {c : Value} (hc : (E.cells (l[j.toNat]'(by omega)))[0]? = some c) : ld false 1 (elP E.sz v j.toNat) H = some c := by
  rw [← h.ldf h0 h1 hc]
  unfold elP elF
  split <;> rfl
theorem nil : Li E n H nilS [] := ⟨View.nil, fun i o a c h => by cases h⟩
theorem bytes {l : List Int} (h : Li eByte n H v l) : View H 1 v (bytesV l) l.length := by rw [bytesV_flat]; exact h.1
end Li

/-- A list that lies alone in object 'id' from its beginning on, and may be written (or it is nil). -/
def At {α : Type} (E : Enc α) (id : Nat) (H : Hp) (v : Value) (l : List α) : Prop := (v = nilS ∧ l = []) ∨ (v = sl id 0 l.length ∧ H id = some (.row (l.flatMap E.cells) E.sz true))
namespace At
variable {α : Type} {E : Enc α} {id n : Nat} {H H' : Hp} {v : Value} {l : List α}
theorem lst (h : At E id H v l) (hn : id < n) : Li E n H v l := by
  rcases h with ⟨rfl, rfl⟩ | ⟨rfl, h⟩
  · exact Li.nil
  · exact ⟨View.new h (flat_len E l), fun i o a c e => by cases e; exact hn⟩
theorem keep (h : At E id H v l) (hs : H' id = H id) : At E id H' v l := by
  rcases h with h | ⟨h1, h2⟩
  · exact .inl h
  · exact .inr ⟨h1, by rw [hs]; exact h2⟩
theorem cell (h : At E id H v l) : cell1 v = true := by
  rcases h with ⟨rfl, rfl⟩ | ⟨rfl, h⟩ <;> rfl
theorem nil : At E id H nilS [] := .inl ⟨rfl, rfl⟩
end At

/-- A list that is made between two numbers, and may be written. -/
def New {α : Type} (E : Enc α) (lo n : Nat) (H : Hp) (v : Value) (l : List α) : Prop := ∃ id, lo ≤ id ∧ id < n ∧ At E id H v l
namespace New
variable {α : Type} {E : Enc α} {lo n : Nat} {H H' : Hp} {v : Value} {l : List α}
theorem lst (h : New E lo n H v l) : Li E n H v l := by obtain ⟨id, _, h2, h3⟩ := h; exact h3.lst h2
theorem keep (h : New E lo n H v l) {m : Nat} (hs : Same m H H') (hm : n ≤ m) : New E lo n H' v l := by obtain ⟨id, h1, h2, h3⟩ := h; exact ⟨id, h1, h2, h3.keep (hs id (by omega))⟩
theorem up (h : New E lo n H v l) {lo' m : Nat} (hl : lo' ≤ lo) (hm : n ≤ m) : New E lo' m H v l := by obtain ⟨id, h1, h2, h3⟩ := h; exact ⟨id, by omega, by omega, h3⟩
end New

theorem flat_set {α : Type} (E : Enc α) : ∀ (l : List α) (j : Nat) (y : α), j < l.length → setAt (l.flatMap E.cells) (j * E.sz) (E.cells y) = (l.set j y).flatMap E.cells := by
  intro l j y hj
  unfold setAt
  rw [flat_take, E.ok, show j * E.sz + E.sz = (j + 1) * E.sz by rw [Nat.add_mul, Nat.one_mul], flat_drop, List.set_eq_take_append_cons_drop, if_pos hj, List.flatMap_append, List.flatMap_cons, List.append_assoc]
theorem setAt_right (A R vs : List Value) (f : Nat) : setAt (A ++ R) (A.length + f) vs = A ++ setAt R f vs := by
  unfold setAt
  rw [List.take_append, List.take_of_length_le (by omega), Nat.add_sub_cancel_left, show A.length + f + vs.length = A.length + (f + vs.length) by omega, ← List.drop_drop, List.drop_left' rfl]
  simp [List.append_assoc]
theorem setAt_left (C B vs : List Value) (f : Nat) (hf : f + vs.length ≤ C.length) : setAt (C ++ B) f vs = setAt C f vs ++ B := by
  unfold setAt
  rw [List.take_append_of_le_length (by omega), List.drop_append_of_le_length hf]
  simp [List.append_assoc]
theorem flat_setf {α : Type} (E : Enc α) (l : List α) (j f : Nat) (y : α) (c : Value) (hj : j < l.length) (hf : f < E.sz) (hy : E.cells y = setAt (E.cells l[j]) f [c]) : setAt (l.flatMap E.cells) (j * E.sz + f) [c] = (l.set j y).flatMap E.cells := by
  have hl : l.flatMap E.cells = (l.take j).flatMap E.cells ++ (E.cells l[j] ++ (l.drop (j + 1)).flatMap E.cells) := by
    rw [← List.flatMap_cons, ← List.drop_eq_getElem_cons hj, ← List.flatMap_append, List.take_append_drop]
  have ha : ((l.take j).flatMap E.cells).length = j * E.sz := by rw [flat_len, List.length_take, Nat.min_eq_left (by omega)]
  rw [hl, ← ha, setAt_right, setAt_left _ _ _ _ (by rw [E.ok]; simp; omega), ← hy, List.set_eq_take_append_cons_drop, if_pos hj, List.flatMap_append, List.flatMap_cons]

/-! ### What is done with lists that may be written -/
theorem src_lst {α : Type} {E : Enc α} {n : Nat} {H : Hp} {v : Value} {l : List α} (h : Li E n H v l) : src E.sz v H = some (l.flatMap E.cells, l.length) := by
  obtain ⟨⟨hl, h | ⟨i, o, c, cs, e, rw, rfl, hi, hle, hcs⟩⟩, _⟩ := h
  · obtain ⟨h0, rfl | ⟨i, o, q, c, rfl⟩⟩ := h <;> (have : l = [] := List.length_eq_zero_iff.1 h0; subst this; rfl)
  · simp [src, hi, hle, hcs]
/-- An append to a list of ours. -/
theorem app_at {α : Type} {E : Enc α} {id id2 bytes : Nat} {H : Hp} {v x : Value} {l m : List α} (h : At E id H v l) (hs : src E.sz x H = some (m.flatMap E.cells, m.length)) (hb : 1 ≤ bytes) (hl : (2 * (l.length + m.length) + 1024) * bytes ≤ 281474976710656) :
    ∃ v' H', app id2 E.sz bytes v x H = some (v', H') ∧ At E id2 H' v' (l ++ m) ∧ ∀ i, i ≠ id → i ≠ id2 → H' i = H i := by
  rcases h with ⟨rfl, rfl⟩ | ⟨rfl, h⟩
  · cases m with
    | nil => exact ⟨nilS, H, by simp only [app, hs, Option.bind_some]; rfl, At.nil, fun _ _ _ => rfl⟩
    | cons y m =>
      refine ⟨sl id2 0 (y :: m).length, H.set id2 (some (.row ((y :: m).flatMap E.cells) E.sz true)), ?_, .inr ⟨rfl, Hp_same ..⟩, fun i _ hi => Hp_ne _ _ hi⟩
      simp only [app, hs, Option.bind_some]
      rw [if_neg (by simp), if_pos ⟨hb, by simpa using hl⟩]
  · refine ⟨sl id2 0 (l ++ m).length, (H.set id none).set id2 (some (.row ((l ++ m).flatMap E.cells) E.sz true)), ?_, .inr ⟨rfl, Hp_same ..⟩, fun i h1 h2 => by rw [Hp_ne _ _ h2, Hp_ne _ _ h1]⟩
    simp only [app, hs, Option.bind_some, h]
    rw [if_pos ⟨trivial, by rw [flat_len]; exact Nat.le_refl _, hb, hl⟩, List.take_of_length_le (by rw [flat_len]; exact Nat.le_refl _), List.length_append, List.flatMap_append]
/-- One thing is put behind a list of ours. -/
theorem app_one {α : Type} {E : Enc α} {id id1 id2 bytes : Nat} {H : Hp} {v : Value} {l : List α} (x : α) (h : At E id H v l) (h1 : id ≠ id1) (hb : 1 ≤ bytes) (hl : (2 * (l.length + 1) + 1024) * bytes ≤ 281474976710656) :
    ∃ H', app id2 E.sz bytes v (sl id1 0 1) (H.set id1 (some (.row (E.cells x) E.sz true))) = some (sl id2 0 (l ++ [x]).length, H') ∧ H' id2 = some (.row ((l ++ [x]).flatMap E.cells) E.sz true) ∧ ∀ i, i ≠ id → i ≠ id1 → i ≠ id2 → H' i = H i := by
  have hs : src E.sz (sl id1 0 1) (H.set id1 (some (.row (E.cells x) E.sz true))) = some ([x].flatMap E.cells, [x].length) := by
    simp [src, Hp_same, E.ok]
    exact List.take_of_length_le (by rw [E.ok]; omega)
  obtain ⟨v', H', e1, e2, e3⟩ := app_at (id2 := id2) (bytes := bytes) (h.keep (H' := H.set id1 (some (.row (E.cells x) E.sz true))) (Hp_ne _ _ h1)) hs hb hl
  rcases e2 with ⟨_, e2⟩ | ⟨rfl, e2⟩
  · simp at e2
  · exact ⟨H', e1, e2, fun i a b c => by rw [e3 i a c, Hp_ne _ _ b]⟩
theorem bsl_one {α : Type} (E : Enc α) (x : α) (id : Nat) (zero : List Value) (v : Value) (H : Hp) (hz : zero.length = E.sz) (hv : vcells v = some (E.cells x)) (hsz : E.sz ≤ 1000) : bsl id E.sz 1 zero [(0, E.sz, v)] H = some (sl id 0 1, H.set id (some (.row (E.cells x) E.sz true))) := by
  have : setAt zero 0 (E.cells x) = E.cells x := by
    unfold setAt
    rw [E.ok, Nat.zero_add, List.drop_of_length_le (by omega)]
    simp
  simp [bsl, fill, hz, hv, E.ok, this]
  omega
theorem flat_rep {α : Type} (E : Enc α) (z : α) : ∀ k : Nat, (List.replicate k (E.cells z)).flatten = (List.replicate k z).flatMap E.cells
  | 0 => rfl
  | k + 1 => by rw [List.replicate_succ, List.flatten_cons, flat_rep E z k]; rfl
theorem mks_new {α : Type} (E : Enc α) (z : α) {id bytes k : Nat} (H : Hp) (hb : 1 ≤ bytes) (hk : k * bytes ≤ 140737488355328) : mks id E.sz bytes (E.cells z) (.int .i64 k) (.int .i64 k) H = some (sl id 0 k, H.set id (some (.row ((List.replicate k z).flatMap E.cells) E.sz true))) := by
  unfold mks
  have : (k : Int) * (bytes : Int) ≤ 140737488355328 := by
    have := Int.ofNat_le.2 hk
    rw [Int.natCast_mul] at this
    exact this
  simp only
  rw [if_pos ⟨trivial, by omega, hb, this, E.ok z⟩, flat_rep]
  simp
theorem st_el {α : Type} {E : Enc α} {id : Nat} {H : Hp} {l : List α} (h : H id = some (.row (l.flatMap E.cells) E.sz true)) {j : Nat} (hj : j < l.length) (y : α) : stv (ptr id (j * E.sz)) (E.cells y) H = some (H.set id (some (.row ((l.set j y).flatMap E.cells) E.sz true))) := by
  have hle : j * E.sz + E.sz ≤ (l.flatMap E.cells).length := by
    rw [flat_len]
    have := Nat.mul_le_mul_right E.sz (show j + 1 ≤ l.length from hj)
    rw [Nat.add_mul, Nat.one_mul] at this
    exact this
  simp only [stv, h, E.ok, hle, if_true, flat_set E l j y hj]
theorem st_fld {α : Type} {E : Enc α} {id : Nat} {H : Hp} {l : List α} (h : H id = some (.row (l.flatMap E.cells) E.sz true)) {j f : Nat} (hj : j < l.length) (hf : f < E.sz) {y : α} {c : Value} (hy : E.cells y = setAt (E.cells l[j]) f [c]) : stv (ptr id (j * E.sz + f)) [c] H = some (H.set id (some (.row ((l.set j y).flatMap E.cells) E.sz true))) := by
  have hle : j * E.sz + E.sz ≤ (l.flatMap E.cells).length := by
    rw [flat_len]
    have := Nat.mul_le_mul_right E.sz (show j + 1 ≤ l.length from hj)
    rw [Nat.add_mul, Nat.one_mul] at this
    exact this
  simp only [stv, h, List.length_cons, List.length_nil, show j * E.sz + f + (0 + 1) ≤ (l.flatMap E.cells).length by omega, if_true, flat_setf E l j f y c hj hf hy]

theorem bnd_int (d : Nat) (k : IntKind) (i : Int) (h : 0 ≤ i) : bnd d (some (.int k i)) = some i.toNat := by simp [bnd, h]
/-- A part of a list. -/
theorem Li.slice {α : Type} {E : Enc α} {n : Nat} {H : Hp} {v : Value} {l : List α} (h : Li E n H v l) (hz : 0 < E.sz) (lo hi : Option Value) (a b : Nat) (ha : bnd 0 lo = some a) (hb : ∀ d, d = l.length → bnd d hi = some b) (hab : a ≤ b) (hbl : b ≤ l.length) :
    ∃ v', sliceV E.sz v lo hi = some v' ∧ Li E n H v' ((l.drop a).take (b - a)) := by
  obtain ⟨⟨hl, h | ⟨i, o, c, cs, e, rw, rfl, hi, hle, hcs⟩⟩, ho⟩ := h
  · obtain ⟨h0, hv⟩ := h
    have hl0 : l = [] := List.length_eq_zero_iff.1 h0
    subst hl0
    have hb0 : b = 0 := by simpa using hbl
    subst hb0
    have ha0 : a = 0 := by omega
    subst ha0
    have hb := hb 0 rfl
    rcases hv with rfl | ⟨i, o, q, c, rfl⟩
    · exact ⟨nilS, by simp [sliceV, ha, hb, hz], by simpa using Li.nil⟩
    · exact ⟨emptyS, by simp [sliceV, ha, hb, hz], ⟨by simp, .inl ⟨by simp, .inr ⟨0, 0, 0, 0, rfl⟩⟩⟩, fun i o a c e => by cases e⟩
  · have hb := hb _ rfl
    by_cases hab' : a = b
    · subst hab'
      refine ⟨emptyS, by simp [sliceV, ha, hb, hz, hbl], ⟨by simp, .inl ⟨by simp, .inr ⟨0, 0, 0, 0, rfl⟩⟩⟩, fun i o a c e => by cases e⟩
    · refine ⟨sl i (o + a * E.sz) (b - a), by simp [sliceV, ha, hb, hz, hbl, hab, hab'], ?_, fun i' o' a' c' e' => by cases e'; exact ho i o _ _ rfl⟩
      have hlen : ((l.drop a).take (b - a)).length = b - a := by rw [List.length_take, List.length_drop]; omega
      have hm1 : (a + (b - a)) * E.sz ≤ l.length * E.sz := Nat.mul_le_mul_right _ (by omega)
      rw [Nat.add_mul] at hm1
      refine ⟨flat_len E _, .inr ⟨i, o + a * E.sz, 0, cs, e, rw, by rw [hlen], hi, by rw [hlen]; omega, ?_⟩⟩
      rw [hlen, ← flat_take E (l.drop a) (b - a), ← flat_drop E l a, ← hcs, List.drop_take, List.drop_drop, List.take_take]
      congr 1
      rw [← Nat.sub_mul]
      rw [Nat.min_eq_left]
      exact Nat.mul_le_mul_right _ (by omega)
theorem rows_lst {α : Type} {E : Enc α} {n : Nat} {H : Hp} {v : Value} {l : List α} (h : Li E n H v l) : rowsOf E.sz v H = some (l.flatMap E.cells) := by
  obtain ⟨⟨hl, h | ⟨i, o, c, cs, e, rw, rfl, hi, hle, hcs⟩⟩, _⟩ := h
  · obtain ⟨h0, rfl | ⟨i, o, q, c, rfl⟩⟩ := h <;> (have : l = [] := List.length_eq_zero_iff.1 h0; subst this; rfl)
  · simp [rowsOf, hi, hle, hcs]
/-- A text of bytes. -/
def strOf (l : List Int) : ByteArray := ⟨⟨l.map fun n => UInt8.ofNat n.toNat⟩⟩
theorem strOf_size (l : List Int) : (strOf l).size = l.length := by
  show (Array.mk (l.map _)).size = _
  simp
theorem unbytes_flat (l : List Int) : unbytes (l.flatMap eByte.cells) = some (l.map fun n => UInt8.ofNat n.toNat) := by
  induction l with
  | nil => rfl
  | cons x l ih => rw [List.flatMap_cons]; show ((unbytes (l.flatMap eByte.cells)).bind fun r => some (UInt8.ofNat x.toNat :: r)) = _; rw [ih]; rfl
theorem conv_bs {n : Nat} {H : Hp} {v : Value} {l : List Int} (h : Li eByte n H v l) (id : Nat) : conv .bytesToStr id v H = some (.string (strOf l), H) := by
  have hr : rowsOf 1 v H = some (l.flatMap eByte.cells) := rows_lst h
  have : conv .bytesToStr id v H = (rowsOf 1 v H).bind fun cs => (unbytes cs).bind fun l => some (.string ⟨⟨l⟩⟩, H) := by
    unfold conv; split <;> simp_all
  rw [this, hr, Option.bind_some, unbytes_flat]; rfl

/-! ### Boxes -/
theorem ld_box {H : Hp} {i o : Nat} {cs : List Value} {e : Nat} {rw : Bool} (h : H i = some (.row cs e rw)) (sz : Nat) : ld false sz (ptr i o) H = cs[o]? := by simp [ld, Ax.ldc, cellsAt, h]
theorem ldA_box {H : Hp} {i o sz : Nat} {cs : List Value} {e : Nat} {rw : Bool} (h : H i = some (.row cs e rw)) : ld true sz (ptr i o) H = if o + sz ≤ cs.length then some (.agg ⟨(cs.drop o).take sz⟩) else none := by simp [ld, Ax.lda, cellsAt, h]
theorem stv_box {H : Hp} {i o : Nat} {cs vs : List Value} {e : Nat} (h : H i = some (.row cs e true)) : stv (ptr i o) vs H = if o + vs.length ≤ cs.length then some (H.set i (some (.row (setAt cs o vs) e true))) else none := by simp [stv, h]
theorem st_c {v : Value} (hv : cell1 v = true) (a : Value) (H : Hp) : st false 1 a v H = stv a [v] H := by
  cases v <;> first | rfl | cases hv
theorem st_a (a : Value) (cs : List Value) (sz : Nat) (H : Hp) (h : cs.length = sz) : st true sz a (.agg ⟨cs⟩) H = stv a cs H := by simp [st, h]
theorem vcells_agg (cs : List Value) : vcells (.agg ⟨cs⟩) = some cs := rfl
theorem fieldA_ptr (f i o : Nat) : fieldA f (ptr i o) = some (ptr i (o + f)) := rfl
theorem partV_c (sz off : Nat) (cs : List Value) : partV false sz off (.agg ⟨cs⟩) = cs[off]? := rfl
theorem partV_a (sz off : Nat) (cs : List Value) : partV true sz off (.agg ⟨cs⟩) = if off + sz ≤ cs.length then some (.agg ⟨(cs.drop off).take sz⟩) else none := rfl
theorem ext_tup (i : Nat) (vs : List Value) : ext i (.tuple ⟨vs⟩) = vs[i]? := rfl
theorem nilchk_ptr (i o : Nat) : nilchk (ptr i o) = some (ptr i o) := rfl
theorem conv_i (k k' : IntKind) (id : Nat) (n : Int) (H : Hp) : conv (.toInt k) id (.int k' n) H = some (.int k (k.wrap n), H) := rfl
theorem conv_ss (id : Nat) (s : ByteArray) (H : Hp) : conv .strToStr id (.string s) H = some (.string s, H) := rfl

/-- All but these objects, of what lies below 'n', stays. -/
def Upd (n : Nat) (S : List Nat) (H H' : Hp) : Prop := ∀ i, i < n → i ∉ S → H' i = H i
theorem Upd.refl (n : Nat) (S : List Nat) (H : Hp) : Upd n S H H := fun _ _ _ => rfl
theorem Upd.trans {n n1 : Nat} {S S1 : List Nat} {H H1 H2 : Hp} (h : Upd n S H H1) (h1 : Upd n1 S1 H1 H2) (hn : n ≤ n1) (hS : ∀ i, i ∈ S1 → i < n → i ∈ S) : Upd n S H H2 := fun i hi hs => (h1 i (by omega) fun hm => hs (hS i hm hi)).trans (h i hi hs)
theorem Upd.same {n m : Nat} {S : List Nat} {H H' : Hp} (h : Upd n S H H') (hm : m ≤ n) (hS : ∀ i, i ∈ S → m ≤ i) : Same m H H' := fun i hi => h i (by omega) fun hs => by have := hS i hs; omega
theorem Same.upd {n m : Nat} {H H' : Hp} (h : Same n H H') (hm : m ≤ n) (S : List Nat) : Upd m S H H' := fun i hi _ => h i (by omega)
theorem Li.upd {α : Type} {E : Enc α} {n m : Nat} {H H' : Hp} {v : Value} {l : List α} {S : List Nat} (h : Li E n H v l) (hs : Upd m S H H') (hm : n ≤ m) (hS : ∀ i o a c, v = .slice (some ⟨i, o, none⟩) a c → i ∉ S) : Li E n H' v l := h.keep' fun i o a c e => hs i (by have := h.2 i o a c e; omega) (hS i o a c e)

end Go.Proofs.Ytdnokdgkccnbnaa.Ax
