/- More laws for going through bodies: what is put behind a list, single things, contracts told element by element. -/
import Derived.Test.YtdnokdgkccnbnaaAy6
import Derived.Test.YtdnokdgkccnbnaaAx22
set_option linter.unusedVariables false
set_option linter.unusedSimpArgs false
namespace Go.Proofs.Ytdnokdgkccnbnaa.Ax
open Go
theorem Rt.mk {P : Program} {f : Nat} {args : List Value} {H : Hp} {n : Nat} {v : Value} (h : Wp (Call P f args H n) fun q => n ≤ q.2.2 ∧ (∀ i, i < n → q.2.1 i = H i) ∧ q.1 = v) : Rt P f args H n v := Rt.of h
theorem RtN.mk {P : Program} {f : Nat} {args : List Value} {H : Hp} {n : Nat} {R : Value → Hp → Nat → Prop} (h : Wp (Call P f args H n) fun q => n ≤ q.2.2 ∧ (∀ i, i < n → q.2.1 i = H i) ∧ R q.1 q.2.1 q.2.2) : RtN P f args H n R := RtN.of h
theorem RtD.mk {P : Program} {f : Nat} {args : List Value} {c : Nat} {H : Hp} {n : Nat} {R : Value → Hp → Nat → Prop} (h : Wp (Call P f args H n) fun q => n ≤ q.2.2 ∧ (∀ i, i < n → i ≠ c → q.2.1 i = H i) ∧ Cu c q.2.2 q.2.1 ∧ R q.1 q.2.1 q.2.2) : RtD P f args c H n R := by
  obtain ⟨⟨v', H', n'⟩, h1, h2, h3, h4, h5⟩ := h
  exact ⟨v', H', n', h2, fun i hi hc => h3 i hi (by simpa using hc), h4, h1, h5⟩
theorem Cu.mv {c n m : Nat} {H H' : Hp} (h : Cu c n H) (hm : n ≤ m) (hs : ∀ i, i ≤ c → H' i = H i) : Cu c m H' := h.low hs (by have := h.1; omega)
theorem Li.off {α : Type} {E : Enc α} {n c : Nat} {H : Hp} {v : Value} {l : List α} (h : Li E n H v l) (hc : n ≤ c) : Off c v := h.2.off hc
/-- A list that is not in object 'c' stays while just that one changes. -/
theorem Li.mv1 {α : Type} {E : Enc α} {n m c : Nat} {H H' : Hp} {v : Value} {l : List α} (h : Li E n H v l) (hc : Off c v) (hm : n ≤ m) (hs : ∀ i, i < n → i ≠ c → H' i = H i) : Li E m H' v l := (h.keep' fun i o a k e => hs i (h.2 i o a k e) (hc i o a k e)).up hm

theorem bsl_b (id : Nat) (x : Int) (H : Hp) : bsl id 1 1 [.int .u8 0] [(0, 1, .int .u8 x)] H = some (sl id 0 1, H.set id (some (.row [.int .u8 x] 1 true))) := bsl_one eByte x id _ _ H rfl rfl (by decide)
theorem bsl_i (id : Nat) (x : Int) (H : Hp) : bsl id 1 1 [.int .i64 0] [(0, 1, .int .i64 x)] H = some (sl id 0 1, H.set id (some (.row [.int .i64 x] 1 true))) := bsl_one eInt x id _ _ H rfl rfl (by decide)
theorem bsl_s (id : Nat) (x : ByteArray) (H : Hp) : bsl id 1 1 [.string ⟨#[]⟩] [(0, 1, .string x)] H = some (sl id 0 1, H.set id (some (.row [.string x] 1 true))) := bsl_one eStr x id _ _ H rfl rfl (by decide)
theorem bsl_o (id : Nat) (x : Bool) (H : Hp) : bsl id 1 1 [.bool false] [(0, 1, .bool x)] H = some (sl id 0 1, H.set id (some (.row [.bool x] 1 true))) := bsl_one eBool x id _ _ H rfl rfl (by decide)
theorem bsl_n (id : Nat) (a b : Int) (s : ByteArray) (c d : Int) (H : Hp) : bsl id 5 1 [.int .i64 0, .int .i64 0, .string ⟨#[]⟩, .int .i64 0, .int .i64 0] [(0, 5, .agg ⟨[.int .i64 a, .int .i64 b, .string s, .int .i64 c, .int .i64 d]⟩)] H = some (sl id 0 1, H.set id (some (.row [.int .i64 a, .int .i64 b, .string s, .int .i64 c, .int .i64 d] 5 true))) := bsl_one eNode ⟨a, b, s, c, d⟩ id _ _ H rfl rfl (by decide)
theorem bsl_nc (id : Nat) (x : Nd) (H : Hp) : bsl id 5 1 [.int .i64 0, .int .i64 0, .string ⟨#[]⟩, .int .i64 0, .int .i64 0] [(0, 5, .agg ⟨x.cells⟩)] H = some (sl id 0 1, H.set id (some (.row x.cells 5 true))) := bsl_one eNode x id _ _ H rfl rfl (by decide)
theorem bsl_ic (id : Nat) (x : Ins) (H : Hp) : bsl id 4 1 [.int .i64 0, .int .i64 0, .int .i64 0, .string ⟨#[]⟩] [(0, 4, .agg ⟨x.cells⟩)] H = some (sl id 0 1, H.set id (some (.row x.cells 4 true))) := bsl_one eIns x id _ _ H rfl rfl (by decide)
theorem bsl_dc (id : Nat) (x : Df) (H : Hp) : bsl id 3 1 [.string ⟨#[]⟩, .int .i64 0, .int .i64 0] [(0, 3, .agg ⟨x.cells⟩)] H = some (sl id 0 1, H.set id (some (.row x.cells 3 true))) := bsl_one eDef x id _ _ H rfl rfl (by decide)
theorem bsl_zn (id : Nat) (zero : List Value) (sz : Nat) (H : Hp) (h : zero.length = sz) : bsl id sz 0 zero [] H = some (sl id 0 0, H.set id (some (.row [] sz true))) := by simp [bsl, fill, h]
theorem conv_b (id i : Nat) (x : Int) (H : Hp) : conv .bytesToStr id (sl i 0 1) (H.set i (some (.row [.int .u8 x] 1 true))) = some (.string (strOf [x]), H.set i (some (.row [.int .u8 x] 1 true))) := by
  have h : At eByte i (H.set i (some (.row [.int .u8 x] 1 true))) (sl i 0 1) [x] := .inr ⟨rfl, Hp_same _ _ _⟩
  exact conv_bs (h.lst (Nat.lt_succ_self i)) id
theorem strOf1_size (x : Int) : (strOf [x]).size = 1 := strOf_size [x]
/-- One thing is put behind a list of ours. -/
theorem Wp.app1 {α : Type} {E : Enc α} {id id1 id2 bytes : Nat} {H : Hp} {v : Value} {l : List α} (x : α) {β : Type} {g : Value × Hp → Option β} {Q : β → Prop} (h : At E id H v l) (h1 : id ≠ id1) (hb : 1 ≤ bytes) (hl : (2 * (l.length + 1) + 1024) * bytes ≤ 281474976710656)
    (k : ∀ H', H' id2 = some (.row ((l ++ [x]).flatMap E.cells) E.sz true) → (∀ i, i ≠ id → i ≠ id1 → i ≠ id2 → H' i = H i) → Wp (g (sl id2 0 (l ++ [x]).length, H')) Q) : Wp ((app id2 E.sz bytes v (sl id1 0 1) (H.set id1 (some (.row (E.cells x) E.sz true)))).bind g) Q := by
  obtain ⟨H', e1, e2, e3⟩ := app_one (id2 := id2) (bytes := bytes) x h h1 hb hl
  rw [e1]; exact k H' e2 e3
/-- A list is put behind a list of ours. -/
theorem Wp.appL {α : Type} {E : Enc α} {id id2 n bytes : Nat} {H : Hp} {v x : Value} {l m : List α} {β : Type} {g : Value × Hp → Option β} {Q : β → Prop} (h : At E id H v l) (hx : Li E n H x m) (hb : 1 ≤ bytes) (hl : (2 * (l.length + m.length) + 1024) * bytes ≤ 281474976710656)
    (k : ∀ v' H', At E id2 H' v' (l ++ m) → (∀ i, i ≠ id → i ≠ id2 → H' i = H i) → Wp (g (v', H')) Q) : Wp ((app id2 E.sz bytes v x H).bind g) Q := by
  obtain ⟨v', H', e1, e2, e3⟩ := app_at (id2 := id2) (bytes := bytes) h (src_lst hx) hb hl
  rw [e1]; exact k v' H' e2 e3
/-- Of a list, of which nothing is kept, a new one. -/
theorem Wp.appN {α : Type} {E : Enc α} {id2 n bytes : Nat} {H : Hp} {x : Value} {m : List α} {β : Type} {g : Value × Hp → Option β} {Q : β → Prop} (hx : Li E n H x m) (hb : 1 ≤ bytes) (hl : (2 * m.length + 1024) * bytes ≤ 281474976710656)
    (k : ∀ v' H', At E id2 H' v' m → (∀ i, i ≠ id2 → H' i = H i) → Wp (g (v', H')) Q) : Wp ((app id2 E.sz bytes nilS x H).bind g) Q := by
  obtain ⟨v', H', e1, e2, e3⟩ := app_at (id := id2) (id2 := id2) (bytes := bytes) (At.nil (E := E) (H := H)) (src_lst hx) hb (by simpa using hl)
  rw [e1]; exact k v' H' (by simpa using e2) fun i hi => e3 i hi hi
theorem At.of {α : Type} {E : Enc α} {id : Nat} {H : Hp} {l : List α} {k : Nat} (hk : k = l.length) (h : H id = some (.row (l.flatMap E.cells) E.sz true)) : At E id H (sl id 0 k) l := .inr ⟨by rw [hk], h⟩
theorem At.new {α : Type} {E : Enc α} {id lo n : Nat} {H : Hp} {v : Value} {l : List α} (h : At E id H v l) (h1 : lo ≤ id) (h2 : id < n) : New E lo n H v l := ⟨id, h1, h2, h⟩
theorem wn {j : Nat} (h : j ≤ 9000000000000000000) : IntKind.i64.wrap ((j : Int) + 1) = ((j + 1 : Nat) : Int) := by rw [w64 (by omega)]; omega
theorem wa {a b : Int} (h : -9223372036854775808 ≤ a + b ∧ a + b ≤ 9223372036854775807) : IntKind.i64.wrap (a + b) = a + b := w64 h
theorem ws {a b : Int} (h : -9223372036854775808 ≤ a - b ∧ a - b ≤ 9223372036854775807) : IntKind.i64.wrap (a - b) = a - b := w64 h
theorem st_el1 {α : Type} {E : Enc α} {id : Nat} {H : Hp} {l : List α} (h : H id = some (.row (l.flatMap E.cells) E.sz true)) {j : Nat} (hj : j < l.length) {y : α} {c : Value} (hc : E.cells y = [c]) (h1 : cell1 c = true) (hz : E.sz = 1) : st false 1 (ptr id j) c H = some (H.set id (some (.row ((l.set j y).flatMap E.cells) E.sz true))) := by
  rw [st_c h1, ← hc]
  have := st_el h hj y
  rw [hz, Nat.mul_one] at this
  rw [hz]
  exact this
/-- Where an element of a list of ours lies. -/
theorem idx_sl {sz id m : Nat} {k : IntKind} {j : Nat} (h : j < m) : idxA sz (sl id 0 m) (.int k j) = some (ptr id (j * sz)) := by simp [idxA, h]
theorem idx_sli {sz id m : Nat} {k : IntKind} {i : Int} (h0 : 0 ≤ i) (h : i < m) : idxA sz (sl id 0 m) (.int k i) = some (ptr id (i.toNat * sz)) := by simp [idxA, h, h0]
theorem Wp.rte {P : Program} {f : Nat} {args : List Value} {H : Hp} {n : Nat} {β : Type} {g : Value × Hp × Nat → Option β} {Q : β → Prop} {ι : Type} {p : ι → Prop} {v : ι → Value} (h : ∃ r, p r ∧ Rt P f args H n (v r)) (k : ∀ r, p r → ∀ H' n', n ≤ n' → (∀ i, i < n → H' i = H i) → Wp (g (v r, H', n')) Q) : Wp ((Call P f args H n).bind g) Q := by
  obtain ⟨r, hp, h⟩ := h
  exact Wp.rt h (k r hp)
/-- A list that is written down. -/
theorem Wp.bslN {α : Type} (E : Enc α) (l : List α) {id cnt : Nat} {zero : List Value} {parts : List (Nat × Nat × Value)} {H : Hp} {β : Type} {g : Value × Hp → Option β} {Q : β → Prop} (hz : cnt * E.sz ≤ 16777216 ∧ zero.length = E.sz) (hc : cnt = l.length) (hf : fill (List.replicate cnt zero).flatten parts = some (l.flatMap E.cells))
    (k : Wp (g (sl id 0 l.length, H.set id (some (.row (l.flatMap E.cells) E.sz true)))) Q) : Wp ((bsl id E.sz cnt zero parts H).bind g) Q := by
  have h := (bsl_new E (id := id) (H := H) l hz hc hf).1
  rw [h]
  subst hc
  exact k
end Go.Proofs.Ytdnokdgkccnbnaa.Ax
