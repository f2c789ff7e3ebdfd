/- Texts compared. -/
import Derived.Test.YtdnokdgkccnbnaaAy4
import Derived.Laws.Strings
set_option linter.unusedVariables false
set_option linter.unusedSimpArgs false
namespace Go.Proofs.Ytdnokdgkccnbnaa.Ax
open Go
theorem i_and (k : IntKind) (a b : Int) : binK .plain .and (.int k a) (.int k b) = some (.int k (k.wrap (BitVec.ofInt k.bits a &&& BitVec.ofInt k.bits b).toNat)) := by simp [binK, bin, isShift, intBin]
theorem i_xor (k : IntKind) (a b : Int) : binK .plain .xor (.int k a) (.int k b) = some (.int k (k.wrap (BitVec.ofInt k.bits a ^^^ BitVec.ofInt k.bits b).toNat)) := by simp [binK, bin, isShift, intBin]
theorem i_ors (k : IntKind) (a b : Int) : binK .plain .or (.int k a) (.int k b) = some (.int k (k.wrap (BitVec.ofInt k.bits a ||| BitVec.ofInt k.bits b).toNat)) := by simp [binK, bin, isShift, intBin]
theorem i_shr' (k k' : IntKind) (a b : Int) (h : 0 ≤ b) : binK .plain .shr (.int k a) (.int k' b) = some (.int k (a.fdiv (2 ^ (min b.toNat k.bits)))) := by rw [i_shr, if_neg (by omega)]
/-- Of an 'and' with a small number a small number comes. -/
theorem and_le (a : Int) (m : Nat) (hm : m < 9223372036854775808) : 0 ≤ IntKind.i64.wrap (BitVec.ofInt IntKind.i64.bits a &&& BitVec.ofInt IntKind.i64.bits (m : Int)).toNat ∧ IntKind.i64.wrap (BitVec.ofInt IntKind.i64.bits a &&& BitVec.ofInt IntKind.i64.bits (m : Int)).toNat ≤ m := by
  have hbits : IntKind.i64.bits = 64 := rfl
  rw [hbits, BitVec.toNat_and]
  have e : (BitVec.ofInt 64 (m : Int)).toNat = m := by rw [BitVec.toNat_ofInt]; omega
  rw [e]
  have := @Nat.and_le_right (BitVec.ofInt 64 a).toNat m
  rw [w64 (by omega)]
  omega

/-- It is no slice of object 'c'. -/
def Off (c : Nat) (v : Value) : Prop := ∀ i o a k, v = .slice (some ⟨i, o, none⟩) a k → i ≠ c
theorem Old.off {n c : Nat} {v : Value} (h : Old n v) (hc : n ≤ c) : Off c v := fun i o a k e => by have := h i o a k e; omega
theorem Off.sl {i o n c : Nat} (h : i ≠ c) : Off c (sl i o n) := fun i' o' a k e => by cases e; exact h
theorem Li.upd1 {α : Type} {E : Enc α} {n m c : Nat} {H H' : Hp} {v : Value} {l : List α} (h : Li E n H v l) (hs : Upd m [c] H H') (hm : n ≤ m) (ho : Off c v) : Li E n H' v l := h.upd hs hm fun i o a k e hi => ho i o a k e (by simpa using hi)
theorem Same.upd1 {n m c : Nat} {H H' : Hp} (h : Same n H H') (hm : m ≤ n) : Upd m [c] H H' := h.upd hm _
theorem Upd.tr {n n1 c : Nat} {H H1 H2 : Hp} (h : Upd n [c] H H1) (h1 : Upd n1 [c] H1 H2) (hn : n ≤ n1) : Upd n [c] H H2 := h.trans h1 hn fun i hi _ => hi
theorem Upd.set {n c : Nat} {H H' : Hp} (h : Upd n [c] H H') (o : Option Obj) : Upd n [c] H (H'.set c o) := fun i hi hs => by rw [Hp_ne _ _ (by simpa using hs)]; exact h i hi hs
theorem Upd.less {n m : Nat} {S : List Nat} {H H' : Hp} (h : Upd n S H H') (hm : m ≤ n) : Upd m S H H' := fun i hi hs => h i (by omega) hs
theorem Upd.fresh {n i : Nat} {S : List Nat} {H H' : Hp} (h : Upd n S H H') (hi : n ≤ i) (o : Option Obj) : Upd n S H (H'.set i o) := fun j hj hs => by rw [Hp_ne _ _ (by omega)]; exact h j hj hs

/-- A cursor over bytes lies in object 'c'. -/
def Cu (c n : Nat) (H : Hp) : Prop := c < n ∧ ∃ b l i h, Li eByte c H b l ∧ (∀ x ∈ l, 0 ≤ x ∧ x ≤ 255) ∧ l.length ≤ 1048576 ∧ 0 ≤ i ∧ i ≤ (l.length : Int) ∧ H c = some (.row [b, .int .i64 i, .int .i64 h] 0 true)
theorem Cu.up {c n m : Nat} {H : Hp} (h : Cu c n H) (hm : n ≤ m) : Cu c m H := ⟨by have := h.1; omega, h.2⟩
theorem Cu.keep {c n m : Nat} {H H' : Hp} (h : Cu c n H) (hs : Same m H H') (hm : n ≤ m) : Cu c n H' := by
  obtain ⟨h1, b, l, i, x, h2, h3, h4, h5, h6, h7⟩ := h
  exact ⟨h1, b, l, i, x, h2.keep hs (by omega), h3, h4, h5, h6, by rw [hs c (by omega)]; exact h7⟩
theorem Cu.low {c n m : Nat} {H H' : Hp} (h : Cu c n H) (hs : ∀ i, i ≤ c → H' i = H i) (hm : c < m) : Cu c m H' := by
  obtain ⟨h1, b, l, i, x, h2, h3, h4, h5, h6, h7⟩ := h
  exact ⟨hm, b, l, i, x, h2.keep' fun q o a k e => hs q (by have := h2.2 q o a k e; omega), h3, h4, h5, h6, by rw [hs c (Nat.le_refl _)]; exact h7⟩
theorem Cu.set {c n i : Nat} {H : Hp} (h : Cu c n H) (hi : c < i) (o : Option Obj) : Cu c n (H.set i o) := h.low (fun j hj => Hp_ne _ _ (by omega)) h.1
/-- A call that draws. -/
abbrev RtD (P : Program) (f : Nat) (args : List Value) (c : Nat) (H : Hp) (n : Nat) (R : Value → Hp → Nat → Prop) : Prop := ∃ v H' n', n ≤ n' ∧ Upd n [c] H H' ∧ Cu c n' H' ∧ Call P f args H n = some (v, H', n') ∧ R v H' n'

/-! One step of a body. -/
theorem Wp.step {α β : Type} {x : Option α} {f : α → Option β} {Q : β → Prop} {a : α} (h : x = some a) (k : Wp (f a) Q) : Wp (x.bind f) Q := by rw [h]; exact k
theorem Wp.cselT {α : Type} {b : Bool} {A B : Option α} {Q : α → Prop} (h : b = true) (k : Wp A Q) : Wp (csel (.bool b) A B) Q := by rw [h]; exact k
theorem Wp.cselF {α : Type} {b : Bool} {A B : Option α} {Q : α → Prop} (h : b = false) (k : Wp B Q) : Wp (csel (.bool b) A B) Q := by rw [h]; exact k
theorem Wp.askT {α : Type} {p : Prop} {A : Option α} {Q : α → Prop} (h : p) (k : Wp A Q) : Wp (ask p A) Q := by rw [ask_same h]; exact k
theorem Wp.iteKT {α : Type} {b : Bool} {A : Option α} {Q : α → Prop} (h : b = true) (k : Wp A Q) : Wp (iteK b A) Q := by rw [h]; exact k
theorem Wp.andS {a b : Bool} {l : Array Value} {β : Type} {f : Value → Option β} {Q : β → Prop} (k : Wp (f (.bool (a && b))) Q) : Wp ((pickV (.bool a) (gsel (.bool a) true (.bool b) (.tuple l)) (.bool false)).bind f) Q := by cases a <;> exact k
theorem Wp.orS {a b : Bool} {l : Array Value} {β : Type} {f : Value → Option β} {Q : β → Prop} (k : Wp (f (.bool (a || b))) Q) : Wp ((pickV (.bool a) (.bool true) (gsel (.bool a) false (.bool b) (.tuple l))).bind f) Q := by cases a <;> exact k
theorem Rt.of {P : Program} {f : Nat} {args : List Value} {H : Hp} {n : Nat} {v : Value} (h : Wp (Call P f args H n) fun q => n ≤ q.2.2 ∧ Same n H q.2.1 ∧ q.1 = v) : Rt P f args H n v := by
  obtain ⟨⟨v', H', n'⟩, h1, h2, h3, h4⟩ := h
  exact ⟨H', n', h2, h3, by rw [h1, ← h4]⟩
theorem RtN.of {P : Program} {f : Nat} {args : List Value} {H : Hp} {n : Nat} {R : Value → Hp → Nat → Prop} (h : Wp (Call P f args H n) fun q => n ≤ q.2.2 ∧ Same n H q.2.1 ∧ R q.1 q.2.1 q.2.2) : RtN P f args H n R := by
  obtain ⟨⟨v', H', n'⟩, h1, h2, h3, h4⟩ := h
  exact ⟨v', H', n', h2, h3, h1, h4⟩
theorem RtD.of {P : Program} {f : Nat} {args : List Value} {c : Nat} {H : Hp} {n : Nat} {R : Value → Hp → Nat → Prop} (h : Wp (Call P f args H n) fun q => n ≤ q.2.2 ∧ Upd n [c] H q.2.1 ∧ Cu c q.2.2 q.2.1 ∧ R q.1 q.2.1 q.2.2) : RtD P f args c H n R := by
  obtain ⟨⟨v', H', n'⟩, h1, h2, h3, h4, h5⟩ := h
  exact ⟨v', H', n', h2, h3, h4, h1, h5⟩
theorem Wp.val {x : Option (Value × Hp × Nat)} {v : Value} (h : Wp x fun q => q.1 = v) : ∃ H' n', x = some (v, H', n') := by
  obtain ⟨⟨_, H, n⟩, rfl, rfl⟩ := h
  exact ⟨H, n, rfl⟩
theorem u8_rng (y : Int) : 0 ≤ IntKind.u8.wrap y ∧ IntKind.u8.wrap y ≤ 255 := by
  simp [IntKind.wrap, IntKind.bits, IntKind.signed]
  omega
theorem text_beq (a b : ByteArray) : (a.toList == b.toList) = decide (a = b) := by
  rw [ByteArray.toList_eq, ByteArray.toList_eq]
  by_cases h : a = b
  · subst h; simp
  · have : a.data.toList ≠ b.data.toList := fun e => h (by cases a; cases b; simp_all)
    rw [decide_eq_false h]; simpa using this
theorem node_eql (k n : Int) (s : ByteArray) (a b k' n' : Int) (s' : ByteArray) (a' b' : Int) : binK (.agg [(0, (.int .i64)), (1, (.int .i64)), (2, .string), (3, (.int .i64)), (4, (.int .i64))]) .eql (.agg ⟨[.int .i64 k, .int .i64 n, .string s, .int .i64 a, .int .i64 b]⟩) (.agg ⟨[.int .i64 k', .int .i64 n', .string s', .int .i64 a', .int .i64 b']⟩) = some (.bool (decide (k = k' ∧ n = n' ∧ s = s' ∧ a = a' ∧ b = b'))) := by
  have e : binK (.agg [(0, (.int .i64)), (1, (.int .i64)), (2, .string), (3, (.int .i64)), (4, (.int .i64))]) .eql (.agg ⟨[.int .i64 k, .int .i64 n, .string s, .int .i64 a, .int .i64 b]⟩) (.agg ⟨[.int .i64 k', .int .i64 n', .string s', .int .i64 a', .int .i64 b']⟩) = some (.bool ((k == k') && ((n == n') && ((s.toList == s'.toList) && ((a == a') && ((b == b') && true)))))) := rfl
  rw [e, text_beq]
  by_cases h1 : k = k' <;> by_cases h2 : n = n' <;> by_cases h3 : s = s' <;> by_cases h4 : a = a' <;> by_cases h5 : b = b' <;> simp [h1, h2, h3, h4, h5]
theorem t_eql (a b : ByteArray) : binK .plain .eql (.string a) (.string b) = some (.bool (decide (a = b))) := by rw [s_eql, text_beq]
theorem t_neq (a b : ByteArray) : binK .plain .neq (.string a) (.string b) = some (.bool (decide (a ≠ b))) := by rw [s_neq, text_beq]; by_cases h : a = b <;> simp [h]
theorem b_eql (a b : Bool) : binK .bool .eql (.bool a) (.bool b) = some (.bool (decide (a = b))) := by rw [bool_eq]; cases a <;> cases b <;> rfl
theorem b_neq (a b : Bool) : binK .bool .neq (.bool a) (.bool b) = some (.bool (decide (a ≠ b))) := by rw [bool_ne]; cases a <;> cases b <;> rfl
theorem bsl_zero (id : Nat) (z : Value) (H : Hp) : bsl id 1 0 [z] [] H = some (sl id 0 0, H.set id (some (.row [] 1 true))) := by simp [bsl, fill]
/-- A list built where it is told. -/
theorem bsl_new {α : Type} (E : Enc α) {id cnt : Nat} {zero : List Value} {parts : List (Nat × Nat × Value)} {H : Hp} (l : List α) (hz : cnt * E.sz ≤ 16777216 ∧ zero.length = E.sz) (hc : cnt = l.length) (hf : fill (List.replicate cnt zero).flatten parts = some (l.flatMap E.cells)) :
    bsl id E.sz cnt zero parts H = some (sl id 0 cnt, H.set id (some (.row (l.flatMap E.cells) E.sz true))) ∧ At E id (H.set id (some (.row (l.flatMap E.cells) E.sz true))) (sl id 0 cnt) l := by
  refine ⟨?_, .inr ⟨by rw [hc], Hp_same _ _ _⟩⟩
  unfold bsl
  rw [if_pos hz, hf]; rfl
theorem At.off {α : Type} {E : Enc α} {id c : Nat} {H : Hp} {v : Value} {l : List α} (h : At E id H v l) (hc : id ≠ c) : Off c v := by
  rcases h with ⟨rfl, _⟩ | ⟨rfl, _⟩
  · intro i o a k e; cases e
  · intro i o a k e; cases e; exact hc
end Go.Proofs.Ytdnokdgkccnbnaa.Ax
