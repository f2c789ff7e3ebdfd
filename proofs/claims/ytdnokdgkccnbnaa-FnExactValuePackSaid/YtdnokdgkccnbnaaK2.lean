/- Contracts: numbers and texts as bytes. -/
import Derived.Test.YtdnokdgkccnbnaaK1
set_option linter.unusedVariables false
set_option linter.unusedSimpArgs false
namespace Go.Proofs.Ytdnokdgkccnbnaa.Ax
open Go
/-- The bytes of a number. -/
def putBytes (x : Nat) : List Int := if h : 127 < x then ((x % 128 + 128 : Nat) : Int) :: putBytes (x / 128) else [(x : Int)]
termination_by x
decreasing_by omega
theorem putBytes_big {x : Nat} (h : 127 < x) : putBytes x = ((x % 128 + 128 : Nat) : Int) :: putBytes (x / 128) := by rw [putBytes, dif_pos h]
theorem putBytes_small {x : Nat} (h : ¬ 127 < x) : putBytes x = [(x : Int)] := by rw [putBytes, dif_neg h]
/-- One byte is put behind a row of ours. -/
theorem app_byte {H : Hp} {id0 id1 id2 : Nat} {acc : List Int} {b : Int} (h : H id0 = some (.row (bytesV acc) 1 true)) (h01 : id0 ≠ id1) (hl : acc.length ≤ 1000000000) :
    app id2 1 1 (sl id0 0 acc.length) (sl id1 0 1) (H.set id1 (some (.row [.int .u8 b] 1 true))) =
      some (sl id2 0 (acc.length + 1), ((H.set id1 (some (.row [.int .u8 b] 1 true))).set id0 none).set id2 (some (.row (bytesV (acc ++ [b])) 1 true))) := by
  have hb : 2 * (acc.length + 1) + 1024 ≤ 281474976710656 := by omega
  simp [app, src, Hp.set, h, h01, bytesV, List.take_of_length_le]
  omega
theorem conv_int (k k' : IntKind) (id : Nat) (n : Int) (H : Hp) : conv (.toInt k) id (.int k' n) H = some (.int k (k.wrap n), H) := rfl
theorem bsl_byte (id : Nat) (z : Value) (k : IntKind) (b : Int) (H : Hp) : bsl id 1 1 [z] [(0, 1, .int k b)] H = some (sl id 0 1, H.set id (some (.row [.int k b] 1 true))) := by simp [bsl, fill, vcells, setAt]

theorem l61 : ∀ (d x : Nat) (acc : List Int) (id : Nat) (t : Tm) (H : Hp) (n : Nat), x < 128 ^ (d + 1) → d ≤ 8 → acc.length + d ≤ 100 → t 0 = .int .i64 x → t 3 = sl id 0 acc.length → H id = some (.row (bytesV acc) 1 true) → id < n →
    ∃ (o : Out) (y : Nat) (pre : List Int) (id' : Nat), Loop (S61L0 (Call Try.prog) Loop) t H n = some o ∧ o.e = .exit 0 ∧ n ≤ o.n ∧ o.t 0 = .int .i64 y ∧ y ≤ 127 ∧ o.t 3 = sl id' 0 (acc ++ pre).length ∧ o.H id' = some (.row (bytesV (acc ++ pre)) 1 true) ∧ id' < o.n ∧
      pre ++ [(y : Int)] = putBytes x ∧ (id' = id ∨ n ≤ id') ∧ (∀ i, i < n → i ≠ id → o.H i = H i) ∧ pre.length ≤ d := by
  intro d
  induction d with
  | zero =>
    intro x acc id t H n hx hd hl h0 h3 hH hid
    have hx' : ¬ 127 < x := by simp at hx; omega
    have hxi : ¬ (127 : Int) < x := by omega
    rw [Loop_eq]
    unfold S61L0
    refine ⟨⟨.exit 0, put (put t 8 (.int .i64 x)) 9 (.bool false), H, n + 2⟩, x, [], id, ?_, rfl, by simp, by simp [put_at, h0], by omega, by simp [put_at, h3], by simpa using hH, by simp; omega, by rw [putBytes_small hx']; rfl, .inl rfl, fun i _ _ => rfl, by simp⟩
    simp [h0, i_gtr, csel_bool, hxi, thenO]
  | succ d ih =>
    intro x acc id t H n hx hd hl h0 h3 hH hid
    rw [Loop_eq]
    by_cases hb : 127 < x
    · generalize hLL : Loop (S61L0 (Call Try.prog) Loop) = LL at ih ⊢
      unfold S61L0
      have hxb : x < 9223372036854775808 := Nat.lt_of_lt_of_le hx (Nat.le_trans (Nat.pow_le_pow_right (by decide) (show d + 1 + 1 ≤ 9 by omega)) (by decide))
      have e1 : (x : Int).tmod 128 = ((x % 128 : Nat) : Int) := by rw [Int.tmod_eq_emod_of_nonneg (by omega)]; omega
      have e2 : IntKind.i64.wrap (((x % 128 : Nat) : Int) + 128) = ((x % 128 + 128 : Nat) : Int) := by rw [w64 (by omega)]; omega
      have e3 : IntKind.u8.wrap ((x % 128 + 128 : Nat) : Int) = ((x % 128 + 128 : Nat) : Int) := IntWalk.u8_in _ (by omega)
      have e4 : IntKind.i64.wrap ((x : Int).tdiv 128) = ((x / 128 : Nat) : Int) := by
        rw [Int.tdiv_eq_ediv_of_nonneg (by omega), w64 (by omega)]; omega
      have hbi : (127 : Int) < x := by omega
      have hap := app_byte (id2 := n + 8) (b := ((x % 128 + 128 : Nat) : Int)) hH (show id ≠ n + 7 by omega) (by omega)
      simp only [h0, h3, i_gtr, csel_bool, hbi, decide_true, if_true, Option.bind_some, i_rem, i_add, i_quo, e1, e2, conv_int, e3, e4, bsl_byte, hap, thenO, show ((128 : Int) = 0) = False by simp, if_false]
      generalize hT : put _ _ _ = T
      have hd2 : x / 128 < 128 ^ (d + 1) := by
        rw [Nat.div_lt_iff_lt_mul (by decide)]; rw [Nat.pow_succ] at hx; exact hx
      obtain ⟨o, y, pre, id', f1, f2, f3, f4, f5, f6, f7, f8, f9, f10, f11, f12⟩ := ih (x / 128) (acc ++ [((x % 128 + 128 : Nat) : Int)]) (n + 8) T _ (n + 13) hd2 (by omega) (by simp; omega) (by rw [← hT]; simp [put_at]) (by rw [← hT]; simp [put_at]) (Hp_same _ _ _) (by omega)
      refine ⟨o, y, ((x % 128 + 128 : Nat) : Int) :: pre, id', f1, f2, by omega, f4, f5, by simpa using f6, by simpa using f7, f8, ?_, by omega, ?_, by simp; omega⟩
      · rw [putBytes_big hb, ← f9]; rfl
      · intro i hi hne
        rw [f11 i (by omega) (by omega), Hp_ne _ _ (by omega), Hp_ne _ _ hne, Hp_ne _ _ (by omega)]
    · have hxi : ¬ (127 : Int) < x := by omega
      unfold S61L0
      refine ⟨⟨.exit 0, put (put t 8 (.int .i64 x)) 9 (.bool false), H, n + 2⟩, x, [], id, ?_, rfl, by simp, by simp [put_at, h0], by omega, by simp [put_at, h3], by simpa using hH, by simp; omega, by rw [putBytes_small hb]; rfl, .inl rfl, fun i _ _ => rfl, by simp⟩
      simp [h0, i_gtr, csel_bool, hxi, thenO]

theorem l64 : ∀ (d x : Nat) (acc : List Int) (id : Nat) (t : Tm) (H : Hp) (n : Nat), x < 128 ^ (d + 1) → d ≤ 8 → acc.length + d ≤ 100 → t 0 = .int .i64 x → t 3 = sl id 0 acc.length → H id = some (.row (bytesV acc) 1 true) → id < n →
    ∃ (o : Out) (y : Nat) (pre : List Int) (id' : Nat), Loop (S64L0 (Call Try.prog) Loop) t H n = some o ∧ o.e = .exit 0 ∧ n ≤ o.n ∧ o.t 0 = .int .i64 y ∧ y ≤ 127 ∧ o.t 3 = sl id' 0 (acc ++ pre).length ∧ o.H id' = some (.row (bytesV (acc ++ pre)) 1 true) ∧ id' < o.n ∧
      pre ++ [(y : Int)] = putBytes x ∧ (id' = id ∨ n ≤ id') ∧ (∀ i, i < n → i ≠ id → o.H i = H i) ∧ pre.length ≤ d := by
  intro d
  induction d with
  | zero =>
    intro x acc id t H n hx hd hl h0 h3 hH hid
    have hx' : ¬ 127 < x := by simp at hx; omega
    have hxi : ¬ (127 : Int) < x := by omega
    rw [Loop_eq]
    unfold S64L0
    refine ⟨⟨.exit 0, put (put t 7 (.int .i64 x)) 8 (.bool false), H, n + 2⟩, x, [], id, ?_, rfl, by simp, by simp [put_at, h0], by omega, by simp [put_at, h3], by simpa using hH, by simp; omega, by rw [putBytes_small hx']; rfl, .inl rfl, fun i _ _ => rfl, by simp⟩
    simp [h0, i_gtr, csel_bool, hxi, thenO]
  | succ d ih =>
    intro x acc id t H n hx hd hl h0 h3 hH hid
    rw [Loop_eq]
    by_cases hb : 127 < x
    · generalize hLL : Loop (S64L0 (Call Try.prog) Loop) = LL at ih ⊢
      unfold S64L0
      have hxb : x < 9223372036854775808 := Nat.lt_of_lt_of_le hx (Nat.le_trans (Nat.pow_le_pow_right (by decide) (show d + 1 + 1 ≤ 9 by omega)) (by decide))
      have e1 : (x : Int).tmod 128 = ((x % 128 : Nat) : Int) := by rw [Int.tmod_eq_emod_of_nonneg (by omega)]; omega
      have e2 : IntKind.i64.wrap (((x % 128 : Nat) : Int) + 128) = ((x % 128 + 128 : Nat) : Int) := by rw [w64 (by omega)]; omega
      have e3 : IntKind.u8.wrap ((x % 128 + 128 : Nat) : Int) = ((x % 128 + 128 : Nat) : Int) := IntWalk.u8_in _ (by omega)
      have e4 : IntKind.i64.wrap ((x : Int).tdiv 128) = ((x / 128 : Nat) : Int) := by
        rw [Int.tdiv_eq_ediv_of_nonneg (by omega), w64 (by omega)]; omega
      have hbi : (127 : Int) < x := by omega
      have hap := app_byte (id2 := n + 8) (b := ((x % 128 + 128 : Nat) : Int)) hH (show id ≠ n + 7 by omega) (by omega)
      simp only [h0, h3, i_gtr, csel_bool, hbi, decide_true, if_true, Option.bind_some, i_rem, i_add, i_quo, e1, e2, conv_int, e3, e4, bsl_byte, hap, thenO, show ((128 : Int) = 0) = False by simp, if_false]
      generalize hT : put _ _ _ = T
      have hd2 : x / 128 < 128 ^ (d + 1) := by
        rw [Nat.div_lt_iff_lt_mul (by decide)]; rw [Nat.pow_succ] at hx; exact hx
      obtain ⟨o, y, pre, id', f1, f2, f3, f4, f5, f6, f7, f8, f9, f10, f11, f12⟩ := ih (x / 128) (acc ++ [((x % 128 + 128 : Nat) : Int)]) (n + 8) T _ (n + 13) hd2 (by omega) (by simp; omega) (by rw [← hT]; simp [put_at]) (by rw [← hT]; simp [put_at]) (Hp_same _ _ _) (by omega)
      refine ⟨o, y, ((x % 128 + 128 : Nat) : Int) :: pre, id', f1, f2, by omega, f4, f5, by simpa using f6, by simpa using f7, f8, ?_, by omega, ?_, by simp; omega⟩
      · rw [putBytes_big hb, ← f9]; rfl
      · intro i hi hne
        rw [f11 i (by omega) (by omega), Hp_ne _ _ (by omega), Hp_ne _ _ hne, Hp_ne _ _ (by omega)]
    · have hxi : ¬ (127 : Int) < x := by omega
      unfold S64L0
      refine ⟨⟨.exit 0, put (put t 7 (.int .i64 x)) 8 (.bool false), H, n + 2⟩, x, [], id, ?_, rfl, by simp, by simp [put_at, h0], by omega, by simp [put_at, h3], by simpa using hH, by simp; omega, by rw [putBytes_small hb]; rfl, .inl rfl, fun i _ _ => rfl, by simp⟩
      simp [h0, i_gtr, csel_bool, hxi, thenO]

/-- A row of bytes that is made between two numbers, or none. -/
def Mine (n n' : Nat) (H : Hp) (v : Value) (l : List Int) : Prop := (v = nilS ∧ l = []) ∨ ∃ id, n ≤ id ∧ id < n' ∧ v = sl id 0 l.length ∧ H id = some (.row (bytesV l) 1 true)
theorem Mine.view {n n' : Nat} {H : Hp} {v : Value} {l : List Int} (h : Mine n n' H v l) : View H 1 v (bytesV l) l.length := by
  rcases h with ⟨rfl, rfl⟩ | ⟨id, _, _, rfl, h⟩
  · exact View.nil
  · exact View.new h (by simp)
theorem Mine.keep {n n' m : Nat} {H H' : Hp} {v : Value} {l : List Int} (h : Mine n n' H v l) (hs : Same m H H') (hm : n' ≤ m) : Mine n n' H' v l := by
  rcases h with h | ⟨id, h1, h2, h3, h4⟩
  · exact .inl h
  · exact .inr ⟨id, h1, h2, h3, by rw [hs id (by omega)]; exact h4⟩
theorem putBytes_len : ∀ (d x : Nat), x < 128 ^ (d + 1) → (putBytes x).length ≤ d + 1
  | 0, x, h => by rw [putBytes_small (by simp at h; omega)]; simp
  | d + 1, x, h => by
    by_cases hb : 127 < x
    · rw [putBytes_big hb, List.length_cons]
      have := putBytes_len d (x / 128) (by rw [Nat.div_lt_iff_lt_mul (by decide)]; rw [Nat.pow_succ] at h; exact h)
      omega
    · rw [putBytes_small hb]; simp
def putNum (x : Int) : List Int := if x < 0 then [] else putBytes x.toNat
theorem putNum_len (x : Int) (h : x ≤ 9223372036854775807) : (putNum x).length ≤ 9 := by
  unfold putNum
  split
  · simp
  · exact putBytes_len 8 _ (by have : (128 : Nat) ^ (8 + 1) = 9223372036854775808 := by decide
                               omega)
theorem k61 (x : Int) (hx : x ≤ 9223372036854775807) (H : Hp) (n : Nat) : ∃ v H' n', n ≤ n' ∧ Same n H H' ∧ Call Try.prog 61 [.int .i64 x] H n = some (v, H', n') ∧ Mine n n' H' v (putNum x) := by
  rw [c61]; unfold S61
  by_cases hn : x < 0
  · refine ⟨sl (n + 1) 0 0, H.set (n + 1) (some (.row [] 1 true)), n + 7, by omega, ?_, by simp only [bsl_zero, Option.bind_some, argsT_at, List.getD_cons_zero, i_lss, hn, decide_true, csel_bool, if_true], .inr ⟨n + 1, by omega, by omega, ?_, ?_⟩⟩
    · intro i hi; exact Hp_ne _ _ (by omega)
    · simp [putNum, hn]
    · simp [putNum, hn, Hp_same]
  · have hp : (128 : Nat) ^ (8 + 1) = 9223372036854775808 := by decide
    have hxn : x = ((x.toNat : Nat) : Int) := by omega
    simp only [bsl_zero, Option.bind_some, argsT_at, List.getD_cons_zero, i_lss, hn, decide_false, csel_bool, Bool.false_eq_true, if_false]
    generalize hT : put _ _ _ = T
    obtain ⟨o, y, pre, id', f1, f2, f3, f4, f5, f6, f7, f8, f9, f10, f11, f12⟩ := l61 8 x.toNat [] (n + 1) T (H.set (n + 1) (some (.row [] 1 true))) (n + 5) (by omega) (by omega) (by simp) (by rw [← hT]; simp only [put_at, Nat.reduceEqDiff, if_false, reduceIte]; simp only [argsT_at, List.getD_cons_zero]; rw [← hxn]) (by rw [← hT]; simp [put_at]) (Hp_same _ _ _) (by omega)
    rw [f1]
    have e3 : IntKind.u8.wrap (y : Int) = (y : Int) := IntWalk.u8_in _ (by omega)
    rw [List.nil_append] at f6 f7
    have hap := app_byte (id1 := o.n + 3) (id2 := o.n + 4) (b := (y : Int)) f7 (by omega) (by omega)
    have hl : putNum x = pre ++ [(y : Int)] := by unfold putNum; rw [if_neg hn, f9]
    simp only [Option.bind_some, f4, f6, conv_int, e3, bsl_byte, hap]
    refine ⟨_, _, o.n + 6, by omega, ?_, rfl, .inr ⟨o.n + 4, by omega, by omega, ?_, ?_⟩⟩
    · intro i hi
      rw [Hp_ne _ _ (by omega), Hp_ne _ _ (by omega), Hp_ne _ _ (by omega), f11 i (by omega) (by omega), Hp_ne _ _ (by omega)]
    · rw [hl]; simp
    · rw [hl]; exact Hp_same _ _ _
theorem k64 (x : Int) (hx : x ≤ 9223372036854775807) (H : Hp) (n : Nat) : ∃ v H' n', n ≤ n' ∧ Same n H H' ∧ Call Try.prog 64 [.int .i64 x] H n = some (v, H', n') ∧ Mine n n' H' v (putNum x) := by
  rw [c64]; unfold S64
  by_cases hn : x < 0
  · refine ⟨nilS, H, n + 4, by omega, Same.refl _ _, by simp only [argsT_at, List.getD_cons_zero, i_lss, hn, decide_true, csel_bool, if_true, Option.bind_some], .inl ⟨rfl, by simp [putNum, hn]⟩⟩
  · have hp : (128 : Nat) ^ (8 + 1) = 9223372036854775808 := by decide
    have hxn : x = ((x.toNat : Nat) : Int) := by omega
    simp only [bsl_zero, Option.bind_some, argsT_at, List.getD_cons_zero, i_lss, hn, decide_false, csel_bool, Bool.false_eq_true, if_false]
    generalize hT : put _ _ _ = T
    obtain ⟨o, y, pre, id', f1, f2, f3, f4, f5, f6, f7, f8, f9, f10, f11, f12⟩ := l64 8 x.toNat [] (n + 3) T (H.set (n + 3) (some (.row [] 1 true))) (n + 5) (by omega) (by omega) (by simp) (by rw [← hT]; simp only [put_at, Nat.reduceEqDiff, if_false, reduceIte]; simp only [argsT_at, List.getD_cons_zero]; rw [← hxn]) (by rw [← hT]; simp [put_at]) (Hp_same _ _ _) (by omega)
    rw [f1]
    have e3 : IntKind.u8.wrap (y : Int) = (y : Int) := IntWalk.u8_in _ (by omega)
    rw [List.nil_append] at f6 f7
    have hap := app_byte (id1 := o.n + 3) (id2 := o.n + 4) (b := (y : Int)) f7 (by omega) (by omega)
    have hl : putNum x = pre ++ [(y : Int)] := by unfold putNum; rw [if_neg hn, f9]
    simp only [Option.bind_some, f4, f6, conv_int, e3, bsl_byte, hap]
    refine ⟨_, _, o.n + 6, by omega, ?_, rfl, .inr ⟨o.n + 4, by omega, by omega, ?_, ?_⟩⟩
    · intro i hi
      rw [Hp_ne _ _ (by omega), Hp_ne _ _ (by omega), Hp_ne _ _ (by omega), f11 i (by omega) (by omega), Hp_ne _ _ (by omega)]
    · rw [hl]; simp
    · rw [hl]; exact Hp_same _ _ _
/-- What markByteS writes. -/
def marks (m : Int) : Nat → List Int
  | 0 => []
  | n + 1 => IntKind.u8.wrap m :: marks (m + 1) n
theorem marks_len (m : Int) : ∀ n, (marks m n).length = n
  | 0 => rfl
  | n + 1 => by simp [marks, marks_len]
theorem st_cell {H : Hp} {i p : Nat} {cs : List Value} {e : Nat} {k : IntKind} {b : Int} (h : H i = some (.row cs e true)) (hp : p < cs.length) : st false 1 (ptr i p) (.int k b) H = some (H.set i (some (.row (setAt cs p [.int k b]) e true))) := by
  simp [st, stv, h]; omega
theorem setAt_mid {α : Type} (pre rest : List Value) (x y : Value) (_ : α) : setAt (pre ++ x :: rest) pre.length [y] = pre ++ y :: rest := by
  unfold setAt
  rw [List.take_left' rfl, show pre ++ x :: rest = (pre ++ [x]) ++ rest by simp, List.drop_left' (by simp)]
  simp
theorem app_row {H : Hp} {id0 id2 : Nat} {acc b : List Int} {x : Value} (h : H id0 = some (.row (bytesV acc) 1 true)) (hx : src 1 x H = some (bytesV b, b.length)) (hl : acc.length + b.length ≤ 1000000000) :
    app id2 1 1 (sl id0 0 acc.length) x H = some (sl id2 0 (acc.length + b.length), (H.set id0 none).set id2 (some (.row (bytesV (acc ++ b)) 1 true))) := by
  have hb : 2 * (acc.length + b.length) + 1024 ≤ 281474976710656 := by omega
  simp [app, hx, h, bytesV, List.take_of_length_le]
  omega
def putText (s : ByteArray) : List Int := putNum s.size ++ numsOf s
theorem bytesOf_nums (s : ByteArray) : bytesOf s = bytesV (numsOf s) := by simp [bytesOf, numsOf, bytesV]
theorem src_str (s : ByteArray) (H : Hp) : src 1 (.string s) H = some (bytesV (numsOf s), (numsOf s).length) := by
  simp [src, numsOf, bytesV]
theorem src_row {H : Hp} {id : Nat} {l : List Int} (h : H id = some (.row (bytesV l) 1 true)) : src 1 (sl id 0 l.length) H = some (bytesV l, l.length) := by
  simp [src, h, bytesV, List.take_of_length_le]
theorem putNum_ne (n : Nat) : putNum n ≠ [] := by
  unfold putNum
  rw [if_neg (by omega)]
  by_cases h : 127 < ((n : Int).toNat)
  · rw [putBytes_big h]; simp
  · rw [putBytes_small h]; simp
theorem k65 (s : ByteArray) (hs : s.size ≤ 1048576) (H : Hp) (n : Nat) : ∃ v H' n', n ≤ n' ∧ Same n H H' ∧ Call Try.prog 65 [.string s] H n = some (v, H', n') ∧ Mine n n' H' v (putText s) := by
  rw [c65]; unfold S65
  have hlen := putNum_len (s.size : Int) (by omega)
  obtain ⟨v, H1, n1, a1, a2, a3, a4⟩ := k64 (s.size : Int) (by omega) H (n + 7)
  rcases a4 with ⟨_, h⟩ | ⟨id, i1, i2, rfl, i4⟩
  · exact absurd h (putNum_ne s.size)
  · have hap := app_row (id2 := n + 5) i4 (src_str s H1) (by rw [numsOf_length]; omega)
    refine ⟨sl (n + 5) 0 ((putNum s.size).length + (numsOf s).length), (H1.set id none).set (n + 5) (some (.row (bytesV (putText s)) 1 true)), n1, by omega, ?_, ?_, .inr ⟨n + 5, by omega, by omega, ?_, Hp_same _ _ _⟩⟩
    · intro i hi
      rw [Hp_ne _ _ (by omega), Hp_ne _ _ (by omega), a2 i (by omega)]
    · simp only [argsT_at, List.getD_cons_zero, len_str, Option.bind_some, a3, hap]; rfl
    · simp [putText]
theorem k62 (s : ByteArray) (hs : s.size ≤ 1048576) (H : Hp) (n : Nat) : ∃ v H' n', n ≤ n' ∧ Same n H H' ∧ Call Try.prog 62 [.string s] H n = some (v, H', n') ∧ Mine n n' H' v (putText s) := by
  rw [c62]; unfold S62
  have hlen := putNum_len (s.size : Int) (by omega)
  obtain ⟨v, H1, n1, a1, a2, a3, a4⟩ := k61 (s.size : Int) (by omega) H (n + 8)
  rcases a4 with ⟨_, h⟩ | ⟨id, i1, i2, rfl, i4⟩
  · exact absurd h (putNum_ne s.size)
  · have hcv : conv .strToBytes (n + 5) (.string s) H1 = some (sl (n + 5) 0 (numsOf s).length, H1.set (n + 5) (some (.row (bytesV (numsOf s)) 1 true))) := by
      simp only [conv, bytesOf_nums, numsOf_length]
    have hap := app_row (id2 := n + 6) (H := H1.set (n + 5) (some (.row (bytesV (numsOf s)) 1 true))) (id0 := id) (acc := putNum s.size) (by rw [Hp_ne _ _ (by omega)]; exact i4) (src_row (Hp_same _ _ _)) (by rw [numsOf_length]; omega)
    refine ⟨sl (n + 6) 0 ((putNum s.size).length + (numsOf s).length), (((H1.set (n + 5) (some (.row (bytesV (numsOf s)) 1 true))).set id none)).set (n + 6) (some (.row (bytesV (putText s)) 1 true)), n1, by omega, ?_, ?_, .inr ⟨n + 6, by omega, by omega, ?_, Hp_same _ _ _⟩⟩
    · intro i hi
      rw [Hp_ne _ _ (by omega), Hp_ne _ _ (by omega), Hp_ne _ _ (by omega), a2 i (by omega)]
    · simp only [argsT_at, List.getD_cons_zero, len_str, Option.bind_some, a3, hcv, hap]; rfl
    · simp [putText]
end Go.Proofs.Ytdnokdgkccnbnaa.Ax
