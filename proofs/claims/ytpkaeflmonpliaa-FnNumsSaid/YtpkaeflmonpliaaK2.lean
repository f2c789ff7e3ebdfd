/- Contracts: numbers and texts as bytes. -/
import Derived.Test.YtpkaeflmonpliaaK1
set_option linter.unusedVariables false
set_option linter.unusedSimpArgs false
namespace Go.Proofs.Ytpkaeflmonpliaa.Ax
open Go
/-- The bytes of a number. -/
def putBytes (x : Nat) : List Int := if h : 127 < x then ((x % 128 + 128 : Nat) : Int) :: putBytes (x / 128) else [(x : Int)]
termination_by x
decreasing_by omega
theorem putBytes_big {x : Nat} (h : 127 < x) : putBytes x = ((x % 128 + 128 : Nat) : Int) :: putBytes (x / 128) := by rw [putBytes, dif_pos h]
theorem putBytes_small {x : Nat} (h : ¬ 127 < x) : putBytes x = [(x : Int)] := by rw [putBytes, dif_neg h]
/-- One byte is put behind a row of ours. -/
theorem app_byte {H : Hp} {id0 id1 id2 : Nat} {acc : List Int} {b : Int} (h : H id0 = some (.row (bytesV acc) 1 true)) (h01 : id0 ≠ id1) (hl : acc.length ≤ 1000000000) :
    app id2 1 1 (sl id0 0 acc.length) (sl id1 0 1) (H.set id1 (some (.row [.int .u8 b] 1 true))) =
      some (sl id2 0 (acc.length + 1), ((H.set id1 (some (.row [.int .u8 b] 1 true))).set id0 none).set id2 (some (.row (bytesV (acc ++ [b])) 1 true))) := by
  have hb : 2 * (acc.length + 1) + 1024 ≤ 281474976710656 := by omega
  simp [app, src, Hp.set, h, h01, bytesV, List.take_of_length_le]
  omega
theorem conv_int (k k' : IntKind) (id : Nat) (n : Int) (H : Hp) : conv (.toInt k) id (.int k' n) H = some (.int k (k.wrap n), H) := rfl
theorem bsl_byte (id : Nat) (z : Value) (k : IntKind) (b : Int) (H : Hp) : bsl id 1 1 [z] [(0, 1, .int k b)] H = some (sl id 0 1, H.set id (some (.row [.int k b] 1 true))) := by simp [bsl, fill, vcells, setAt]

theorem l9 : ∀ (d x : Nat) (acc : List Int) (id : Nat) (t : Tm) (H : Hp) (n : Nat), x < 128 ^ (d + 1) → d ≤ 8 → acc.length + d ≤ 100 → t 0 = .int .i64 x → t 3 = sl id 0 acc.length → H id = some (.row (bytesV acc) 1 true) → id < n →
    ∃ (o : Out) (y : Nat) (pre : List Int) (id' : Nat), Loop (S9L0 (Call Try.prog) Loop) t H n = some o ∧ o.e = .exit 0 ∧ n ≤ o.n ∧ o.t 0 = .int .i64 y ∧ y ≤ 127 ∧ o.t 3 = sl id' 0 (acc ++ pre).length ∧ o.H id' = some (.row (bytesV (acc ++ pre)) 1 true) ∧ id' < o.n ∧
      pre ++ [(y : Int)] = putBytes x ∧ (id' = id ∨ n ≤ id') ∧ (∀ i, i < n → i ≠ id → o.H i = H i) ∧ pre.length ≤ d := by
  intro d
  induction d with
  | zero =>
    intro x acc id t H n hx hd hl h0 h3 hH hid
    have hx' : ¬ 127 < x := by simp at hx; omega
    have hxi : ¬ (127 : Int) < x := by omega
    rw [Loop_eq]
    unfold S9L0
    refine ⟨⟨.exit 0, put (put t 8 (.int .i64 x)) 9 (.bool false), H, n + 2⟩, x, [], id, ?_, rfl, by simp, by simp [put_at, h0], by omega, by simp [put_at, h3], by simpa using hH, by simp; omega, by rw [putBytes_small hx']; rfl, .inl rfl, fun i _ _ => rfl, by simp⟩
    simp [h0, i_gtr, csel_bool, hxi, thenO]
  | succ d ih =>
    intro x acc id t H n hx hd hl h0 h3 hH hid
    rw [Loop_eq]
    by_cases hb : 127 < x
    · generalize hLL : Loop (S9L0 (Call Try.prog) Loop) = LL at ih ⊢
      unfold S9L0
      have hxb : x < 9223372036854775808 := Nat.lt_of_lt_of_le hx (Nat.le_trans (Nat.pow_le_pow_right (by decide) (show d + 1 + 1 ≤ 9 by omega)) (by decide))
      have e1 : (x : Int).tmod 128 = ((x % 128 : Nat) : Int) := by rw [Int.tmod_eq_emod_of_nonneg (by omega)]; omega
      have e2 : IntKind.i64.wrap (((x % 128 : Nat) : Int) + 128) = ((x % 128 + 128 : Nat) : Int) := by rw [w64 (by omega)]; omega
      have e3 : IntKind.u8.wrap ((x % 128 + 128 : Nat) : Int) = ((x % 128 + 128 : Nat) : Int) := IntWalk.u8_in _ (by omega)
      have e4 : IntKind.i64.wrap ((x : Int).tdiv 128) = ((x / 128 : Nat) : Int) := by
        rw [Int.tdiv_eq_ediv_of_nonneg (by omega), w64 (by omega)]; omega
      have hbi : (127 : Int) < x := by omega
      have hap := app_byte (id2 := n + 8) (b := ((x % 128 + 128 : Nat) : Int)) hH (show id ≠ n + 7 by omega) (by omega)
      simp only [h0, h3, i_gtr, csel_bool, hbi, decide_true, if_true, Option.bind_some, i_rem, i_add, i_quo, e1, e2, conv_int, e3, e4, bsl_byte, hap, thenO, show ((128 : Int) = 0) = False by simp, if_false]
      generalize hT : put _ _ _ = T
      have hd2 : x / 128 < 128 ^ (d + 1) := by
        rw [Nat.div_lt_iff_lt_mul (by decide)]; rw [Nat.pow_succ] at hx; exact hx
      obtain ⟨o, y, pre, id', f1, f2, f3, f4, f5, f6, f7, f8, f9, f10, f11, f12⟩ := ih (x / 128) (acc ++ [((x % 128 + 128 : Nat) : Int)]) (n + 8) T _ (n + 13) hd2 (by omega) (by simp; omega) (by rw [← hT]; simp [put_at]) (by rw [← hT]; simp [put_at]) (Hp_same _ _ _) (by omega)
      refine ⟨o, y, ((x % 128 + 128 : Nat) : Int) :: pre, id', f1, f2, by omega, f4, f5, by simpa using f6, by simpa using f7, f8, ?_, by omega, ?_, by simp; omega⟩
      · rw [putBytes_big hb, ← f9]; rfl
      · intro i hi hne
        rw [f11 i (by omega) (by omega), Hp_ne _ _ (by omega), Hp_ne _ _ hne, Hp_ne _ _ (by omega)]
    · have hxi : ¬ (127 : Int) < x := by omega
      unfold S9L0
      refine ⟨⟨.exit 0, put (put t 8 (.int .i64 x)) 9 (.bool false), H, n + 2⟩, x, [], id, ?_, rfl, by simp, by simp [put_at, h0], by omega, by simp [put_at, h3], by simpa using hH, by simp; omega, by rw [putBytes_small hb]; rfl, .inl rfl, fun i _ _ => rfl, by simp⟩
      simp [h0, i_gtr, csel_bool, hxi, thenO]

theorem l10 : ∀ (d x : Nat) (acc : List Int) (id : Nat) (t : Tm) (H : Hp) (n : Nat), x < 128 ^ (d + 1) → d ≤ 8 → acc.length + d ≤ 100 → t 0 = .int .i64 x → t 3 = sl id 0 acc.length → H id = some (.row (bytesV acc) 1 true) → id < n →
    ∃ (o : Out) (y : Nat) (pre : List Int) (id' : Nat), Loop (S10L0 (Call Try.prog) Loop) t H n = some o ∧ o.e = .exit 0 ∧ n ≤ o.n ∧ o.t 0 = .int .i64 y ∧ y ≤ 127 ∧ o.t 3 = sl id' 0 (acc ++ pre).length ∧ o.H id' = some (.row (bytesV (acc ++ pre)) 1 true) ∧ id' < o.n ∧
      pre ++ [(y : Int)] = putBytes x ∧ (id' = id ∨ n ≤ id') ∧ (∀ i, i < n → i ≠ id → o.H i = H i) ∧ pre.length ≤ d := by
  intro d
  induction d with
  | zero =>
    intro x acc id t H n hx hd hl h0 h3 hH hid
    have hx' : ¬ 127 < x := by simp at hx; omega
    have hxi : ¬ (127 : Int) < x := by omega
    rw [Loop_eq]
    unfold S10L0
    refine ⟨⟨.exit 0, put (put t 7 (.int .i64 x)) 8 (.bool false), H, n + 2⟩, x, [], id, ?_, rfl, by simp, by simp [put_at, h0], by omega, by simp [put_at, h3], by simpa using hH, by simp; omega, by rw [putBytes_small hx']; rfl, .inl rfl, fun i _ _ => rfl, by simp⟩
    simp [h0, i_gtr, csel_bool, hxi, thenO]
  | succ d ih =>
    intro x acc id t H n hx hd hl h0 h3 hH hid
    rw [Loop_eq]
    by_cases hb : 127 < x
    · generalize hLL : Loop (S10L0 (Call Try.prog) Loop) = LL at ih ⊢
      unfold S10L0
      have hxb : x < 9223372036854775808 := Nat.lt_of_lt_of_le hx (Nat.le_trans (Nat.pow_le_pow_right (by decide) (show d + 1 + 1 ≤ 9 by omega)) (by decide))
      have e1 : (x : Int).tmod 128 = ((x % 128 : Nat) : Int) := by rw [Int.tmod_eq_emod_of_nonneg (by omega)]; omega
      have e2 : IntKind.i64.wrap (((x % 128 : Nat) : Int) + 128) = ((x % 128 + 128 : Nat) : Int) := by rw [w64 (by omega)]; omega
      have e3 : IntKind.u8.wrap ((x % 128 + 128 : Nat) : Int) = ((x % 128 + 128 : Nat) : Int) := IntWalk.u8_in _ (by omega)
      have e4 : IntKind.i64.wrap ((x : Int).tdiv 128) = ((x / 128 : Nat) : Int) := by
        rw [Int.tdiv_eq_ediv_of_nonneg (by omega), w64 (by omega)]; omega
      have hbi : (127 : Int) < x := by omega
      have hap := app_byte (id2 := n + 8) (b := ((x % 128 + 128 : Nat) : Int)) hH (show id ≠ n + 7 by omega) (by omega)
      simp only [h0, h3, i_gtr, csel_bool, hbi, decide_true, if_true, Option.bind_some, i_rem, i_add, i_quo, e1, e2, conv_int, e3, e4, bsl_byte, hap, thenO, show ((128 : Int) = 0) = False by simp, if_false]
      generalize hT : put _ _ _ = T
      have hd2 : x / 128 < 128 ^ (d + 1) := by
        rw [Nat.div_lt_iff_lt_mul (by decide)]; rw [Nat.pow_succ] at hx; exact hx
      obtain ⟨o, y, pre, id', f1, f2, f3, f4, f5, f6, f7, f8, f9, f10, f11, f12⟩ := ih (x / 128) (acc ++ [((x % 128 + 128 : Nat) : Int)]) (n + 8) T _ (n + 13) hd2 (by omega) (by simp; omega) (by rw [← hT]; simp [put_at]) (by rw [← hT]; simp [put_at]) (Hp_same _ _ _) (by omega)
      refine ⟨o, y, ((x % 128 + 128 : Nat) : Int) :: pre, id', f1, f2, by omega, f4, f5, by simpa using f6, by simpa using f7, f8, ?_, by omega, ?_, by simp; omega⟩
      · rw [putBytes_big hb, ← f9]; rfl
      · intro i hi hne
        rw [f11 i (by omega) (by omega), Hp_ne _ _ (by omega), Hp_ne _ _ hne, Hp_ne _ _ (by omega)]
    · have hxi : ¬ (127 : Int) < x := by omega
      unfold S10L0
      refine ⟨⟨.exit 0, put (put t 7 (.int .i64 x)) 8 (.bool false), H, n + 2⟩, x, [], id, ?_, rfl, by simp, by simp [put_at, h0], by omega, by simp [put_at, h3], by simpa using hH, by simp; omega, by rw [putBytes_small hb]; rfl, .inl rfl, fun i _ _ => rfl, by simp⟩
      simp [h0, i_gtr, csel_bool, hxi, thenO]

/-- A row of bytes that is made between two numbers, or none. -/
def Mine (n n' : Nat) (H : Hp) (v : Value) (l : List Int) : Prop := (v = nilS ∧ l = []) ∨ ∃ id, n ≤ id ∧ id < n' ∧ v = sl id 0 l.length ∧ H id = some (.row (bytesV l) 1 true)
theorem Mine.view {n n' : Nat} {H : Hp} {v : Value} {l : List Int} (h : Mine n n' H v l) : View H 1 v (bytesV l) l.length := by
  rcases h with ⟨rfl, rfl⟩ | ⟨id, _, _, rfl, h⟩
  · exact View.nil
  · exact View.new h (by simp)
theorem Mine.keep {n n' m : Nat} {H H' : Hp} {v : Value} {l : List Int} (h : Mine n n' H v l) (hs : Same m H H') (hm : n' ≤ m) : Mine n n' H' v l := by
  rcases h with h | ⟨id, h1, h2, h3, h4⟩
  · exact .inl h
  · exact .inr ⟨id, h1, h2, h3, by rw [hs id (by omega)]; exact h4⟩
theorem putBytes_len : ∀ (d x : Nat), x < 128 ^ (d + 1) → (putBytes x).length ≤ d + 1
  | 0, x, h => by rw [putBytes_small (by simp at h; omega)]; simp
  | d + 1, x, h => by
    by_cases hb : 127 < x
    · rw [putBytes_big hb, List.length_cons]
      have := putBytes_len d (x / 128) (by rw [Nat.div_lt_iff_lt_mul (by decide)]; rw [Nat.pow_succ] at h; exact h)
      omega
    · rw [putBytes_small hb]; simp
def putNum (x : Int) : List Int := if x < 0 then [] else putBytes x.toNat
theorem putNum_len (x : Int) (h : x ≤ 9223372036854775807) : (putNum x).length ≤ 9 := by
  unfold putNum
  split
  · simp
  · exact putBytes_len 8 _ (by have : (128 : Nat) ^ (8 + 1) = 9223372036854775808 := by decide
                               omega)
theorem k9 (x : Int) (hx : x ≤ 9223372036854775807) (H : Hp) (n : Nat) : ∃ v H' n', n ≤ n' ∧ Same n H H' ∧ Call Try.prog 9 [.int .i64 x] H n = some (v, H', n') ∧ Mine n n' H' v (putNum x) := by
  rw [c9]; unfold S9
  by_cases hn : x < 0
  · refine ⟨sl (n + 1) 0 0, H.set (n + 1) (some (.row [] 1 true)), n + 7, by omega, ?_, by simp only [bsl_zero, Option.bind_some, argsT_at, List.getD_cons_zero, i_lss, hn, decide_true, csel_bool, if_true], .inr ⟨n + 1, by omega, by omega, ?_, ?_⟩⟩
    · intro i hi; exact Hp_ne _ _ (by omega)
    · simp [putNum, hn]
    · simp [putNum, hn, Hp_same]
  · have hp : (128 : Nat) ^ (8 + 1) = 9223372036854775808 := by decide
    have hxn : x = ((x.toNat : Nat) : Int) := by omega
    simp only [bsl_zero, Option.bind_some, argsT_at, List.getD_cons_zero, i_lss, hn, decide_false, csel_bool, Bool.false_eq_true, if_false]
    generalize hT : put _ _ _ = T
    obtain ⟨o, y, pre, id', f1, f2, f3, f4, f5, f6, f7, f8, f9, f10, f11, f12⟩ := l9 8 x.toNat [] (n + 1) T (H.set (n + 1) (some (.row [] 1 true))) (n + 5) (by omega) (by omega) (by simp) (by rw [← hT]; simp only [put_at, Nat.reduceEqDiff, if_false, reduceIte]; simp only [argsT_at, List.getD_cons_zero]; rw [← hxn]) (by rw [← hT]; simp [put_at]) (Hp_same _ _ _) (by omega)
    rw [f1]
    have e3 : IntKind.u8.wrap (y : Int) = (y : Int) := IntWalk.u8_in _ (by omega)
    rw [List.nil_append] at f6 f7
    have hap := app_byte (id1 := o.n + 3) (id2 := o.n + 4) (b := (y : Int)) f7 (by omega) (by omega)
    have hl : putNum x = pre ++ [(y : Int)] := by unfold putNum; rw [if_neg hn, f9]
    simp only [Option.bind_some, f4, f6, conv_int, e3, bsl_byte, hap]
    refine ⟨_, _, o.n + 6, by omega, ?_, rfl, .inr ⟨o.n + 4, by omega, by omega, ?_, ?_⟩⟩
    · intro i hi
      rw [Hp_ne _ _ (by omega), Hp_ne _ _ (by omega), Hp_ne _ _ (by omega), f11 i (by omega) (by omega), Hp_ne _ _ (by omega)]
    · rw [hl]; simp
    · rw [hl]; exact Hp_same _ _ _
theorem k10 (x : Int) (hx : x ≤ 9223372036854775807) (H : Hp) (n : Nat) : ∃ v H' n', n ≤ n' ∧ Same n H H' ∧ Call Try.prog 10 [.int .i64 x] H n = some (v, H', n') ∧ Mine n n' H' v (putNum x) := by
  rw [c10]; unfold S10
  by_cases hn : x < 0
  · refine ⟨nilS, H, n + 4, by omega, Same.refl _ _, by simp only [argsT_at, List.getD_cons_zero, i_lss, hn, decide_true, csel_bool, if_true, Option.bind_some], .inl ⟨rfl, by simp [putNum, hn]⟩⟩
  · have hp : (128 : Nat) ^ (8 + 1) = 9223372036854775808 := by decide
    have hxn : x = ((x.toNat : Nat) : Int) := by omega
    simp only [bsl_zero, Option.bind_some, argsT_at, List.getD_cons_zero, i_lss, hn, decide_false, csel_bool, Bool.false_eq_true, if_false]
    generalize hT : put _ _ _ = T
    obtain ⟨o, y, pre, id', f1, f2, f3, f4, f5, f6, f7, f8, f9, f10, f11, f12⟩ := l10 8 x.toNat [] (n + 3) T (H.set (n + 3) (some (.row [] 1 true))) (n + 5) (by omega) (by omega) (by simp) (by rw [← hT]; simp only [put_at, Nat.reduceEqDiff, if_false, reduceIte]; simp only [argsT_at, List.getD_cons_zero]; rw [← hxn]) (by rw [← hT]; simp [put_at]) (Hp_same _ _ _) (by omega)
    rw [f1]
    have e3 : IntKind.u8.wrap (y : Int) = (y : Int) := IntWalk.u8_in _ (by omega)
    rw [List.nil_append] at f6 f7
    have hap := app_byte (id1 := o.n + 3) (id2 := o.n + 4) (b := (y : Int)) f7 (by omega) (by omega)
    have hl : putNum x = pre ++ [(y : Int)] := by unfold putNum; rw [if_neg hn, f9]
    simp only [Option.bind_some, f4, f6, conv_int, e3, bsl_byte, hap]
    refine ⟨_, _, o.n + 6, by omega, ?_, rfl, .inr ⟨o.n + 4, by omega, by omega, ?_, ?_⟩⟩
    · intro i hi
      rw [Hp_ne _ _ (by omega), Hp_ne _ _ (by omega), Hp_ne _ _ (by omega), f11 i (by omega) (by omega), Hp_ne _ _ (by omega)]
    · rw [hl]; simp
    · rw [hl]; exact Hp_same _ _ _
theorem l11 {C : Calling} {H : Hp} {v1 v2 : Value} {a b : List Int} (h1 : View H 1 v1 (bytesV a) a.length) (h2 : View H 1 v2 (bytesV b) b.length) (hab : a.length = b.length) (hl : a.length ≤ 1000000000) : ∀ (d j : Nat) (t : Tm) (n : Nat), j + d = a.length → t 0 = v1 → t 1 = v2 → t 5 = .int .i64 j →
    ∃ o, Loop (S11L0 C Loop) t H n = some o ∧ n ≤ o.n ∧ o.H = H ∧ ((o.e = .exit 0 ∧ a.drop j = b.drop j) ∨ (o.e = .ret ∧ o.t 4 = .bool false ∧ a.drop j ≠ b.drop j)) := by
  intro d
  induction d with
  | zero =>
    intro j t n hj e0 e1 e5
    rw [Loop_eq]
    unfold S11L0
    have hlt : ¬ (j : Int) < a.length := by omega
    refine ⟨⟨.exit 0, put (put (put (put t 11 (.int .i64 j)) 12 v1) 13 (.int .i64 a.length)) 14 (.bool false), H, n + 4⟩, ?_, by simp, rfl, .inl ⟨rfl, ?_⟩⟩
    · simp only [e0, e5, h1.len, Option.bind_some, i_lss, hlt, decide_false, csel_bool, Bool.false_eq_true, if_false, thenO]
    · rw [List.drop_eq_nil_of_le (by omega), List.drop_eq_nil_of_le (by omega)]
  | succ d ih =>
    intro j t n hj e0 e1 e5
    have hlt : (j : Int) < a.length := by omega
    have ha : j < a.length := by omega
    have hb : j < b.length := by omega
    obtain ⟨p, p1, p2, _⟩ := h1.idx (k := .i64) (j := (j : Int)) (by omega) (by omega)
    obtain ⟨q, q1, q2, _⟩ := h2.idx (k := .i64) (j := (j : Int)) (by omega) (by omega)
    have hp := p2 (.int .u8 a[j]) rfl (by simp [ha])
    have hq := q2 (.int .u8 b[j]) rfl (by simp [hb])
    have da : a.drop j = a[j] :: a.drop (j + 1) := List.drop_eq_getElem_cons ha
    have db : b.drop j = b[j] :: b.drop (j + 1) := List.drop_eq_getElem_cons hb
    rw [Loop_eq]
    generalize hLL : Loop (S11L0 C Loop) = LL at ih ⊢
    unfold S11L0
    by_cases hx : a[j] = b[j]
    · have hw : IntKind.i64.wrap ((j : Int) + 1) = ((j + 1 : Nat) : Int) := by rw [w64 (by omega)]; omega
      simp only [e0, e1, e5, h1.len, Option.bind_some, i_lss, hlt, decide_true, csel_bool, if_true, p1, hp, q1, hq, i_neq, hx, ne_eq, not_true_eq_false, decide_false, Bool.false_eq_true, if_false, i_add, hw, thenO]
      generalize hT : put _ _ _ = T
      obtain ⟨o, f1, f2, f3, f4⟩ := ih (j + 1) T (n + 16) (by omega) (by rw [← hT]; simp [put_at, e0]) (by rw [← hT]; simp [put_at, e1]) (by rw [← hT]; simp [put_at])
      refine ⟨o, f1, by omega, f3, ?_⟩
      rw [da, db, hx]
      rcases f4 with ⟨g1, g2⟩ | ⟨g1, g2, g3⟩
      · exact .inl ⟨g1, by rw [g2]⟩
      · exact .inr ⟨g1, g2, fun h => g3 (List.cons.inj h).2⟩
    · simp only [e0, e1, e5, h1.len, Option.bind_some, i_lss, hlt, decide_true, csel_bool, if_true, p1, hp, q1, hq, i_neq, ne_eq, hx, not_false_eq_true, thenO]
      refine ⟨_, rfl, by simp, rfl, .inr ⟨rfl, by simp [put_at], ?_⟩⟩
      rw [da, db]
      intro h
      exact hx (List.cons.inj h).1
theorem k11 {H : Hp} {v1 v2 : Value} {a b : List Int} (h1 : View H 1 v1 (bytesV a) a.length) (h2 : View H 1 v2 (bytesV b) b.length) (hl : a.length ≤ 1000000000) (n : Nat) : ∃ n', n ≤ n' ∧ Call Try.prog 11 [v1, v2] H n = some (.bool (decide (a = b)), H, n') := by
  rw [c11]; unfold S11
  by_cases hab : a.length = b.length
  · have habi : (a.length : Int) = b.length := by omega
    obtain ⟨o, f1, f2, f3, f4⟩ := l11 (C := Call Try.prog) h1 h2 hab hl a.length 0 (put (put (put (put (put (put (put (argsT [v1, v2]) 4 (.bool false)) 6 v1) 7 (.int .i64 a.length)) 8 v2) 9 (.int .i64 b.length)) 10 (.bool false)) 5 (.int .i64 0)) (n + 7) (by omega) (by simp [put_at, argsT_at]) (by simp [put_at, argsT_at]) (by simp [put_at])
    simp only [argsT_at, List.getD_cons_zero, List.getD_cons_succ, h1.len, h2.len, Option.bind_some, i_neq, habi, ne_eq, not_true_eq_false, decide_false, csel_bool, Bool.false_eq_true, if_false] at f1 ⊢
    rw [f1]
    obtain ⟨oe, ot, oH, on⟩ := o
    simp only at f2 f3 f4
    subst f3
    rw [List.drop_zero, List.drop_zero] at f4
    rcases f4 with ⟨rfl, f5⟩ | ⟨rfl, f5, f6⟩
    · exact ⟨on + 1, by omega, by simp [outOf, thenK, f5]⟩
    · exact ⟨on, by omega, by simp [outOf, thenK, f5, f6]⟩
  · have habi : ¬ (a.length : Int) = b.length := by omega
    have hne : ¬ a = b := fun h => hab (by rw [h])
    exact ⟨n + 7, by omega, by simp only [argsT_at, List.getD_cons_zero, List.getD_cons_succ, h1.len, h2.len, Option.bind_some, i_neq, habi, ne_eq, not_false_eq_true, decide_true, csel_bool, if_true, hne, decide_false]⟩
/-- What markByteS writes. -/
def marks (m : Int) : Nat → List Int
  | 0 => []
  | n + 1 => IntKind.u8.wrap m :: marks (m + 1) n
theorem marks_len (m : Int) : ∀ n, (marks m n).length = n
  | 0 => rfl
  | n + 1 => by simp [marks, marks_len]
theorem st_cell {H : Hp} {i p : Nat} {cs : List Value} {e : Nat} {k : IntKind} {b : Int} (h : H i = some (.row cs e true)) (hp : p < cs.length) : st false 1 (ptr i p) (.int k b) H = some (H.set i (some (.row (setAt cs p [.int k b]) e true))) := by
  simp [st, stv, h]; omega
theorem setAt_mid {α : Type} (pre rest : List Value) (x y : Value) (_ : α) : setAt (pre ++ x :: rest) pre.length [y] = pre ++ y :: rest := by
  unfold setAt
  rw [List.take_left' rfl, show pre ++ x :: rest = (pre ++ [x]) ++ rest by simp, List.drop_left' (by simp)]
  simp
theorem l12 : ∀ (rest : List Int) (pre : List Int) (m : Int) (id : Nat) (t : Tm) (H : Hp) (n : Nat), 0 ≤ m → m + rest.length ≤ 1000000000 → (pre ++ rest).length ≤ 1000000000 → H id = some (.row (bytesV (pre ++ rest)) 1 true) → t 0 = sl id 0 (pre ++ rest).length → t 1 = .int .i64 m → t 5 = .int .i64 pre.length →
    ∃ o, Loop (S12L0 (Call Try.prog) Loop) t H n = some o ∧ n ≤ o.n ∧ o.e = .exit 0 ∧ o.t 1 = .int .i64 (m + rest.length) ∧ o.H id = some (.row (bytesV (pre ++ marks m rest.length)) 1 true) ∧ ∀ i, i ≠ id → o.H i = H i := by
  intro rest
  induction rest with
  | nil =>
    intro pre m id t H n hm hb hl hH e0 e1 e5
    rw [Loop_eq]
    unfold S12L0
    have hlt : ¬ (pre.length : Int) < ((pre ++ []).length : Nat) := by simp
    refine ⟨⟨.exit 0, put (put (put (put t 6 (.int .i64 pre.length)) 7 (sl id 0 (pre ++ []).length)) 8 (.int .i64 (pre ++ []).length)) 9 (.bool false), H, n + 4⟩, ?_, by simp, rfl, by simp [put_at, e1], by simpa [marks] using hH, fun i _ => rfl⟩
    simp only [e0, e5, len_sl, Option.bind_some, i_lss, hlt, decide_false, csel_bool, Bool.false_eq_true, if_false, thenO]
  | cons r rest ih =>
    intro pre m id t H n hm hb hl hH e0 e1 e5
    rw [Loop_eq]
    generalize hLL : Loop (S12L0 (Call Try.prog) Loop) = LL at ih ⊢
    unfold S12L0
    rw [List.length_cons] at hb
    have hlen : (pre ++ r :: rest).length = pre.length + (rest.length + 1) := by simp
    have hlt : (pre.length : Int) < ((pre ++ r :: rest).length : Nat) := by rw [hlen]; omega
    have hix : idxA 1 (sl id 0 (pre ++ r :: rest).length) (.int .i64 pre.length) = some (ptr id pre.length) := by
      simp only [idxA]
      rw [if_pos ⟨by omega, hlt⟩]
      simp
    have hst := st_cell (k := .u8) (b := IntKind.u8.wrap m) hH (show pre.length < (bytesV (pre ++ r :: rest)).length by simp)
    have hset : setAt (bytesV (pre ++ r :: rest)) pre.length [.int .u8 (IntKind.u8.wrap m)] = bytesV ((pre ++ [IntKind.u8.wrap m]) ++ rest) := by
      have := setAt_mid (bytesV pre) (bytesV rest) (.int .u8 r) (.int .u8 (IntKind.u8.wrap m)) ()
      rw [List.length_map] at this
      simpa [bytesV] using this
    have hw1 : IntKind.i64.wrap (m + 1) = m + 1 := w64 (by omega)
    have hw2 : IntKind.i64.wrap ((pre.length : Int) + 1) = (((pre ++ [IntKind.u8.wrap m]).length : Nat) : Int) := by
      rw [hlen] at hl
      rw [w64 (by omega)]; simp
    rw [hset] at hst
    simp only [e0, e1, e5, len_sl, Option.bind_some, i_lss, hlt, decide_true, csel_bool, if_true, conv_int, hix, hst, i_add, hw1, hw2, thenO]
    generalize hT : put _ _ _ = T
    have hll : ((pre ++ [IntKind.u8.wrap m]) ++ rest).length = (pre ++ r :: rest).length := by simp
    obtain ⟨o, f1, f2, f3, f4, f5, f6⟩ := ih (pre ++ [IntKind.u8.wrap m]) (m + 1) id T _ (n + 16) (by omega) (by omega) (by rw [hll]; exact hl) (Hp_same _ _ _) (by rw [← hT, hll]; simp [put_at, e0]) (by rw [← hT]; simp [put_at]) (by rw [← hT]; simp [put_at])
    refine ⟨o, f1, by omega, f3, ?_, ?_, ?_⟩
    · rw [f4, List.length_cons]; congr 1; omega
    · rw [f5, List.length_cons, marks]; simp
    · intro i hi
      rw [f6 i hi, Hp_ne _ _ hi]
theorem k12 {H : Hp} {id : Nat} {l : List Int} (h : H id = some (.row (bytesV l) 1 true)) (hl : l.length ≤ 10000000) (m : Int) (hm : 0 ≤ m ∧ m ≤ 100000) (n : Nat) : ∃ H' n', n ≤ n' ∧ Call Try.prog 12 [sl id 0 l.length, .int .i64 m] H n = some (.int .i64 (m + l.length), H', n') ∧ H' id = some (.row (bytesV (marks m l.length)) 1 true) ∧ ∀ i, i ≠ id → H' i = H i := by
  rw [c12]; unfold S12
  obtain ⟨o, f1, f2, f3, f4, f5, f6⟩ := l12 l [] m id (put (put (argsT [sl id 0 l.length, .int .i64 m]) 4 (.int .i64 0)) 5 (.int .i64 0)) H (n + 2) hm.1 (by omega) (by simp; omega) (by simpa using h) (by simp [put_at, argsT_at]) (by simp [put_at, argsT_at]) (by simp [put_at])
  rw [f1]
  exact ⟨o.H, o.n + 2, by omega, by simp only [Option.bind_some, f4], by simpa using f5, f6⟩
theorem kn12 {H : Hp} (m : Int) (n : Nat) : Call Try.prog 12 [nilS, .int .i64 m] H n = some (.int .i64 m, H, n + 8) := by
  rw [c12]; unfold S12
  rw [Loop_eq]
  unfold S12L0
  simp [put_at, argsT_at, len_sl, i_lss, csel_bool, thenO]
theorem l13 {H : Hp} {v : Value} {l : List Int} (hv : View H 1 v (bytesV l) l.length) (hl : l.length ≤ 10000000) : ∀ (d j : Nat) (m : Int) (t : Tm) (n : Nat), j + d = l.length → 0 ≤ m → m + d ≤ 1000000000 → l.drop j = marks m d → t 0 = v → t 1 = .int .i64 m → t 5 = .int .i64 j →
    ∃ o, Loop (S13L0 (Call Try.prog) Loop) t H n = some o ∧ n ≤ o.n ∧ o.e = .exit 0 ∧ o.t 1 = .int .i64 (m + d) ∧ o.H = H := by
  intro d
  induction d with
  | zero =>
    intro j m t n hj hm hb hmk e0 e1 e5
    rw [Loop_eq]
    unfold S13L0
    have hlt : ¬ (j : Int) < l.length := by omega
    refine ⟨⟨.exit 0, put (put (put (put t 6 (.int .i64 j)) 7 v) 8 (.int .i64 l.length)) 9 (.bool false), H, n + 4⟩, ?_, by simp, rfl, by simp [put_at, e1], rfl⟩
    simp only [e0, e5, hv.len, Option.bind_some, i_lss, hlt, decide_false, csel_bool, Bool.false_eq_true, if_false, thenO]
  | succ d ih =>
    intro j m t n hj hm hb hmk e0 e1 e5
    have hlt : (j : Int) < l.length := by omega
    have ha : j < l.length := by omega
    obtain ⟨p, p1, p2, _⟩ := hv.idx (k := .i64) (j := (j : Int)) (by omega) (by omega)
    have hp := p2 (.int .u8 l[j]) rfl (by simp [ha])
    have da : l.drop j = l[j] :: l.drop (j + 1) := List.drop_eq_getElem_cons ha
    rw [da, marks] at hmk
    obtain ⟨hk1, hk2⟩ := List.cons.inj hmk
    have hw1 : IntKind.i64.wrap (m + 1) = m + 1 := w64 (by omega)
    have hw2 : IntKind.i64.wrap ((j : Int) + 1) = ((j + 1 : Nat) : Int) := by rw [w64 (by omega)]; omega
    rw [Loop_eq]
    generalize hLL : Loop (S13L0 (Call Try.prog) Loop) = LL at ih ⊢
    unfold S13L0
    simp only [e0, e1, e5, hv.len, Option.bind_some, i_lss, hlt, decide_true, csel_bool, if_true, p1, hp, conv_int, i_neq, hk1, ne_eq, not_true_eq_false, decide_false, Bool.false_eq_true, if_false, i_add, hw1, hw2, thenO]
    generalize hT : put _ _ _ = T
    obtain ⟨o, f1, f2, f3, f4, f5⟩ := ih (j + 1) (m + 1) T (n + 17) (by omega) (by omega) (by omega) hk2 (by rw [← hT]; simp [put_at, e0]) (by rw [← hT]; simp [put_at]) (by rw [← hT]; simp [put_at])
    refine ⟨o, f1, by omega, f3, ?_, f5⟩
    rw [f4]; congr 1; omega
theorem k13 {H : Hp} {v : Value} {m : Int} {k : Nat} (hv : View H 1 v (bytesV (marks m k)) k) (hl : k ≤ 10000000) (hm : 0 ≤ m ∧ m ≤ 100000) (n : Nat) : ∃ n', n ≤ n' ∧ Call Try.prog 13 [v, .int .i64 m] H n = some (.int .i64 (m + k), H, n') := by
  rw [c13]; unfold S13
  have hv' : View H 1 v (bytesV (marks m k)) (marks m k).length := by rw [marks_len]; exact hv
  obtain ⟨⟨oe, ot, oH, on⟩, f1, f2, f3, f4, f5⟩ := l13 hv' (by rw [marks_len]; exact hl) k 0 m (put (put (argsT [v, .int .i64 m]) 4 (.int .i64 0)) 5 (.int .i64 0)) (n + 2) (by rw [marks_len]; omega) hm.1 (by omega) rfl (by simp [put_at, argsT_at]) (by simp [put_at, argsT_at]) (by simp [put_at])
  rw [f1]
  simp only at f2 f3 f4 f5
  subst f3 f5
  exact ⟨on + 2, by omega, by simp [outOf, thenK, f4]⟩
theorem app_row {H : Hp} {id0 id2 : Nat} {acc b : List Int} {x : Value} (h : H id0 = some (.row (bytesV acc) 1 true)) (hx : src 1 x H = some (bytesV b, b.length)) (hl : acc.length + b.length ≤ 1000000000) :
    app id2 1 1 (sl id0 0 acc.length) x H = some (sl id2 0 (acc.length + b.length), (H.set id0 none).set id2 (some (.row (bytesV (acc ++ b)) 1 true))) := by
  have hb : 2 * (acc.length + b.length) + 1024 ≤ 281474976710656 := by omega
  simp [app, hx, h, bytesV, List.take_of_length_le]
  omega
def putText (s : ByteArray) : List Int := putNum s.size ++ numsOf s
theorem bytesOf_nums (s : ByteArray) : bytesOf s = bytesV (numsOf s) := by simp [bytesOf, numsOf, bytesV]
theorem src_str (s : ByteArray) (H : Hp) : src 1 (.string s) H = some (bytesV (numsOf s), (numsOf s).length) := by
  simp [src, numsOf, bytesV]
theorem src_row {H : Hp} {id : Nat} {l : List Int} (h : H id = some (.row (bytesV l) 1 true)) : src 1 (sl id 0 l.length) H = some (bytesV l, l.length) := by
  simp [src, h, bytesV, List.take_of_length_le]
theorem putNum_ne (n : Nat) : putNum n ≠ [] := by
  unfold putNum
  rw [if_neg (by omega)]
  by_cases h : 127 < ((n : Int).toNat)
  · rw [putBytes_big h]; simp
  · rw [putBytes_small h]; simp
theorem k15 (s : ByteArray) (hs : s.size ≤ 1048576) (H : Hp) (n : Nat) : ∃ v H' n', n ≤ n' ∧ Same n H H' ∧ Call Try.prog 15 [.string s] H n = some (v, H', n') ∧ Mine n n' H' v (putText s) := by
  rw [c15]; unfold S15
  have hlen := putNum_len (s.size : Int) (by omega)
  obtain ⟨v, H1, n1, a1, a2, a3, a4⟩ := k10 (s.size : Int) (by omega) H (n + 7)
  rcases a4 with ⟨_, h⟩ | ⟨id, i1, i2, rfl, i4⟩
  · exact absurd h (putNum_ne s.size)
  · have hap := app_row (id2 := n + 5) i4 (src_str s H1) (by rw [numsOf_length]; omega)
    refine ⟨sl (n + 5) 0 ((putNum s.size).length + (numsOf s).length), (H1.set id none).set (n + 5) (some (.row (bytesV (putText s)) 1 true)), n1, by omega, ?_, ?_, .inr ⟨n + 5, by omega, by omega, ?_, Hp_same _ _ _⟩⟩
    · intro i hi
      rw [Hp_ne _ _ (by omega), Hp_ne _ _ (by omega), a2 i (by omega)]
    · simp only [argsT_at, List.getD_cons_zero, len_str, Option.bind_some, a3, hap]; rfl
    · simp [putText]
theorem k14 (s : ByteArray) (hs : s.size ≤ 1048576) (H : Hp) (n : Nat) : ∃ v H' n', n ≤ n' ∧ Same n H H' ∧ Call Try.prog 14 [.string s] H n = some (v, H', n') ∧ Mine n n' H' v (putText s) := by
  rw [c14]; unfold S14
  have hlen := putNum_len (s.size : Int) (by omega)
  obtain ⟨v, H1, n1, a1, a2, a3, a4⟩ := k9 (s.size : Int) (by omega) H (n + 8)
  rcases a4 with ⟨_, h⟩ | ⟨id, i1, i2, rfl, i4⟩
  · exact absurd h (putNum_ne s.size)
  · have hcv : conv .strToBytes (n + 5) (.string s) H1 = some (sl (n + 5) 0 (numsOf s).length, H1.set (n + 5) (some (.row (bytesV (numsOf s)) 1 true))) := by
      simp only [conv, bytesOf_nums, numsOf_length]
    have hap := app_row (id2 := n + 6) (H := H1.set (n + 5) (some (.row (bytesV (numsOf s)) 1 true))) (id0 := id) (acc := putNum s.size) (by rw [Hp_ne _ _ (by omega)]; exact i4) (src_row (Hp_same _ _ _)) (by rw [numsOf_length]; omega)
    refine ⟨sl (n + 6) 0 ((putNum s.size).length + (numsOf s).length), (((H1.set (n + 5) (some (.row (bytesV (numsOf s)) 1 true))).set id none)).set (n + 6) (some (.row (bytesV (putText s)) 1 true)), n1, by omega, ?_, ?_, .inr ⟨n + 6, by omega, by omega, ?_, Hp_same _ _ _⟩⟩
    · intro i hi
      rw [Hp_ne _ _ (by omega), Hp_ne _ _ (by omega), Hp_ne _ _ (by omega), a2 i (by omega)]
    · simp only [argsT_at, List.getD_cons_zero, len_str, Option.bind_some, a3, hcv, hap]; rfl
    · simp [putText]
end Go.Proofs.Ytpkaeflmonpliaa.Ax
