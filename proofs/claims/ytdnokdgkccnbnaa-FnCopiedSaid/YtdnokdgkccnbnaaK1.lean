/- Contracts: names. -/
import Derived.Test.YtdnokdgkccnbnaaSh
import Derived.Test.YtdnokdgkccnbnaaAy6
set_option linter.unusedVariables false
set_option linter.unusedSimpArgs false
namespace Go.Proofs.Ytdnokdgkccnbnaa.Ax
open Go
theorem k51 (a b c : Int) (H : Hp) (n : Nat) : Call Try.prog 51 [.int .i64 a, .int .i64 b, .int .i64 c] H n = some (.bool (decide (b ≤ a ∧ a ≤ c)), H, n + 10) := by
  rw [c51]; unfold S51
  by_cases h1 : b ≤ a <;> simp [argsT_at, put_at, i_geq, i_leq, gsel_true, pickV_bool, h1]
theorem k54 (a b c : Int) (H : Hp) (n : Nat) : Call Try.prog 54 [.int .i64 a, .int .i64 b, .int .i64 c] H n = some (.bool (decide (b ≤ a ∧ a ≤ c)), H, n + 10) := by
  rw [c54]; unfold S54
  by_cases h1 : b ≤ a <;> simp [argsT_at, put_at, i_geq, i_leq, gsel_true, pickV_bool, h1]
def nameByte (a : Int) : Bool := decide (97 ≤ a ∧ a ≤ 122) || (decide (a = 43) || (decide (a = 45) || (decide (a = 42) || (decide (a = 60) || (decide (a = 61) || (decide (a = 63) || (decide (a = 33) || decide (a = 47))))))))
theorem k79 (a : Int) (H : Hp) (n : Nat) : Call Try.prog 79 [.int .u8 a] H n = some (.bool (nameByte a), H, n + 40) := by
  rw [c79]; unfold S79 nameByte
  by_cases h1 : 97 ≤ a
  · by_cases h2 : a ≤ 122
    · simp [argsT_at, put_at, i_geq, i_leq, i_eql, gsel_true, gsel_false, pickV_bool, h1, h2]
    · by_cases e43 : a = 43
      · simp [argsT_at, put_at, i_geq, i_leq, i_eql, gsel_true, gsel_false, pickV_bool, h1, h2, e43]
      · by_cases e45 : a = 45
        · simp [argsT_at, put_at, i_geq, i_leq, i_eql, gsel_true, gsel_false, pickV_bool, h1, h2, e43, e45]
        · by_cases e42 : a = 42
          · simp [argsT_at, put_at, i_geq, i_leq, i_eql, gsel_true, gsel_false, pickV_bool, h1, h2, e43, e45, e42]
          · by_cases e60 : a = 60
            · simp [argsT_at, put_at, i_geq, i_leq, i_eql, gsel_true, gsel_false, pickV_bool, h1, h2, e43, e45, e42, e60]
            · by_cases e61 : a = 61
              · simp [argsT_at, put_at, i_geq, i_leq, i_eql, gsel_true, gsel_false, pickV_bool, h1, h2, e43, e45, e42, e60, e61]
              · by_cases e63 : a = 63
                · simp [argsT_at, put_at, i_geq, i_leq, i_eql, gsel_true, gsel_false, pickV_bool, h1, h2, e43, e45, e42, e60, e61, e63]
                · by_cases e33 : a = 33
                  · simp [argsT_at, put_at, i_geq, i_leq, i_eql, gsel_true, gsel_false, pickV_bool, h1, h2, e43, e45, e42, e60, e61, e63, e33]
                  · by_cases e47 : a = 47
                    · simp [argsT_at, put_at, i_geq, i_leq, i_eql, gsel_true, gsel_false, pickV_bool, h1, h2, e43, e45, e42, e60, e61, e63, e33, e47]
                    · simp [argsT_at, put_at, i_geq, i_leq, i_eql, gsel_true, gsel_false, pickV_bool, h1, h2, e43, e45, e42, e60, e61, e63, e33, e47]
  · by_cases e43 : a = 43
    · simp [argsT_at, put_at, i_geq, i_leq, i_eql, gsel_true, gsel_false, pickV_bool, h1, e43]
    · by_cases e45 : a = 45
      · simp [argsT_at, put_at, i_geq, i_leq, i_eql, gsel_true, gsel_false, pickV_bool, h1, e43, e45]
      · by_cases e42 : a = 42
        · simp [argsT_at, put_at, i_geq, i_leq, i_eql, gsel_true, gsel_false, pickV_bool, h1, e43, e45, e42]
        · by_cases e60 : a = 60
          · simp [argsT_at, put_at, i_geq, i_leq, i_eql, gsel_true, gsel_false, pickV_bool, h1, e43, e45, e42, e60]
          · by_cases e61 : a = 61
            · simp [argsT_at, put_at, i_geq, i_leq, i_eql, gsel_true, gsel_false, pickV_bool, h1, e43, e45, e42, e60, e61]
            · by_cases e63 : a = 63
              · simp [argsT_at, put_at, i_geq, i_leq, i_eql, gsel_true, gsel_false, pickV_bool, h1, e43, e45, e42, e60, e61, e63]
              · by_cases e33 : a = 33
                · simp [argsT_at, put_at, i_geq, i_leq, i_eql, gsel_true, gsel_false, pickV_bool, h1, e43, e45, e42, e60, e61, e63, e33]
                · by_cases e47 : a = 47
                  · simp [argsT_at, put_at, i_geq, i_leq, i_eql, gsel_true, gsel_false, pickV_bool, h1, e43, e45, e42, e60, e61, e63, e33, e47]
                  · simp [argsT_at, put_at, i_geq, i_leq, i_eql, gsel_true, gsel_false, pickV_bool, h1, e43, e45, e42, e60, e61, e63, e33, e47]
theorem l82 {C : Calling} {H : Hp} {v : Value} {l : List Int} (hv : View H 1 v (bytesV l) l.length) (hl : l.length ≤ 1048576) (x : Int) : ∀ (d j : Nat) (t : Tm) (n : Nat), j + d = l.length → t 0 = v → t 1 = .int .u8 x → t 7 = .int .i64 l.length → t 8 = .int .i64 j →
    ∃ o, Loop (S82L0 C Loop) t H n = some o ∧ n ≤ o.n ∧ o.H = H ∧ ((o.e = .exit 0 ∧ x ∉ l.drop j) ∨ (o.e = .ret ∧ ∃ k : Nat, o.t 4 = .int .i64 k ∧ x ∈ l.drop j)) := by
  intro d
  induction d with
  | zero =>
    intro j t n hj h0 h1 h7 h8
    rw [Loop_eq]
    unfold S82L0
    have : ¬ (j : Int) < l.length := by omega
    simp [h7, h8, i_lss, csel_bool, this, thenO]
    rw [List.drop_eq_nil_of_le (by omega)]; simp
  | succ d ih =>
    intro j t n hj h0 h1 h7 h8
    have hlt : j < l.length := by omega
    obtain ⟨p, hp, hc, _⟩ := hv.idx (k := .i64) (j := (j : Int)) (by omega) (by omega)
    have hld := hc (.int .u8 l[j]) rfl (by simp [hlt])
    rw [Loop_eq]
    unfold S82L0
    have hd : l.drop j = l[j] :: l.drop (j + 1) := (List.drop_eq_getElem_cons hlt)
    by_cases hx : x = l[j]
    · simp [h0, h1, h7, h8, i_lss, i_eql, csel_bool, hlt, thenO, hp, hld, ← hx, put_at]
      rw [hd, hx]
      exact ⟨⟨j, rfl⟩, List.mem_cons_self ..⟩
    · have hw : IntKind.i64.wrap ((j : Int) + 1) = ((j + 1 : Nat) : Int) := by rw [w64 (by omega)]; omega
      simp only [h0, h1, h7, h8, i_lss, i_eql, i_add, csel_bool, hp, hld, Option.bind_some, hx, decide_false, Bool.false_eq_true, if_false, Int.ofNat_lt, hlt, decide_true, if_true, hw, thenO]
      obtain ⟨o, e1, e2, e3, e4⟩ := ih (j + 1) (put (put (put (put (put (put (put (put (put (put (put t 9 (.bool true)) 10 (.int .i64 j)) 5 (.int .i64 j)) 11 (.int .u8 x)) 12 v) 13 (.int .i64 j)) 14 p) 15 (.int .u8 l[j])) 16 (.bool false)) 18 (.int .i64 ((j + 1 : Nat) : Int))) 8 (.int .i64 ((j + 1 : Nat) : Int))) (n + 11) (by omega) (by simp [put_at, h0]) (by simp [put_at, h1]) (by simp [put_at, h7]) (by simp [put_at])
      refine ⟨o, e1, by omega, e3, ?_⟩
      rw [hd]
      rcases e4 with ⟨e4, e5⟩ | ⟨e4, k, e5, e6⟩
      · exact .inl ⟨e4, by simp only [List.mem_cons, not_or]; exact ⟨hx, e5⟩⟩
      · exact .inr ⟨e4, k, e5, List.mem_cons_of_mem _ e6⟩
theorem k82 {H : Hp} {v : Value} {l : List Int} (hv : View H 1 v (bytesV l) l.length) (hl : l.length ≤ 1048576) (x : Int) (n : Nat) : ∃ (r : Int) (n' : Nat), n ≤ n' ∧ Call Try.prog 82 [v, .int .u8 x] H n = some (.int .i64 r, H, n') ∧ (0 ≤ r ↔ x ∈ l) := by
  rw [c82]; unfold S82
  simp only [argsT_at, List.getD_cons_zero, hv.len, Option.bind_some]
  obtain ⟨o, e1, e2, e3, e4⟩ := l82 (C := Call Try.prog) hv hl x l.length 0 (put (put (put (put (argsT [v, .int .u8 x]) 4 (.int .i64 0)) 6 v) 7 (.int .i64 l.length)) 8 (.int .i64 0)) (n + 4) (by omega) (by simp [put_at, argsT_at]) (by simp [put_at, argsT_at]) (by simp [put_at]) (by simp [put_at])
  rw [e1]
  obtain ⟨oe, ot, oH, on⟩ := o
  simp only at e2 e3 e4
  subst e3
  rcases e4 with ⟨rfl, e4⟩ | ⟨rfl, k, e4, e5⟩
  · refine ⟨-1, on + 1, by omega, ?_, ?_⟩
    · simp [outOf, thenK]
    · simpa using e4
  · refine ⟨k, on, by omega, ?_, ?_⟩
    · simp [outOf, thenK, e4]
    · simp at e5; simp [e5]
theorem k81 {H : Hp} {v : Value} {l : List Int} (hv : View H 1 v (bytesV l) l.length) (hl : l.length ≤ 1048576) (x : Int) (n : Nat) : ∃ (n' : Nat), n ≤ n' ∧ Call Try.prog 81 [v, .int .u8 x] H n = some (.bool (decide (x ∈ l)), H, n') := by
  rw [c81]; unfold S81
  obtain ⟨r, n', h1, h2, h3⟩ := k82 hv hl x (n + 6)
  refine ⟨n', by omega, ?_⟩
  simp [argsT_at, h2, i_geq, h3]
theorem k78 (a : Int) (H : Hp) (n : Nat) : ∃ (H' : Hp) (n' : Nat), n ≤ n' ∧ Same n H H' ∧ Call Try.prog 78 [.int .u8 a] H n = some (.bool (nameByte a), H', n') := by
  rw [c78]; unfold S78
  by_cases h1 : 97 ≤ a ∧ a ≤ 122
  · refine ⟨H, n + 14, by omega, fun _ _ => rfl, ?_⟩
    simp [argsT_at, put_at, i_geq, i_leq, gsel_true, gsel_false, pickV_bool, h1, nameByte]
  · have hv : View (H.set (n + 8) (some (.row (bytesV [43, 45, 42, 60, 61, 63, 33, 47]) 1 true))) 1 (sl (n + 8) 0 8) (bytesV [43, 45, 42, 60, 61, 63, 33, 47]) 8 := View.new (e := 1) (rw := true) (by simp [Hp.set]) rfl
    obtain ⟨n', e1, e2⟩ := k81 hv (by decide) a (n + 14)
    refine ⟨H.set (n + 8) (some (.row (bytesV [43, 45, 42, 60, 61, 63, 33, 47]) 1 true)), n', by omega, fun i hi => by simp [Hp.set]; omega, ?_⟩
    have hb : bsl (n + 8) 1 8 [.int .u8 0] [(0, 1, .int .u8 43), (1, 1, .int .u8 45), (2, 1, .int .u8 42), (3, 1, .int .u8 60), (4, 1, .int .u8 61), (5, 1, .int .u8 63), (6, 1, .int .u8 33), (7, 1, .int .u8 47)] H = some (sl (n + 8) 0 8, H.set (n + 8) (some (.row (bytesV [43, 45, 42, 60, 61, 63, 33, 47]) 1 true))) := rfl
    have hm : conv .mark (n + 9) (sl (n + 8) 0 8) (H.set (n + 8) (some (.row (bytesV [43, 45, 42, 60, 61, 63, 33, 47]) 1 true))) = some (sl (n + 8) 0 8, H.set (n + 8) (some (.row (bytesV [43, 45, 42, 60, 61, 63, 33, 47]) 1 true))) := by simp [conv, Hp.set]
    have hn : nameByte a = decide (a ∈ [43, 45, 42, 60, 61, 63, 33, 47]) := by
      unfold nameByte
      rw [decide_eq_false h1]
      simp
    rw [hn]
    by_cases h2 : 97 ≤ a
    · have h3 : ¬ a ≤ 122 := fun h => h1 ⟨h2, h⟩
      simp only [argsT_at, put_at, i_geq, i_leq, gsel_true, gsel_false, pickV_bool, h2, h3, List.getD_cons_zero, Option.bind_some, decide_true, decide_false, if_true, Nat.reduceEqDiff, if_false, Bool.false_eq_true, hb, hm, e2]
    · simp only [argsT_at, put_at, i_geq, i_leq, gsel_true, gsel_false, pickV_bool, h2, List.getD_cons_zero, Option.bind_some, decide_true, decide_false, if_true, Nat.reduceEqDiff, if_false, Bool.false_eq_true, hb, hm, e2]
/-- The bytes of a text, as numbers. -/
def numsOf (s : ByteArray) : List Int := s.data.toList.map fun b => (b.toNat : Int)
theorem numsOf_length (s : ByteArray) : (numsOf s).length = s.size := by simp [numsOf]
theorem idx_nums {s : ByteArray} {k : IntKind} {j : Nat} (h1 : j < s.size) : idxS (.string s) (.int k j) = some (.int .u8 ((numsOf s)[j]'(by rw [numsOf_length]; exact h1))) := by
  have hd : j < s.data.toList.length := by simpa using h1
  simp [idxS, h1, numsOf, hd]
theorem l73 (s : ByteArray) (hs : s.size ≤ 1048576) : ∀ (d j : Nat) (t : Tm) (H : Hp) (n : Nat), j + d = s.size → t 0 = .string s → t 3 = .int .i64 j →
    ∃ o, Loop (S73L0 (Call Try.prog) Loop) t H n = some o ∧ n ≤ o.n ∧ o.H = H ∧ ((o.e = .exit 0 ∧ o.t 0 = .string s ∧ ((numsOf s).drop j).all nameByte = true) ∨ (o.e = .ret ∧ o.t 2 = .bool false ∧ ((numsOf s).drop j).all nameByte = false)) := by
  intro d
  induction d with
  | zero =>
    intro j t H n hj h0 h3
    rw [Loop_eq]
    unfold S73L0
    have : ¬ (j : Int) < s.size := by omega
    simp [h0, h3, len_str, i_lss, csel_bool, this, thenO, put_at]
    rw [List.drop_eq_nil_of_le (by rw [numsOf_length]; omega)]
    simp
  | succ d ih =>
    intro j t H n hj h0 h3
    have hlt : j < s.size := by omega
    have hlt' : j < (numsOf s).length := by rw [numsOf_length]; exact hlt
    have hd : (numsOf s).drop j = (numsOf s)[j] :: (numsOf s).drop (j + 1) := List.drop_eq_getElem_cons hlt'
    rw [Loop_eq]
    generalize hLL : Loop (S73L0 (Call Try.prog) Loop) = LL at ih ⊢
    unfold S73L0
    have hix := idx_nums (k := .i64) hlt
    cases hb : nameByte (numsOf s)[j] with
    | false =>
      simp [h0, h3, len_str, i_lss, csel_bool, hlt, thenO, hix, k79, un_not, hb, put_at]
      rw [hd]
      exact ⟨by omega, _, List.mem_cons_self .., hb⟩
    | true =>
      have hw : IntKind.i64.wrap ((j : Int) + 1) = ((j + 1 : Nat) : Int) := by rw [w64 (by omega)]; omega
      simp only [h0, h3, len_str, i_lss, csel_bool, Int.ofNat_lt, hlt, decide_true, if_true, hix, k79, un_not, hb, i_add, Option.bind_some, Bool.not_true, Bool.false_eq_true, if_false, thenO, hw]
      generalize hT : put _ _ _ = T
      obtain ⟨o, e1, e2, e3, e4⟩ := ih (j + 1) T H (n + 9 + 40 + 3) (by omega) (by rw [← hT]; simp [put_at, h0]) (by rw [← hT]; simp [put_at])
      refine ⟨o, e1, by omega, e3, ?_⟩
      rw [hd, List.all_cons, hb, Bool.true_and]
      exact e4
theorem k73 (s : ByteArray) (hs : s.size ≤ 1048576) (H : Hp) (n : Nat) : ∃ n', n ≤ n' ∧ Call Try.prog 73 [.string s] H n = some (.bool (decide (1 ≤ s.size ∧ s.size ≤ 12) && (numsOf s).all nameByte), H, n') := by
  rw [c73]; unfold S73
  obtain ⟨⟨oe, ot, oH, on⟩, e1, e2, e3, e4⟩ := l73 s hs s.size 0 (put (put (argsT [.string s]) 2 (.bool false)) 3 (.int .i64 0)) H (n + 2) (by omega) (by simp [put_at, argsT_at]) (by simp [put_at])
  rw [e1]
  simp only at e2 e3 e4
  subst e3
  rw [List.drop_zero] at e4
  rcases e4 with ⟨rfl, e4, e5⟩ | ⟨rfl, e4, e5⟩
  · refine ⟨on + 4 + 10, by omega, ?_⟩
    have hz : ((1 : Int) ≤ s.size ∧ (s.size : Int) ≤ 12) = (1 ≤ s.size ∧ s.size ≤ 12) := by apply propext; omega
    simp only [outOf, thenK, if_true, e4, len_str, Option.bind_some, k51, hz, e5, Bool.and_true]
  · refine ⟨on, by omega, ?_⟩
    simp [outOf, thenK, e4, e5]
theorem l72 (s : ByteArray) (hs : s.size ≤ 1048576) : ∀ (d j : Nat) (t : Tm) (H : Hp) (n : Nat), j + d = s.size → t 0 = .string s → t 9 = .int .i64 s.size → t 10 = .int .i64 j →
    ∃ o, Loop (S72L0 (Call Try.prog) Loop) t H n = some o ∧ n ≤ o.n ∧ Same n H o.H ∧ ((o.e = .exit 0 ∧ ((numsOf s).drop j).all nameByte = true) ∨ (o.e = .ret ∧ o.t 2 = .bool false ∧ ((numsOf s).drop j).all nameByte = false)) := by
  intro d
  induction d with
  | zero =>
    intro j t H n hj h0 h9 h10
    rw [Loop_eq]
    unfold S72L0
    have : ¬ (j : Int) < s.size := by omega
    simp [h9, h10, i_lss, csel_bool, this, thenO, put_at]
    refine ⟨Same.refl _ _, ?_⟩
    rw [List.drop_eq_nil_of_le (by rw [numsOf_length]; omega)]
    simp
  | succ d ih =>
    intro j t H n hj h0 h9 h10
    have hlt : j < s.size := by omega
    have hlt' : j < (numsOf s).length := by rw [numsOf_length]; exact hlt
    have hd : (numsOf s).drop j = (numsOf s)[j] :: (numsOf s).drop (j + 1) := List.drop_eq_getElem_cons hlt'
    rw [Loop_eq]
    generalize hLL : Loop (S72L0 (Call Try.prog) Loop) = LL at ih ⊢
    unfold S72L0
    have hix := idx_nums (k := .i64) hlt
    obtain ⟨H1, n1, f1, f2, f3⟩ := k78 (numsOf s)[j] H (n + 8)
    cases hb : nameByte (numsOf s)[j] with
    | false =>
      rw [hb] at f3
      simp [h0, h9, h10, i_lss, csel_bool, hlt, thenO, hix, f3, un_not, put_at]
      rw [hd]
      exact ⟨by omega, f2.less (by omega), _, List.mem_cons_self .., hb⟩
    | true =>
      rw [hb] at f3
      have hw : IntKind.i64.wrap ((j : Int) + 1) = ((j + 1 : Nat) : Int) := by rw [w64 (by omega)]; omega
      simp only [h0, h9, h10, i_lss, csel_bool, Int.ofNat_lt, hlt, decide_true, if_true, hix, f3, un_not, i_add, Option.bind_some, Bool.not_true, Bool.false_eq_true, if_false, thenO, hw]
      generalize hT : put _ _ _ = T
      obtain ⟨o, e1, e2, e3, e4⟩ := ih (j + 1) T H1 (n1 + 2) (by omega) (by rw [← hT]; simp [put_at, h0]) (by rw [← hT]; simp [put_at, h9]) (by rw [← hT]; simp [put_at])
      refine ⟨o, e1, by omega, (f2.less (by omega)).trans e3 (by omega), ?_⟩
      rw [hd, List.all_cons, hb, Bool.true_and]
      exact e4
theorem k72 (s : ByteArray) (hs : s.size ≤ 1048576) (H : Hp) (n : Nat) : ∃ H' n', n ≤ n' ∧ Same n H H' ∧ Call Try.prog 72 [.string s] H n = some (.bool (decide (1 ≤ s.size ∧ s.size ≤ 12) && (numsOf s).all nameByte), H', n') := by
  rw [c72]; unfold S72
  by_cases hz : 1 ≤ s.size ∧ s.size ≤ 12
  · have hz' : (1 : Int) ≤ s.size ∧ (s.size : Int) ≤ 12 := by omega
    simp only [argsT_at, List.getD_cons_zero, len_str, Option.bind_some, k54, hz', and_self, decide_true, un_not, Bool.not_true, csel_bool, Bool.false_eq_true, if_false]
    obtain ⟨⟨oe, ot, oH, on⟩, e1, e2, e3, e4⟩ := l72 s hs s.size 0 (put (put (put (put (put (put (put (put (argsT [.string s]) 2 (.bool false)) 4 (.string s)) 5 (.int .i64 s.size)) 6 (.bool true)) 7 (.bool false)) 8 (.string s)) 9 (.int .i64 s.size)) 10 (.int .i64 0)) H (n + 5 + 10 + 3) (by omega) (by simp [put_at, argsT_at]) (by simp [put_at]) (by simp [put_at])
    rw [e1]
    simp only at e2 e3 e4
    rw [List.drop_zero] at e4
    rcases e4 with ⟨rfl, e5⟩ | ⟨rfl, e4, e5⟩
    · refine ⟨oH, on + 1, by omega, e3.less (by omega), ?_⟩
      simp [outOf, thenK, e5, hz]
    · refine ⟨oH, on, by omega, e3.less (by omega), ?_⟩
      simp [outOf, thenK, e4, e5]
  · have hz' : ¬ ((1 : Int) ≤ s.size ∧ (s.size : Int) ≤ 12) := by omega
    refine ⟨H, n + 5 + 10 + 1, by omega, Same.refl _ _, ?_⟩
    simp only [argsT_at, List.getD_cons_zero, len_str, Option.bind_some, k54, hz', decide_false, un_not, Bool.not_false, csel_bool, if_true, hz, Bool.false_and]
end Go.Proofs.Ytdnokdgkccnbnaa.Ax
