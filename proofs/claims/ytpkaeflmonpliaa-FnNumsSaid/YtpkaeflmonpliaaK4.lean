/- Contracts: GetNum, GetText. -/
import Derived.Test.YtpkaeflmonpliaaK3
set_option linter.unusedVariables false
set_option linter.unusedSimpArgs false
namespace Go.Proofs.Ytpkaeflmonpliaa.Ax
open Go
def gotV (a : Int) : Option (Nat × Nat) → Int × Int × Bool
  | none => (0, 0, false)
  | some p => ((p.1 : Int), a + (p.2 : Int), true)
/-- What is read of a number. -/
def getNum (l : List Int) (a : Int) : Int × Int × Bool :=
  if a < 0 ∨ (l.length : Int) ≤ a then (0, 0, false) else gotV a (gl 9 (l.drop a.toNat) 0 0)
abbrev tup3 (p : Int × Int × Bool) : Value := .tuple ⟨[.int .i64 p.1, .int .i64 p.2.1, .bool p.2.2]⟩
theorem gotNum_out {H : Hp} {at_ : Nat} {r : Option (Nat × Nat)} {o : Out} (h : GotNum H at_ r o) : ∃ n', o.n ≤ n' ∧ thenK (outOf 0 o) (some (.tuple ⟨[.int .i64 0, .int .i64 0, .bool false]⟩, (outOf 0 o).H, (outOf 0 o).n + 3)) (finE (outOf 0 o).e (iteK ([(outOf 0 o).t 4, (outOf 0 o).t 5, (outOf 0 o).t 6].all notTup) (some (.tuple ⟨[(outOf 0 o).t 4, (outOf 0 o).t 5, (outOf 0 o).t 6]⟩, (outOf 0 o).H, (outOf 0 o).n)))) =
    some (tup3 (gotV at_ r), H, n') := by
  obtain ⟨oe, ot, oH, on⟩ := o
  obtain ⟨h1, h2⟩ := h
  simp only at h1
  subst h1
  cases r with
  | none =>
    rcases h2 with h2 | ⟨h2, a, b, c⟩
    · simp only at h2
      subst h2
      exact ⟨on + 3, by simp, by simp [outOf, thenK, gotV]⟩
    · simp only at h2 a b c
      subst h2
      exact ⟨on, by simp, by simp [outOf, thenK, a, b, c, iteK, notTup, gotV]⟩
  | some p =>
    obtain ⟨h2, a, b, c⟩ := h2
    simp only at h2 a b c
    subst h2
    exact ⟨on, by simp, by simp [outOf, thenK, a, b, c, iteK, notTup, gotV]⟩
theorem k16 {H : Hp} {m : Nat} {v : Value} {l : List Int} (hv : Li eByte m H v l) (hl : l.length ≤ 1048576) (hb : ∀ c ∈ l, 0 ≤ c ∧ c ≤ 255) (a : Int) (n : Nat) : ∃ n', n ≤ n' ∧ Call Try.prog 16 [v, .int .i64 a] H n = some (tup3 (getNum l a), H, n') := by
  rw [c16]; unfold S16
  have hlen := hv.len
  by_cases h0 : a < 0
  · simp only [↓reduceIte, ↓csel_bool, ↓gsel_true, ↓gsel_false, ↓thenK_normal, ↓thenK_ret, ↓thenK_exit, argsT_at, List.getD_cons_zero, List.getD_cons_succ, Option.bind_some, Option.bind_none, put_at, pickV_bool, un_not, un_neg, b_eql, b_neq, i_add, i_sub, i_mul, i_quo, i_rem, i_eql, i_neq, i_lss, i_leq, i_gtr, i_geq, t_eql, t_neq, len_str, len_sl, outOf_exit, finE, decide_eq_true_eq, Nat.reduceEqDiff, Bool.false_eq_true, Bool.not_true, Bool.not_false, decide_true, decide_false, if_true, if_false, ne_eq, not_true_eq_false, not_false_eq_true, conv_i, conv_ss, Int.reduceEq, partV_c, partV_a, ext_tup, nilchk_ptr, fieldA_ptr, iteK, List.all_cons, List.all_nil, notTup, Bool.and_self, List.getElem?_cons_zero, List.getElem?_cons_succ, Nat.reduceAdd, Bool.not_eq_true, Bool.not_eq_false, decide_eq_false_iff_not, Nat.reduceSub, Nat.zero_add, Nat.add_zero, h0, getNum, true_or]
    exact ⟨_, by omega, rfl⟩
  · by_cases h1 : (l.length : Int) ≤ a
    · simp only [↓reduceIte, ↓csel_bool, ↓gsel_true, ↓gsel_false, ↓thenK_normal, ↓thenK_ret, ↓thenK_exit, argsT_at, List.getD_cons_zero, List.getD_cons_succ, Option.bind_some, Option.bind_none, put_at, pickV_bool, un_not, un_neg, b_eql, b_neq, i_add, i_sub, i_mul, i_quo, i_rem, i_eql, i_neq, i_lss, i_leq, i_gtr, i_geq, t_eql, t_neq, len_str, len_sl, outOf_exit, finE, decide_eq_true_eq, Nat.reduceEqDiff, Bool.false_eq_true, Bool.not_true, Bool.not_false, decide_true, decide_false, if_true, if_false, ne_eq, not_true_eq_false, not_false_eq_true, conv_i, conv_ss, Int.reduceEq, partV_c, partV_a, ext_tup, nilchk_ptr, fieldA_ptr, iteK, List.all_cons, List.all_nil, notTup, Bool.and_self, List.getElem?_cons_zero, List.getElem?_cons_succ, Nat.reduceAdd, Bool.not_eq_true, Bool.not_eq_false, decide_eq_false_iff_not, Nat.reduceSub, Nat.zero_add, Nat.add_zero, h0, h1, getNum, hlen, or_true]
      exact ⟨_, by omega, rfl⟩
    · obtain ⟨an, rfl⟩ := Int.eq_ofNat_of_zero_le (by omega : 0 ≤ a)
      have hg : getNum l an = gotV an (gl 9 (l.drop an) 0 0) := by
        unfold getNum
        rw [if_neg (by omega)]
        rfl
      simp only [↓reduceIte, ↓csel_bool, ↓gsel_true, ↓gsel_false, ↓thenK_normal, ↓thenK_ret, ↓thenK_exit, argsT_at, List.getD_cons_zero, List.getD_cons_succ, Option.bind_some, Option.bind_none, put_at, pickV_bool, un_not, un_neg, b_eql, b_neq, i_add, i_sub, i_mul, i_quo, i_rem, i_eql, i_neq, i_lss, i_leq, i_gtr, i_geq, t_eql, t_neq, len_str, len_sl, outOf_exit, finE, decide_eq_true_eq, Nat.reduceEqDiff, Bool.false_eq_true, Bool.not_true, Bool.not_false, decide_true, decide_false, if_true, if_false, ne_eq, not_true_eq_false, not_false_eq_true, conv_i, conv_ss, Int.reduceEq, partV_c, partV_a, ext_tup, nilchk_ptr, fieldA_ptr, iteK, List.all_cons, List.all_nil, notTup, Bool.and_self, List.getElem?_cons_zero, List.getElem?_cons_succ, Nat.reduceAdd, Bool.not_eq_true, Bool.not_eq_false, decide_eq_false_iff_not, Nat.reduceSub, Nat.zero_add, Nat.add_zero, h0, h1, hlen]
      generalize hT : put _ _ _ = T
      obtain ⟨o, f1, f2, f3⟩ := l16 hv.bytes hl hb an 9 0 0 T (n + 14) rfl (by omega) (by decide) (by rw [← hT]; simp [put_at, argsT_at]) (by rw [← hT]; simp [put_at, argsT_at]) (by rw [← hT]; simp [put_at]) (by intro _; rw [← hT]; simp [put_at]) (by rw [← hT]; simp [put_at]) (by rw [← hT]; simp [put_at])
      rw [f1, Option.bind_some, hg]
      obtain ⟨n2, g1, g2⟩ := gotNum_out f3
      simp only [↓reduceIte, ↓csel_bool, ↓gsel_true, ↓gsel_false, ↓thenK_normal, ↓thenK_ret, ↓thenK_exit, argsT_at, List.getD_cons_zero, List.getD_cons_succ, Option.bind_some, Option.bind_none, put_at, pickV_bool, un_not, un_neg, b_eql, b_neq, i_add, i_sub, i_mul, i_quo, i_rem, i_eql, i_neq, i_lss, i_leq, i_gtr, i_geq, t_eql, t_neq, len_str, len_sl, outOf_exit, finE, decide_eq_true_eq, Nat.reduceEqDiff, Bool.false_eq_true, Bool.not_true, Bool.not_false, decide_true, decide_false, if_true, if_false, ne_eq, not_true_eq_false, not_false_eq_true, conv_i, conv_ss, Int.reduceEq, partV_c, partV_a, ext_tup, nilchk_ptr, fieldA_ptr, iteK, List.all_cons, List.all_nil, notTup, Bool.and_self, List.getElem?_cons_zero, List.getElem?_cons_succ, Nat.reduceAdd, Bool.not_eq_true, Bool.not_eq_false, decide_eq_false_iff_not, Nat.reduceSub, Nat.zero_add, Nat.add_zero] at g2 ⊢
      rw [g2]
      exact ⟨_, by omega, rfl⟩
theorem k18 {H : Hp} {m : Nat} {v : Value} {l : List Int} (hv : Li eByte m H v l) (hl : l.length ≤ 1048576) (hb : ∀ c ∈ l, 0 ≤ c ∧ c ≤ 255) (a : Int) (n : Nat) : ∃ n', n ≤ n' ∧ Call Try.prog 18 [v, .int .i64 a] H n = some (tup3 (getNum l a), H, n') := by
  rw [c18]; unfold S18
  have hlen := hv.len
  have hw : IntKind.i64.wrap ((l.length : Int) - 1) = (l.length : Int) - 1 := w64 (by omega)
  by_cases h1 : 0 ≤ a ∧ a ≤ (l.length : Int) - 1
  · obtain ⟨an, rfl⟩ := Int.eq_ofNat_of_zero_le h1.1
    have hg : getNum l an = gotV an (gl 9 (l.drop an) 0 0) := by
      unfold getNum
      rw [if_neg (by omega)]
      rfl
    simp only [↓reduceIte, ↓csel_bool, ↓gsel_true, ↓gsel_false, ↓thenK_normal, ↓thenK_ret, ↓thenK_exit, argsT_at, List.getD_cons_zero, List.getD_cons_succ, Option.bind_some, Option.bind_none, put_at, pickV_bool, un_not, un_neg, b_eql, b_neq, i_add, i_sub, i_mul, i_quo, i_rem, i_eql, i_neq, i_lss, i_leq, i_gtr, i_geq, t_eql, t_neq, len_str, len_sl, outOf_exit, finE, decide_eq_true_eq, Nat.reduceEqDiff, Bool.false_eq_true, Bool.not_true, Bool.not_false, decide_true, decide_false, if_true, if_false, ne_eq, not_true_eq_false, not_false_eq_true, conv_i, conv_ss, Int.reduceEq, partV_c, partV_a, ext_tup, nilchk_ptr, fieldA_ptr, iteK, List.all_cons, List.all_nil, notTup, Bool.and_self, List.getElem?_cons_zero, List.getElem?_cons_succ, Nat.reduceAdd, Bool.not_eq_true, Bool.not_eq_false, decide_eq_false_iff_not, Nat.reduceSub, Nat.zero_add, Nat.add_zero, hlen, hw, k35, h1, and_self]
    generalize hT : put _ _ _ = T
    obtain ⟨o, f1, f2, f3⟩ := l18 hv.bytes hl hb an 9 0 0 T (n + 9 + 10 + 2) rfl (by omega) (by decide) (by rw [← hT]; simp [put_at, argsT_at]) (by rw [← hT]; simp [put_at, argsT_at]) (by rw [← hT]; simp [put_at]) (by rw [← hT]; simp [put_at])
    rw [f1, Option.bind_some, hg]
    obtain ⟨n2, g1, g2⟩ := gotNum_out f3
    simp only [↓reduceIte, ↓csel_bool, ↓gsel_true, ↓gsel_false, ↓thenK_normal, ↓thenK_ret, ↓thenK_exit, argsT_at, List.getD_cons_zero, List.getD_cons_succ, Option.bind_some, Option.bind_none, put_at, pickV_bool, un_not, un_neg, b_eql, b_neq, i_add, i_sub, i_mul, i_quo, i_rem, i_eql, i_neq, i_lss, i_leq, i_gtr, i_geq, t_eql, t_neq, len_str, len_sl, outOf_exit, finE, decide_eq_true_eq, Nat.reduceEqDiff, Bool.false_eq_true, Bool.not_true, Bool.not_false, decide_true, decide_false, if_true, if_false, ne_eq, not_true_eq_false, not_false_eq_true, conv_i, conv_ss, Int.reduceEq, partV_c, partV_a, ext_tup, nilchk_ptr, fieldA_ptr, iteK, List.all_cons, List.all_nil, notTup, Bool.and_self, List.getElem?_cons_zero, List.getElem?_cons_succ, Nat.reduceAdd, Bool.not_eq_true, Bool.not_eq_false, decide_eq_false_iff_not, Nat.reduceSub, Nat.zero_add, Nat.add_zero] at g2 ⊢
    rw [g2]
    exact ⟨_, by omega, rfl⟩
  · have hg : getNum l a = (0, 0, false) := by
      unfold getNum
      rw [if_pos (by omega)]
    simp only [↓reduceIte, ↓csel_bool, ↓gsel_true, ↓gsel_false, ↓thenK_normal, ↓thenK_ret, ↓thenK_exit, argsT_at, List.getD_cons_zero, List.getD_cons_succ, Option.bind_some, Option.bind_none, put_at, pickV_bool, un_not, un_neg, b_eql, b_neq, i_add, i_sub, i_mul, i_quo, i_rem, i_eql, i_neq, i_lss, i_leq, i_gtr, i_geq, t_eql, t_neq, len_str, len_sl, outOf_exit, finE, decide_eq_true_eq, Nat.reduceEqDiff, Bool.false_eq_true, Bool.not_true, Bool.not_false, decide_true, decide_false, if_true, if_false, ne_eq, not_true_eq_false, not_false_eq_true, conv_i, conv_ss, Int.reduceEq, partV_c, partV_a, ext_tup, nilchk_ptr, fieldA_ptr, iteK, List.all_cons, List.all_nil, notTup, Bool.and_self, List.getElem?_cons_zero, List.getElem?_cons_succ, Nat.reduceAdd, Bool.not_eq_true, Bool.not_eq_false, decide_eq_false_iff_not, Nat.reduceSub, Nat.zero_add, Nat.add_zero, hlen, hw, k35, h1, hg]
    exact ⟨_, by omega, rfl⟩
theorem gl_bound : ∀ (d : Nat) (bs : List Int) (k x y m : Nat), (∀ c ∈ bs, 0 ≤ c ∧ c ≤ 255) → k + d = 9 → x < 128 ^ k → gl d bs k x = some (y, m) → y < 128 ^ 9 ∧ m ≤ k + bs.length
  | 0, _, _, _, _, _, _, _, _, h => by cases h
  | d + 1, [], _, _, _, _, _, _, _, h => by cases h
  | d + 1, c :: bs, k, x, y, m, hb, hk, hx, h => by
    unfold gl at h
    have hc := hb c (List.mem_cons_self ..)
    have hp : (128 : Nat) ^ (k + 1) ≤ 128 ^ 9 := Nat.pow_le_pow_right (by decide) (by omega)
    split at h
    · split at h
      · cases h
      · simp only [Option.some.injEq, Prod.mk.injEq] at h
        obtain ⟨rfl, rfl⟩ := h
        have : c.toNat * 128 ^ k ≤ 127 * 128 ^ k := Nat.mul_le_mul_right _ (by omega)
        rw [Nat.pow_succ] at hp
        simp only [List.length_cons]
        omega
    · have hm : (c.toNat % 128) * 128 ^ k ≤ 127 * 128 ^ k := Nat.mul_le_mul_right _ (by omega)
      have := gl_bound d bs (k + 1) (x + (c.toNat % 128) * 128 ^ k) y m (fun c hc => hb c (List.mem_cons_of_mem _ hc)) (by omega) (by rw [Nat.pow_succ]; omega) h
      simp only [List.length_cons]
      omega
theorem getNum_bound {l : List Int} (hb : ∀ c ∈ l, 0 ≤ c ∧ c ≤ 255) (a : Int) (ha : (getNum l a).2.2 = true) : 0 ≤ (getNum l a).1 ∧ (getNum l a).1 < 9223372036854775808 ∧ 0 ≤ (getNum l a).2.1 ∧ (getNum l a).2.1 ≤ l.length := by
  unfold getNum at *
  split at ha
  · cases ha
  · rename_i h
    rw [if_neg h]
    cases hg : gl 9 (l.drop a.toNat) 0 0 with
    | none => rw [hg] at ha; cases ha
    | some p =>
      obtain ⟨y, m⟩ := p
      unfold gotV
      have := gl_bound 9 _ 0 0 y m (fun c hc => hb c (List.mem_of_mem_drop hc)) rfl (by decide) hg
      have h9 : (128 : Nat) ^ 9 = 9223372036854775808 := by decide
      rw [List.length_drop] at this
      simp only
      omega
def getText (l : List Int) (a : Int) : ByteArray × Int × Bool :=
  if (getNum l a).2.2 = true ∧ ¬ (l.length - (getNum l a).2.1 < (getNum l a).1) then (strOf ((l.drop (getNum l a).2.1.toNat).take (getNum l a).1.toNat), (getNum l a).2.1 + (getNum l a).1, true) else (⟨#[]⟩, 0, false)
abbrev tupT (p : ByteArray × Int × Bool) : Value := .tuple ⟨[.string p.1, .int .i64 p.2.1, .bool p.2.2]⟩
theorem k19 {H : Hp} {m : Nat} {v : Value} {l : List Int} (hv : Li eByte m H v l) (hl : l.length ≤ 1048576) (hb : ∀ c ∈ l, 0 ≤ c ∧ c ≤ 255) (a : Int) (n : Nat) : ∃ n', n ≤ n' ∧ Call Try.prog 19 [v, .int .i64 a] H n = some (tupT (getText l a), H, n') := by
  rw [c19]; unfold S19
  obtain ⟨n1, e1, e2⟩ := k16 hv hl hb a (n + 13)
  have hgb := getNum_bound hb a
  have hlen := hv.len
  simp only [↓reduceIte, ↓csel_bool, ↓gsel_true, ↓gsel_false, ↓thenK_normal, ↓thenK_ret, ↓thenK_exit, argsT_at, List.getD_cons_zero, List.getD_cons_succ, Option.bind_some, Option.bind_none, put_at, pickV_bool, un_not, un_neg, b_eql, b_neq, i_add, i_sub, i_mul, i_quo, i_rem, i_eql, i_neq, i_lss, i_leq, i_gtr, i_geq, t_eql, t_neq, len_str, len_sl, outOf_exit, finE, decide_eq_true_eq, Nat.reduceEqDiff, Bool.false_eq_true, Bool.not_true, Bool.not_false, decide_true, decide_false, if_true, if_false, ne_eq, not_true_eq_false, not_false_eq_true, conv_i, conv_ss, Int.reduceEq, partV_c, partV_a, ext_tup, nilchk_ptr, fieldA_ptr, iteK, List.all_cons, List.all_nil, notTup, Bool.and_self, List.getElem?_cons_zero, List.getElem?_cons_succ, Nat.reduceAdd, Bool.not_eq_true, Bool.not_eq_false, decide_eq_false_iff_not, Nat.reduceSub, Nat.zero_add, Nat.add_zero, e2]
  cases hok : (getNum l a).2.2 with
  | false =>
    have : getText l a = (⟨#[]⟩, 0, false) := by unfold getText; rw [hok]; simp
    simp only [↓reduceIte, ↓csel_bool, ↓gsel_true, ↓gsel_false, ↓thenK_normal, ↓thenK_ret, ↓thenK_exit, argsT_at, List.getD_cons_zero, List.getD_cons_succ, Option.bind_some, Option.bind_none, put_at, pickV_bool, un_not, un_neg, b_eql, b_neq, i_add, i_sub, i_mul, i_quo, i_rem, i_eql, i_neq, i_lss, i_leq, i_gtr, i_geq, t_eql, t_neq, len_str, len_sl, outOf_exit, finE, decide_eq_true_eq, Nat.reduceEqDiff, Bool.false_eq_true, Bool.not_true, Bool.not_false, decide_true, decide_false, if_true, if_false, ne_eq, not_true_eq_false, not_false_eq_true, conv_i, conv_ss, Int.reduceEq, partV_c, partV_a, ext_tup, nilchk_ptr, fieldA_ptr, iteK, List.all_cons, List.all_nil, notTup, Bool.and_self, List.getElem?_cons_zero, List.getElem?_cons_succ, Nat.reduceAdd, Bool.not_eq_true, Bool.not_eq_false, decide_eq_false_iff_not, Nat.reduceSub, Nat.zero_add, Nat.add_zero, this]
    exact ⟨_, by omega, rfl⟩
  | true =>
    obtain ⟨b1, b2, b3, b4⟩ := hgb hok
    have hw : IntKind.i64.wrap ((l.length : Int) - (getNum l a).2.1) = (l.length : Int) - (getNum l a).2.1 := w64 (by omega)
    by_cases hc : (l.length : Int) - (getNum l a).2.1 < (getNum l a).1
    · have : getText l a = (⟨#[]⟩, 0, false) := by unfold getText; rw [if_neg (fun h => h.2 hc)]
      simp only [↓reduceIte, ↓csel_bool, ↓gsel_true, ↓gsel_false, ↓thenK_normal, ↓thenK_ret, ↓thenK_exit, argsT_at, List.getD_cons_zero, List.getD_cons_succ, Option.bind_some, Option.bind_none, put_at, pickV_bool, un_not, un_neg, b_eql, b_neq, i_add, i_sub, i_mul, i_quo, i_rem, i_eql, i_neq, i_lss, i_leq, i_gtr, i_geq, t_eql, t_neq, len_str, len_sl, outOf_exit, finE, decide_eq_true_eq, Nat.reduceEqDiff, Bool.false_eq_true, Bool.not_true, Bool.not_false, decide_true, decide_false, if_true, if_false, ne_eq, not_true_eq_false, not_false_eq_true, conv_i, conv_ss, Int.reduceEq, partV_c, partV_a, ext_tup, nilchk_ptr, fieldA_ptr, iteK, List.all_cons, List.all_nil, notTup, Bool.and_self, List.getElem?_cons_zero, List.getElem?_cons_succ, Nat.reduceAdd, Bool.not_eq_true, Bool.not_eq_false, decide_eq_false_iff_not, Nat.reduceSub, Nat.zero_add, Nat.add_zero, this, hlen, hw, hc]
      exact ⟨_, by omega, rfl⟩
    · have : getText l a = (strOf ((l.drop (getNum l a).2.1.toNat).take (getNum l a).1.toNat), (getNum l a).2.1 + (getNum l a).1, true) := by unfold getText; rw [if_pos ⟨hok, hc⟩]
      have hw2 : IntKind.i64.wrap ((getNum l a).2.1 + (getNum l a).1) = (getNum l a).2.1 + (getNum l a).1 := w64 (by omega)
      obtain ⟨v', s1, s2⟩ := hv.slice (by decide) (some (.int .i64 (getNum l a).2.1)) (some (.int .i64 ((getNum l a).2.1 + (getNum l a).1))) (getNum l a).2.1.toNat ((getNum l a).2.1 + (getNum l a).1).toNat (bnd_int _ _ _ b3) (fun d _ => bnd_int _ _ _ (by omega)) (by omega) (by omega)
      have hd : ((getNum l a).2.1 + (getNum l a).1).toNat - (getNum l a).2.1.toNat = (getNum l a).1.toNat := by omega
      rw [hd] at s2
      simp only [↓reduceIte, ↓csel_bool, ↓gsel_true, ↓gsel_false, ↓thenK_normal, ↓thenK_ret, ↓thenK_exit, argsT_at, List.getD_cons_zero, List.getD_cons_succ, Option.bind_some, Option.bind_none, put_at, pickV_bool, un_not, un_neg, b_eql, b_neq, i_add, i_sub, i_mul, i_quo, i_rem, i_eql, i_neq, i_lss, i_leq, i_gtr, i_geq, t_eql, t_neq, len_str, len_sl, outOf_exit, finE, decide_eq_true_eq, Nat.reduceEqDiff, Bool.false_eq_true, Bool.not_true, Bool.not_false, decide_true, decide_false, if_true, if_false, ne_eq, not_true_eq_false, not_false_eq_true, conv_i, conv_ss, Int.reduceEq, partV_c, partV_a, ext_tup, nilchk_ptr, fieldA_ptr, iteK, List.all_cons, List.all_nil, notTup, Bool.and_self, List.getElem?_cons_zero, List.getElem?_cons_succ, Nat.reduceAdd, Bool.not_eq_true, Bool.not_eq_false, decide_eq_false_iff_not, Nat.reduceSub, Nat.zero_add, Nat.add_zero, this, hlen, hw, hc, hw2, s1, conv_bs s2]
      exact ⟨_, by omega, rfl⟩
theorem k20 {H : Hp} {m : Nat} {v : Value} {l : List Int} (hv : Li eByte m H v l) (hl : l.length ≤ 1048576) (hb : ∀ c ∈ l, 0 ≤ c ∧ c ≤ 255) (a : Int) (n : Nat) : ∃ n', n ≤ n' ∧ Call Try.prog 20 [v, .int .i64 a] H n = some (tupT (getText l a), H, n') := by
  rw [c20]; unfold S20
  obtain ⟨n1, e1, e2⟩ := k18 hv hl hb a (n + 13)
  have hgb := getNum_bound hb a
  have hlen := hv.len
  simp only [↓reduceIte, ↓csel_bool, ↓gsel_true, ↓gsel_false, ↓thenK_normal, ↓thenK_ret, ↓thenK_exit, argsT_at, List.getD_cons_zero, List.getD_cons_succ, Option.bind_some, Option.bind_none, put_at, pickV_bool, un_not, un_neg, b_eql, b_neq, i_add, i_sub, i_mul, i_quo, i_rem, i_eql, i_neq, i_lss, i_leq, i_gtr, i_geq, t_eql, t_neq, len_str, len_sl, outOf_exit, finE, decide_eq_true_eq, Nat.reduceEqDiff, Bool.false_eq_true, Bool.not_true, Bool.not_false, decide_true, decide_false, if_true, if_false, ne_eq, not_true_eq_false, not_false_eq_true, conv_i, conv_ss, Int.reduceEq, partV_c, partV_a, ext_tup, nilchk_ptr, fieldA_ptr, iteK, List.all_cons, List.all_nil, notTup, Bool.and_self, List.getElem?_cons_zero, List.getElem?_cons_succ, Nat.reduceAdd, Bool.not_eq_true, Bool.not_eq_false, decide_eq_false_iff_not, Nat.reduceSub, Nat.zero_add, Nat.add_zero, e2]
  cases hok : (getNum l a).2.2 with
  | false =>
    have : getText l a = (⟨#[]⟩, 0, false) := by unfold getText; rw [hok]; simp
    simp only [↓reduceIte, ↓csel_bool, ↓gsel_true, ↓gsel_false, ↓thenK_normal, ↓thenK_ret, ↓thenK_exit, argsT_at, List.getD_cons_zero, List.getD_cons_succ, Option.bind_some, Option.bind_none, put_at, pickV_bool, un_not, un_neg, b_eql, b_neq, i_add, i_sub, i_mul, i_quo, i_rem, i_eql, i_neq, i_lss, i_leq, i_gtr, i_geq, t_eql, t_neq, len_str, len_sl, outOf_exit, finE, decide_eq_true_eq, Nat.reduceEqDiff, Bool.false_eq_true, Bool.not_true, Bool.not_false, decide_true, decide_false, if_true, if_false, ne_eq, not_true_eq_false, not_false_eq_true, conv_i, conv_ss, Int.reduceEq, partV_c, partV_a, ext_tup, nilchk_ptr, fieldA_ptr, iteK, List.all_cons, List.all_nil, notTup, Bool.and_self, List.getElem?_cons_zero, List.getElem?_cons_succ, Nat.reduceAdd, Bool.not_eq_true, Bool.not_eq_false, decide_eq_false_iff_not, Nat.reduceSub, Nat.zero_add, Nat.add_zero, this]
    exact ⟨_, by omega, rfl⟩
  | true =>
    obtain ⟨b1, b2, b3, b4⟩ := hgb hok
    have hw : IntKind.i64.wrap ((l.length : Int) - (getNum l a).2.1) = (l.length : Int) - (getNum l a).2.1 := w64 (by omega)
    by_cases hc : (l.length : Int) - (getNum l a).2.1 < (getNum l a).1
    · have : getText l a = (⟨#[]⟩, 0, false) := by unfold getText; rw [if_neg (fun h => h.2 hc)]
      simp only [↓reduceIte, ↓csel_bool, ↓gsel_true, ↓gsel_false, ↓thenK_normal, ↓thenK_ret, ↓thenK_exit, argsT_at, List.getD_cons_zero, List.getD_cons_succ, Option.bind_some, Option.bind_none, put_at, pickV_bool, un_not, un_neg, b_eql, b_neq, i_add, i_sub, i_mul, i_quo, i_rem, i_eql, i_neq, i_lss, i_leq, i_gtr, i_geq, t_eql, t_neq, len_str, len_sl, outOf_exit, finE, decide_eq_true_eq, Nat.reduceEqDiff, Bool.false_eq_true, Bool.not_true, Bool.not_false, decide_true, decide_false, if_true, if_false, ne_eq, not_true_eq_false, not_false_eq_true, conv_i, conv_ss, Int.reduceEq, partV_c, partV_a, ext_tup, nilchk_ptr, fieldA_ptr, iteK, List.all_cons, List.all_nil, notTup, Bool.and_self, List.getElem?_cons_zero, List.getElem?_cons_succ, Nat.reduceAdd, Bool.not_eq_true, Bool.not_eq_false, decide_eq_false_iff_not, Nat.reduceSub, Nat.zero_add, Nat.add_zero, this, hlen, hw, hc]
      exact ⟨_, by omega, rfl⟩
    · have : getText l a = (strOf ((l.drop (getNum l a).2.1.toNat).take (getNum l a).1.toNat), (getNum l a).2.1 + (getNum l a).1, true) := by unfold getText; rw [if_pos ⟨hok, hc⟩]
      have hw2 : IntKind.i64.wrap ((getNum l a).2.1 + (getNum l a).1) = (getNum l a).2.1 + (getNum l a).1 := w64 (by omega)
      obtain ⟨v', s1, s2⟩ := hv.slice (by decide) (some (.int .i64 (getNum l a).2.1)) (some (.int .i64 ((getNum l a).2.1 + (getNum l a).1))) (getNum l a).2.1.toNat ((getNum l a).2.1 + (getNum l a).1).toNat (bnd_int _ _ _ b3) (fun d _ => bnd_int _ _ _ (by omega)) (by omega) (by omega)
      have hd : ((getNum l a).2.1 + (getNum l a).1).toNat - (getNum l a).2.1.toNat = (getNum l a).1.toNat := by omega
      rw [hd] at s2
      simp only [↓reduceIte, ↓csel_bool, ↓gsel_true, ↓gsel_false, ↓thenK_normal, ↓thenK_ret, ↓thenK_exit, argsT_at, List.getD_cons_zero, List.getD_cons_succ, Option.bind_some, Option.bind_none, put_at, pickV_bool, un_not, un_neg, b_eql, b_neq, i_add, i_sub, i_mul, i_quo, i_rem, i_eql, i_neq, i_lss, i_leq, i_gtr, i_geq, t_eql, t_neq, len_str, len_sl, outOf_exit, finE, decide_eq_true_eq, Nat.reduceEqDiff, Bool.false_eq_true, Bool.not_true, Bool.not_false, decide_true, decide_false, if_true, if_false, ne_eq, not_true_eq_false, not_false_eq_true, conv_i, conv_ss, Int.reduceEq, partV_c, partV_a, ext_tup, nilchk_ptr, fieldA_ptr, iteK, List.all_cons, List.all_nil, notTup, Bool.and_self, List.getElem?_cons_zero, List.getElem?_cons_succ, Nat.reduceAdd, Bool.not_eq_true, Bool.not_eq_false, decide_eq_false_iff_not, Nat.reduceSub, Nat.zero_add, Nat.add_zero, this, hlen, hw, hc, hw2, s1, conv_bs s2]
      exact ⟨_, by omega, rfl⟩
end Go.Proofs.Ytpkaeflmonpliaa.Ax
