/- Contracts: numbers, texts and names that are drawn; names that are built in. -/
import Derived.Test.YtpkaeflmonpliaaK5
import Derived.Test.YtpkaeflmonpliaaK1
set_option linter.unusedVariables false
set_option linter.unusedSimpArgs false
namespace Go.Proofs.Ytpkaeflmonpliaa.Ax
open Go
theorem k40 {n : Nat} {H : Hp} {v : Value} {l : List Int} (hv : Li eByte n H v l) (hl : l.length ≤ 1048576) (m : Int) (hm : 0 ≤ m) : ∃ x : Int, 0 ≤ x ∧ x ≤ m ∧ Call Try.prog 40 [v, .int .i64 m] H n = some (.int .i64 x, H, n + 11) := by
  rw [c40]; unfold S40
  have e1 : ((l.length : Int).tdiv 20) = (l.length : Int) / 20 := Int.tdiv_eq_ediv_of_nonneg (by omega)
  have w1 : IntKind.i64.wrap ((l.length : Int) / 20) = (l.length : Int) / 20 := w64 (by omega)
  have w2 : IntKind.i64.wrap (2 + (l.length : Int) / 20) = 2 + (l.length : Int) / 20 := w64 (by omega)
  simp only [↓reduceIte, ↓csel_bool, ↓gsel_true, ↓gsel_false, ↓gsel_undef, ↓thenK_normal, ↓thenK_ret, ↓thenK_exit, argsT_at, List.getD_cons_zero, List.getD_cons_succ, Option.bind_some, Option.bind_none, put_at, pickV_bool, un_not, un_neg, b_eql, b_neq, i_add, i_sub, i_mul, i_quo, i_rem, i_eql, i_neq, i_lss, i_leq, i_gtr, i_geq, t_eql, t_neq, len_str, len_sl, outOf_exit, finE, decide_eq_true_eq, Nat.reduceEqDiff, Bool.false_eq_true, Bool.not_true, Bool.not_false, decide_true, decide_false, if_true, if_false, ne_eq, not_true_eq_false, not_false_eq_true, conv_i, conv_ss, Int.reduceEq, partV_c, partV_a, ext_tup, nilchk_ptr, fieldA_ptr, iteK, List.all_cons, List.all_nil, notTup, Bool.and_self, List.getElem?_cons_zero, List.getElem?_cons_succ, Nat.reduceAdd, Bool.not_eq_true, Bool.not_eq_false, decide_eq_false_iff_not, Nat.reduceSub, Nat.zero_add, Nat.add_zero, hv.len, e1, w1, w2]
  by_cases h : m < 2 + (l.length : Int) / 20
  · simp only [↓reduceIte, ↓csel_bool, ↓gsel_true, ↓gsel_false, ↓gsel_undef, ↓thenK_normal, ↓thenK_ret, ↓thenK_exit, argsT_at, List.getD_cons_zero, List.getD_cons_succ, Option.bind_some, Option.bind_none, put_at, pickV_bool, un_not, un_neg, b_eql, b_neq, i_add, i_sub, i_mul, i_quo, i_rem, i_eql, i_neq, i_lss, i_leq, i_gtr, i_geq, t_eql, t_neq, len_str, len_sl, outOf_exit, finE, decide_eq_true_eq, Nat.reduceEqDiff, Bool.false_eq_true, Bool.not_true, Bool.not_false, decide_true, decide_false, if_true, if_false, ne_eq, not_true_eq_false, not_false_eq_true, conv_i, conv_ss, Int.reduceEq, partV_c, partV_a, ext_tup, nilchk_ptr, fieldA_ptr, iteK, List.all_cons, List.all_nil, notTup, Bool.and_self, List.getElem?_cons_zero, List.getElem?_cons_succ, Nat.reduceAdd, Bool.not_eq_true, Bool.not_eq_false, decide_eq_false_iff_not, Nat.reduceSub, Nat.zero_add, Nat.add_zero, h]
    exact ⟨_, hm, by omega, rfl⟩
  · simp only [↓reduceIte, ↓csel_bool, ↓gsel_true, ↓gsel_false, ↓gsel_undef, ↓thenK_normal, ↓thenK_ret, ↓thenK_exit, argsT_at, List.getD_cons_zero, List.getD_cons_succ, Option.bind_some, Option.bind_none, put_at, pickV_bool, un_not, un_neg, b_eql, b_neq, i_add, i_sub, i_mul, i_quo, i_rem, i_eql, i_neq, i_lss, i_leq, i_gtr, i_geq, t_eql, t_neq, len_str, len_sl, outOf_exit, finE, decide_eq_true_eq, Nat.reduceEqDiff, Bool.false_eq_true, Bool.not_true, Bool.not_false, decide_true, decide_false, if_true, if_false, ne_eq, not_true_eq_false, not_false_eq_true, conv_i, conv_ss, Int.reduceEq, partV_c, partV_a, ext_tup, nilchk_ptr, fieldA_ptr, iteK, List.all_cons, List.all_nil, notTup, Bool.and_self, List.getElem?_cons_zero, List.getElem?_cons_succ, Nat.reduceAdd, Bool.not_eq_true, Bool.not_eq_false, decide_eq_false_iff_not, Nat.reduceSub, Nat.zero_add, Nat.add_zero, h]
    exact ⟨_, by omega, by omega, rfl⟩
theorem k21 {n : Nat} {H : Hp} {v : Value} {l : List Int} (hv : Li eByte n H v l) : Call Try.prog 21 [v] H n = some (.bool (decide (1048576 < l.length)), H, n + 5) := by
  rw [c21]; unfold S21
  simp only [↓reduceIte, ↓csel_bool, ↓gsel_true, ↓gsel_false, ↓gsel_undef, ↓thenK_normal, ↓thenK_ret, ↓thenK_exit, argsT_at, List.getD_cons_zero, List.getD_cons_succ, Option.bind_some, Option.bind_none, put_at, pickV_bool, un_not, un_neg, b_eql, b_neq, i_add, i_sub, i_mul, i_quo, i_rem, i_eql, i_neq, i_lss, i_leq, i_gtr, i_geq, t_eql, t_neq, len_str, len_sl, outOf_exit, finE, decide_eq_true_eq, Nat.reduceEqDiff, Bool.false_eq_true, Bool.not_true, Bool.not_false, decide_true, decide_false, if_true, if_false, ne_eq, not_true_eq_false, not_false_eq_true, conv_i, conv_ss, Int.reduceEq, partV_c, partV_a, ext_tup, nilchk_ptr, fieldA_ptr, iteK, List.all_cons, List.all_nil, notTup, Bool.and_self, List.getElem?_cons_zero, List.getElem?_cons_succ, Nat.reduceAdd, Bool.not_eq_true, Bool.not_eq_false, decide_eq_false_iff_not, Nat.reduceSub, Nat.zero_add, Nat.add_zero, hv.len]
  simp only [nats_lt (j := 1048576), show ((1048576 : Int) = ((1048576 : Nat) : Int)) from rfl]
theorem k23 {n : Nat} {H : Hp} {v : Value} {l : List Int} (hv : Li eByte n H v l) (hl : l.length ≤ 1048576) (i : Int) (hi : 0 ≤ i ∧ i ≤ 1000000) : ∃ (x : Int) (n' : Nat), n ≤ n' ∧ Call Try.prog 23 [v, .int .i64 i] H n = some (.int .i64 x, H, n') := by
  rw [c23]; unfold S23
  by_cases h : i < (l.length : Int)
  · simp only [↓reduceIte, ↓csel_bool, ↓gsel_true, ↓gsel_false, ↓gsel_undef, ↓thenK_normal, ↓thenK_ret, ↓thenK_exit, argsT_at, List.getD_cons_zero, List.getD_cons_succ, Option.bind_some, Option.bind_none, put_at, pickV_bool, un_not, un_neg, b_eql, b_neq, i_add, i_sub, i_mul, i_quo, i_rem, i_eql, i_neq, i_lss, i_leq, i_gtr, i_geq, t_eql, t_neq, len_str, len_sl, outOf_exit, finE, decide_eq_true_eq, Nat.reduceEqDiff, Bool.false_eq_true, Bool.not_true, Bool.not_false, decide_true, decide_false, if_true, if_false, ne_eq, not_true_eq_false, not_false_eq_true, conv_i, conv_ss, Int.reduceEq, partV_c, partV_a, ext_tup, nilchk_ptr, fieldA_ptr, iteK, List.all_cons, List.all_nil, notTup, Bool.and_self, List.getElem?_cons_zero, List.getElem?_cons_succ, Nat.reduceAdd, Bool.not_eq_true, Bool.not_eq_false, decide_eq_false_iff_not, Nat.reduceSub, Nat.zero_add, Nat.add_zero, hv.len, h, hv.bAll hi.1 h]
    exact ⟨_, _, by omega, rfl⟩
  · simp only [↓reduceIte, ↓csel_bool, ↓gsel_true, ↓gsel_false, ↓gsel_undef, ↓thenK_normal, ↓thenK_ret, ↓thenK_exit, argsT_at, List.getD_cons_zero, List.getD_cons_succ, Option.bind_some, Option.bind_none, put_at, pickV_bool, un_not, un_neg, b_eql, b_neq, i_add, i_sub, i_mul, i_quo, i_rem, i_eql, i_neq, i_lss, i_leq, i_gtr, i_geq, t_eql, t_neq, len_str, len_sl, outOf_exit, finE, decide_eq_true_eq, Nat.reduceEqDiff, Bool.false_eq_true, Bool.not_true, Bool.not_false, decide_true, decide_false, if_true, if_false, ne_eq, not_true_eq_false, not_false_eq_true, conv_i, conv_ss, Int.reduceEq, partV_c, partV_a, ext_tup, nilchk_ptr, fieldA_ptr, iteK, List.all_cons, List.all_nil, notTup, Bool.and_self, List.getElem?_cons_zero, List.getElem?_cons_succ, Nat.reduceAdd, Bool.not_eq_true, Bool.not_eq_false, decide_eq_false_iff_not, Nat.reduceSub, Nat.zero_add, Nat.add_zero, hv.len, h]
    exact ⟨_, _, by omega, rfl⟩
theorem l39 {c n0 : Nat} {H0 : Hp} (hc0 : c < n0) (m : Nat) (hm : m ≤ 100000) : ∀ t H n id, t 0 = ptr c 0 → t 5 = sl id 0 0 → t 6 = .int .i64 m → t 7 = .int .i64 0 → H id = some (.row [] 1 true) → id < n → c ≠ id → n0 ≤ id → Cu c n H → Upd n0 [c] H0 H → n0 ≤ n →
    Wp (Loop (S39L0 (Call Try.prog) Loop) t H n) (fun o => n ≤ o.n ∧ Upd n0 [c] H0 o.H ∧ Cu c o.n o.H ∧ o.e = .exit 0 ∧ ∃ acc id, acc.length = m ∧ c ≠ id ∧ n0 ≤ id ∧ id < o.n ∧ (∀ x ∈ acc, 0 ≤ x ∧ x ≤ 255) ∧ At eByte id o.H (o.t 5) acc) := by
  intro t H n id e0 e5 e6 e7 hid hidn hcid hid0 hcu hup hn0
  refine Loop_rule (fun d t H n' => ∃ j : Nat, j + d = m ∧ n ≤ n' ∧ t 0 = ptr c 0 ∧ t 6 = .int .i64 m ∧ t 7 = .int .i64 j ∧ Cu c n' H ∧ Upd n0 [c] H0 H ∧ ∃ acc id, acc.length = j ∧ c ≠ id ∧ n0 ≤ id ∧ id < n' ∧ (∀ x ∈ acc, 0 ≤ x ∧ x ≤ 255) ∧ At eByte id H (t 5) acc) _ ?_ m t H n
    ⟨0, by omega, by omega, e0, e6, e7, hcu, hup, [], id, rfl, hcid, hid0, hidn, by simp, by rw [e5]; exact .inr ⟨rfl, hid⟩⟩
  rintro d t H n' ⟨j, hj, hn, e0, e6, e7, hcu, hup, acc, id, hacc, hcid, hid0, hidn, hb, hat⟩
  unfold S39L0
  by_cases hlt : (j : Int) < m
  · obtain ⟨_, H1, n1, a1, a2, a3, a4, x, rfl, a5, a6⟩ := k49 (hcu.up (show n' ≤ n' + 10 by omega))
    have hu8 : IntKind.u8.wrap x = x := IntWalk.u8_in _ (by omega)
    have hbs := bsl_one eByte x (n' + 7) [.int .u8 0] (.int .u8 x) H1 rfl rfl (by decide)
    have hat1 : At eByte id H1 (t 5) acc := hat.keep (a2 id (by omega) (by simp; omega))
    obtain ⟨H2, g1, g2, g3⟩ := app_one (id1 := n' + 7) (id2 := n' + 8) (bytes := 1) x hat1 (by omega) (by decide) (by omega)
    have hw := wj (j := j) (len := m) (by omega) (by omega)
    simp only [↓reduceIte, ↓csel_bool, ↓gsel_true, ↓gsel_false, ↓gsel_undef, ↓thenK_normal, ↓thenK_ret, ↓thenK_exit, argsT_at, List.getD_cons_zero, List.getD_cons_succ, Option.bind_some, Option.bind_none, put_at, pickV_bool, un_not, un_neg, b_eql, b_neq, i_add, i_sub, i_mul, i_quo, i_rem, i_eql, i_neq, i_lss, i_leq, i_gtr, i_geq, t_eql, t_neq, len_str, len_sl, outOf_exit, finE, decide_eq_true_eq, Nat.reduceEqDiff, Bool.false_eq_true, Bool.not_true, Bool.not_false, decide_true, decide_false, if_true, if_false, ne_eq, not_true_eq_false, not_false_eq_true, conv_i, conv_ss, Int.reduceEq, partV_c, partV_a, ext_tup, nilchk_ptr, fieldA_ptr, iteK, List.all_cons, List.all_nil, notTup, Bool.and_self, List.getElem?_cons_zero, List.getElem?_cons_succ, Nat.reduceAdd, Bool.not_eq_true, Bool.not_eq_false, decide_eq_false_iff_not, Nat.reduceSub, Nat.zero_add, Nat.add_zero, e0, e6, e7, hlt, a4, hu8, hbs, g1, hw]
    refine Wp.pure (Nxt.go (d - 1) (by omega) ⟨j + 1, by omega, by omega, by simp [put_at, e0], by simp [put_at, e6], by simp [put_at], ?_, ?_, acc ++ [x], n' + 8, by simp [hacc], by omega, by omega, by omega, ?_, ?_⟩)
    · exact a3.low (fun i hi => g3 i (by omega) (by omega) (by omega)) (by omega)
    · intro q hq hqs
      rw [g3 q (by omega) (by omega) (by omega)]
      exact hup.tr (a2.less (by omega)) (Nat.le_refl n0) q hq hqs
    · intro y hy
      rcases List.mem_append.1 hy with h | h
      · exact hb y h
      · simp at h; subst h; exact ⟨a5, a6⟩
    · simp only [put_at]; exact .inr ⟨rfl, g2⟩
  · simp only [↓reduceIte, ↓csel_bool, ↓gsel_true, ↓gsel_false, ↓gsel_undef, ↓thenK_normal, ↓thenK_ret, ↓thenK_exit, argsT_at, List.getD_cons_zero, List.getD_cons_succ, Option.bind_some, Option.bind_none, put_at, pickV_bool, un_not, un_neg, b_eql, b_neq, i_add, i_sub, i_mul, i_quo, i_rem, i_eql, i_neq, i_lss, i_leq, i_gtr, i_geq, t_eql, t_neq, len_str, len_sl, outOf_exit, finE, decide_eq_true_eq, Nat.reduceEqDiff, Bool.false_eq_true, Bool.not_true, Bool.not_false, decide_true, decide_false, if_true, if_false, ne_eq, not_true_eq_false, not_false_eq_true, conv_i, conv_ss, Int.reduceEq, partV_c, partV_a, ext_tup, nilchk_ptr, fieldA_ptr, iteK, List.all_cons, List.all_nil, notTup, Bool.and_self, List.getElem?_cons_zero, List.getElem?_cons_succ, Nat.reduceAdd, Bool.not_eq_true, Bool.not_eq_false, decide_eq_false_iff_not, Nat.reduceSub, Nat.zero_add, Nat.add_zero, e0, e6, e7, hlt]
    exact Wp.pure (Nxt.exit ⟨by simp only; omega, hup, hcu.up (Nat.le_add_right _ _), rfl, acc, id, by omega, hcid, hid0, Nat.lt_of_lt_of_le hidn (Nat.le_add_right _ _), hb, by simpa [put_at] using hat⟩)
theorem k39 {c n : Nat} {H : Hp} (hc : Cu c n H) (m : Int) (hm : 0 ≤ m ∧ m ≤ 10000) : RtD Try.prog 39 [ptr c 0, .int .i64 m] c H n (fun v H' n' => ∃ l : List Int, (l.length : Int) ≤ m ∧ (∀ x ∈ l, 0 ≤ x ∧ x ≤ 255) ∧ New eByte n n' H' v l) := by
  unfold RtD
  rw [c39]; unfold S39
  have hw : IntKind.i64.wrap (m + 1) = m + 1 := w64 (by omega)
  have hc0 := hc.1
  obtain ⟨_, H1, n1, a1, a2, a3, a4, x, rfl, _, a5⟩ := k38 ((hc.keep ((Same.refl n H).set (show n ≤ n + 1 by omega) (some (.row [] 1 true))) (Nat.le_refl _)).up (show n ≤ n + 8 by omega)) (m + 1)
  have a5 := a5 (by omega)
  obtain ⟨xn, rfl⟩ := Int.eq_ofNat_of_zero_le a5.1
  simp only [↓reduceIte, ↓csel_bool, ↓gsel_true, ↓gsel_false, ↓gsel_undef, ↓thenK_normal, ↓thenK_ret, ↓thenK_exit, argsT_at, List.getD_cons_zero, List.getD_cons_succ, Option.bind_some, Option.bind_none, put_at, pickV_bool, un_not, un_neg, b_eql, b_neq, i_add, i_sub, i_mul, i_quo, i_rem, i_eql, i_neq, i_lss, i_leq, i_gtr, i_geq, t_eql, t_neq, len_str, len_sl, outOf_exit, finE, decide_eq_true_eq, Nat.reduceEqDiff, Bool.false_eq_true, Bool.not_true, Bool.not_false, decide_true, decide_false, if_true, if_false, ne_eq, not_true_eq_false, not_false_eq_true, conv_i, conv_ss, Int.reduceEq, partV_c, partV_a, ext_tup, nilchk_ptr, fieldA_ptr, iteK, List.all_cons, List.all_nil, notTup, Bool.and_self, List.getElem?_cons_zero, List.getElem?_cons_succ, Nat.reduceAdd, Bool.not_eq_true, Bool.not_eq_false, decide_eq_false_iff_not, Nat.reduceSub, Nat.zero_add, Nat.add_zero, bsl_zero, hw, a4]
  generalize hT : put _ _ _ = T
  have hid : H1 (n + 1) = some (.row [] 1 true) := by rw [a2 (n + 1) (by omega) (by simp; omega)]; exact Hp_same _ _ _
  obtain ⟨⟨oe, ot, oH, on⟩, f1, f2, f3, f4, f5, acc, id, f6, f7, f8, f9, f10, f11⟩ := l39 (n0 := n) (H0 := H) hc0 xn (by omega) T H1 (n1 + 1) (n + 1) (by rw [← hT]; simp [put_at, argsT_at]) (by rw [← hT]; simp [put_at, argsT_at]) (by rw [← hT]; simp [put_at]) (by rw [← hT]; simp [put_at]) hid (by omega) (by omega) (by omega) (a3.up (by omega))
    (fun i hi hs => by rw [a2 i (by omega) hs]; exact Hp_ne _ _ (by omega)) (by omega)
  rw [f1]
  simp only [↓reduceIte, ↓csel_bool, ↓gsel_true, ↓gsel_false, ↓gsel_undef, ↓thenK_normal, ↓thenK_ret, ↓thenK_exit, argsT_at, List.getD_cons_zero, List.getD_cons_succ, Option.bind_some, Option.bind_none, put_at, pickV_bool, un_not, un_neg, b_eql, b_neq, i_add, i_sub, i_mul, i_quo, i_rem, i_eql, i_neq, i_lss, i_leq, i_gtr, i_geq, t_eql, t_neq, len_str, len_sl, outOf_exit, finE, decide_eq_true_eq, Nat.reduceEqDiff, Bool.false_eq_true, Bool.not_true, Bool.not_false, decide_true, decide_false, if_true, if_false, ne_eq, not_true_eq_false, not_false_eq_true, conv_i, conv_ss, Int.reduceEq, partV_c, partV_a, ext_tup, nilchk_ptr, fieldA_ptr, iteK, List.all_cons, List.all_nil, notTup, Bool.and_self, List.getElem?_cons_zero, List.getElem?_cons_succ, Nat.reduceAdd, Bool.not_eq_true, Bool.not_eq_false, decide_eq_false_iff_not, Nat.reduceSub, Nat.zero_add, Nat.add_zero]
  exact ⟨_, _, _, by simp only at f2; omega, f3, f4.up (by simp only; omega), rfl, acc, by omega, f10, id, f8, by simp only at f9 ⊢; omega, f11⟩
theorem k24 {n : Nat} {H : Hp} {v : Value} {l : List Int} (hv : Li eByte n H v l) (hb : ∀ x ∈ l, 0 ≤ x ∧ x ≤ 255) (hl : l.length ≤ 1048576) : ∃ (s : ByteArray), s.size ≤ 40 ∧ Rt Try.prog 24 [v] H n (.string s) := by
  unfold Rt
  rw [c24]; unfold S24
  obtain ⟨c, H1, n1, a1, a2, a3, a4⟩ := k36 (hv.up (show n ≤ n + 8 by omega)) hb hl
  have ha := a3.1
  obtain ⟨x, b1, b2, b3⟩ := k40 (n := n1) (hv.keep a2 (by omega) |>.up (show n ≤ n1 by omega)) hl 40 (by decide)
  obtain ⟨_, H2, n2, c1, c2, c3, c4, acc, d1, d2, d3⟩ := k39 (a3.up (show n1 ≤ n1 + 11 by omega)) x (by omega)
  have hs : (strOf acc).size ≤ 40 := by rw [strOf_size]; omega
  refine ⟨strOf acc, hs, ?_⟩
  simp only [↓reduceIte, ↓csel_bool, ↓gsel_true, ↓gsel_false, ↓gsel_undef, ↓thenK_normal, ↓thenK_ret, ↓thenK_exit, argsT_at, List.getD_cons_zero, List.getD_cons_succ, Option.bind_some, Option.bind_none, put_at, pickV_bool, un_not, un_neg, b_eql, b_neq, i_add, i_sub, i_mul, i_quo, i_rem, i_eql, i_neq, i_lss, i_leq, i_gtr, i_geq, t_eql, t_neq, len_str, len_sl, outOf_exit, finE, decide_eq_true_eq, Nat.reduceEqDiff, Bool.false_eq_true, Bool.not_true, Bool.not_false, decide_true, decide_false, if_true, if_false, ne_eq, not_true_eq_false, not_false_eq_true, conv_i, conv_ss, Int.reduceEq, partV_c, partV_a, ext_tup, nilchk_ptr, fieldA_ptr, iteK, List.all_cons, List.all_nil, notTup, Bool.and_self, List.getElem?_cons_zero, List.getElem?_cons_succ, Nat.reduceAdd, Bool.not_eq_true, Bool.not_eq_false, decide_eq_false_iff_not, Nat.reduceSub, Nat.zero_add, Nat.add_zero, a4, b3, c4, conv_bs d3.lst]
  exact ⟨_, _, by omega, (a2.less (show n ≤ n + 8 by omega)).trans (c2.same (show n ≤ n1 + 11 by omega) (fun i hi => by simp at hi; omega)) (Nat.le_refl n), rfl⟩
theorem k22 {n : Nat} {H : Hp} {v : Value} {l : List Int} (hv : Li eByte n H v l) (hb : ∀ x ∈ l, 0 ≤ x ∧ x ≤ 255) (hl : l.length ≤ 1048576) : ∃ x : Int, -9223372036854775808 ≤ x ∧ x ≤ 9223372036854775807 ∧ Rt Try.prog 22 [v] H n (.int .i64 x) := by
  unfold Rt
  rw [c22]; unfold S22
  obtain ⟨c, H1, n1, a1, a2, a3, a4⟩ := k36 (hv.up (show n ≤ n + 4 by omega)) hb hl
  have ha := a3.1
  obtain ⟨_, H2, n2, b1, b2, b3, b4, x, rfl, _, b5⟩ := k38 (a3.up (show n1 ≤ n1 + 6 by omega)) 100000
  have b5 := b5 (by decide)
  obtain ⟨e1, e2⟩ := bsl_new eInt (id := n1 + 3) (cnt := 9) (zero := [.int .i64 0]) (H := H2) (parts := [(0, 1, .int .i64 0), (1, 1, .int .i64 1), (2, 1, .int .i64 127), (3, 1, .int .i64 128), (4, 1, .int .i64 16383), (5, 1, .int .i64 16384), (6, 1, .int .i64 (-1)), (7, 1, .int .i64 9223372036854775807), (8, 1, .int .i64 x)]) [0, 1, 127, 128, 16383, 16384, -1, 9223372036854775807, x] (by decide) rfl rfl
  obtain ⟨_, H3, n3, c1, c2, c3, c4, y, rfl, c5⟩ := k37 (b3.low (H' := H2.set (n1 + 3) (some (.row ([0, 1, 127, 128, 16383, 16384, -1, 9223372036854775807, x].flatMap eInt.cells) 1 true))) (fun i hi => Hp_ne _ _ (by omega)) (show c < n2 by omega)) (e2.lst (by omega)) (e2.off (by omega)) (by simp)
  refine ⟨y, ?_, ?_, ?_⟩
  · simp at c5; omega
  · simp at c5; omega
  · simp only [↓reduceIte, ↓csel_bool, ↓gsel_true, ↓gsel_false, ↓gsel_undef, ↓thenK_normal, ↓thenK_ret, ↓thenK_exit, argsT_at, List.getD_cons_zero, List.getD_cons_succ, Option.bind_some, Option.bind_none, put_at, pickV_bool, un_not, un_neg, b_eql, b_neq, i_add, i_sub, i_mul, i_quo, i_rem, i_eql, i_neq, i_lss, i_leq, i_gtr, i_geq, t_eql, t_neq, len_str, len_sl, outOf_exit, finE, decide_eq_true_eq, Nat.reduceEqDiff, Bool.false_eq_true, Bool.not_true, Bool.not_false, decide_true, decide_false, if_true, if_false, ne_eq, not_true_eq_false, not_false_eq_true, conv_i, conv_ss, Int.reduceEq, partV_c, partV_a, ext_tup, nilchk_ptr, fieldA_ptr, iteK, List.all_cons, List.all_nil, notTup, Bool.and_self, List.getElem?_cons_zero, List.getElem?_cons_succ, Nat.reduceAdd, Bool.not_eq_true, Bool.not_eq_false, decide_eq_false_iff_not, Nat.reduceSub, Nat.zero_add, Nat.add_zero, a4, b4, e1, c4]
    refine ⟨_, _, ?_, ?_, rfl⟩
    · omega
    · intro i hi
      rw [c2 i (by omega) (by simp; omega), Hp_ne _ _ (by omega), b2 i (by omega) (by simp; omega), a2 i (by omega)]
end Go.Proofs.Ytpkaeflmonpliaa.Ax
