/- FnNums answers true. -/
import Derived.Test.YtpkaeflmonpliaaK4
import Derived.Test.YtpkaeflmonpliaaK6
set_option linter.unusedVariables false
set_option linter.unusedSimpArgs false
namespace Go.Proofs.Ytpkaeflmonpliaa.Ax
open Go
theorem gl_put : ∀ (d x k a : Nat) (r : List Int), x < 128 ^ (d + 1) → (k = 0 ∨ 0 < x) → gl (d + 1) (putBytes x ++ r) k a = some (a + x * 128 ^ k, k + (putBytes x).length) := by
  intro d
  induction d with
  | zero =>
    intro x k a r hx hk
    have hs : ¬ 127 < x := by simp at hx; omega
    rw [putBytes_small hs]
    have h1 : (x : Int) < 128 := by omega
    simp only [List.cons_append, List.nil_append, gl, h1, if_true]
    rw [if_neg (by omega)]
    simp
  | succ d ih =>
    intro x k a r hx hk
    by_cases hb : 127 < x
    · rw [putBytes_big hb]
      have h1 : ¬ ((x % 128 + 128 : Nat) : Int) < 128 := by omega
      have hm : ((x % 128 + 128 : Nat) : Int).toNat % 128 = x % 128 := by rw [Int.toNat_natCast]; omega
      rw [List.cons_append, gl, if_neg h1, hm, ih (x / 128) (k + 1) _ r (by rw [Nat.div_lt_iff_lt_mul (by decide)]; rw [Nat.pow_succ] at hx; exact hx) (.inr (by omega))]
      congr 2
      · have := Nat.mod_add_div x 128
        rw [Nat.pow_succ, Nat.mul_comm (128 ^ k) 128, ← Nat.mul_assoc, Nat.mul_comm (x / 128) 128, Nat.add_assoc, ← Nat.add_mul, this]
      · rw [List.length_cons]; omega
    · rw [putBytes_small hb]
      have h1 : (x : Int) < 128 := by omega
      simp only [List.cons_append, List.nil_append, gl, h1, if_true]
      rw [if_neg (by omega)]
      simp
theorem getNum_put (pre r : List Int) (x : Int) (h0 : 0 ≤ x) (hx : x ≤ 9223372036854775807) : getNum (pre ++ (putNum x ++ r)) pre.length = (x, (pre.length : Int) + (putNum x).length, true) := by
  have hp : putNum x = putBytes x.toNat := by unfold putNum; rw [if_neg (by omega)]
  have hpos : 0 < (putBytes x.toNat).length := by
    by_cases hb : 127 < x.toNat
    · rw [putBytes_big hb]; simp
    · rw [putBytes_small hb]; simp
  have h9 : (128 : Nat) ^ (8 + 1) = 9223372036854775808 := by decide
  unfold getNum
  rw [hp, if_neg (by simp; omega), Int.toNat_natCast, List.drop_left' rfl, gl_put 8 _ 0 0 r (by omega) (.inl rfl)]
  simp only [gotV, Nat.zero_add, Nat.pow_zero, Nat.mul_one]
  congr 1
  omega
theorem strOf_nums (s : ByteArray) : strOf (numsOf s) = s := by
  obtain ⟨⟨l⟩⟩ := s
  have h : (fun n : Int => UInt8.ofNat n.toNat) ∘ (fun b : UInt8 => (b.toNat : Int)) = id := by funext b; simp
  simp only [strOf, numsOf, List.map_map, h, List.map_id]
theorem getText_put (r : List Int) (s : ByteArray) (hs : s.size ≤ 1000000) : getText (putText s ++ r) 0 = (s, ((putText s).length : Int), true) := by
  have hg := getNum_put [] (numsOf s ++ r) s.size (by omega) (by omega)
  rw [List.nil_append] at hg
  have e : putText s ++ r = putNum s.size ++ (numsOf s ++ r) := by unfold putText; rw [List.append_assoc]
  unfold getText
  rw [e]
  rw [show (([] : List Int).length : Int) = 0 from rfl] at hg
  rw [hg]
  simp only
  rw [if_pos ⟨trivial, by simp only [List.length_append, numsOf_length]; omega⟩]
  have e2 : ((0 : Int) + (putNum (s.size : Int)).length).toNat = (putNum (s.size : Int)).length := by omega
  rw [e2, List.drop_left' rfl, Int.toNat_natCast, List.take_left' (numsOf_length s), strOf_nums]
  simp only [putText, List.length_append, numsOf_length]
  congr 2
  omega
theorem Mine.new {n n' : Nat} {H : Hp} {v : Value} {l : List Int} (h : Mine n n' H v l) (hn : n < n') : New eByte n n' H v l := by
  rcases h with ⟨rfl, rfl⟩ | ⟨id, h1, h2, h3, h4⟩
  · exact ⟨n, Nat.le_refl _, hn, At.nil⟩
  · exact ⟨id, h1, h2, .inr ⟨h3, by rw [h4, bytesV_flat]⟩⟩
theorem nums_ok (s : ByteArray) : ∀ c ∈ numsOf s, 0 ≤ c ∧ c ≤ 255 := by
  intro c hc
  obtain ⟨b, _, rfl⟩ := List.mem_map.1 hc
  have := b.toNat_lt
  omega
theorem put_ok : ∀ (x : Nat), ∀ c ∈ putBytes x, 0 ≤ c ∧ c ≤ 255 := by
  intro x
  induction x using Nat.strongRecOn with
  | _ x ih =>
    intro c hc
    by_cases hb : 127 < x
    · rw [putBytes_big hb] at hc
      rcases List.mem_cons.1 hc with rfl | hc
      · omega
      · exact ih (x / 128) (by omega) c hc
    · rw [putBytes_small hb] at hc
      simp at hc
      omega
theorem putNum_ok (x : Int) : ∀ c ∈ putNum x, 0 ≤ c ∧ c ≤ 255 := by
  unfold putNum
  split
  · simp
  · exact put_ok _
theorem law7 {v : Value} {l : List Int} {H : Hp} {n : Nat} (hv : Li eByte n H v l) (hb : ∀ c ∈ l, 0 ≤ c ∧ c ≤ 255) : ∃ H' n', Call Try.prog 7 [v] H n = some (.bool true, H', n') := by
  rw [c7]; unfold S7
  have hbig := k21 (hv.up (show n ≤ n + 3 by omega))
  by_cases hl : 1048576 < l.length
  · simp only [↓reduceIte, ↓csel_bool, ↓gsel_true, ↓gsel_false, ↓thenK_normal, ↓thenK_ret, ↓thenK_exit, argsT_at, List.getD_cons_zero, List.getD_cons_succ, Option.bind_some, Option.bind_none, put_at, pickV_bool, un_not, un_neg, b_eql, b_neq, i_add, i_sub, i_mul, i_quo, i_rem, i_eql, i_neq, i_lss, i_leq, i_gtr, i_geq, t_eql, t_neq, len_str, len_sl, outOf_exit, finE, decide_eq_true_eq, Nat.reduceEqDiff, Bool.false_eq_true, Bool.not_true, Bool.not_false, decide_true, decide_false, if_true, if_false, ne_eq, not_true_eq_false, not_false_eq_true, conv_i, conv_ss, Int.reduceEq, partV_c, partV_a, ext_tup, nilchk_ptr, fieldA_ptr, iteK, List.all_cons, List.all_nil, notTup, Bool.and_self, List.getElem?_cons_zero, List.getElem?_cons_succ, Nat.reduceAdd, Bool.not_eq_true, Bool.not_eq_false, decide_eq_false_iff_not, Nat.reduceSub, Nat.zero_add, Nat.add_zero, hbig, hl]
    exact ⟨_, _, rfl⟩
  · have hl' : l.length ≤ 1048576 := by omega
    obtain ⟨x, hx0, hx1, H1, n1, a1, a2, a3⟩ := k22 (hv.up (show n ≤ n + 3 + 5 + 3 by omega)) hb hl'
    obtain ⟨w, H2, n2, b1, b2, b3, b4⟩ := k10 x hx1 H1 (n1 + 3)
    have v2 : Li eByte n H2 v l := (hv.keep a2 (by omega)).keep b2 (by omega)
    by_cases hx : x < 0
    · have : putNum x = [] := by unfold putNum; rw [if_pos hx]
      have hlen := b4.view.len
      rw [this] at hlen
      apply Wp.val
      (repeat (first | (apply Wp.step; case h => ((try simp only [↓reduceIte, ↓csel_bool, ↓gsel_true, ↓gsel_false, ↓thenK_normal, ↓thenK_ret, ↓thenK_exit, argsT_at, List.getD_cons_zero, List.getD_cons_succ, Option.bind_some, Option.bind_none, put_at, pickV_bool, un_not, un_neg, b_eql, b_neq, i_add, i_sub, i_mul, i_quo, i_rem, i_eql, i_neq, i_lss, i_leq, i_gtr, i_geq, t_eql, t_neq, len_str, len_sl, outOf_exit, finE, decide_eq_true_eq, Nat.reduceEqDiff, Bool.false_eq_true, Bool.not_true, Bool.not_false, decide_true, decide_false, if_true, if_false, ne_eq, not_true_eq_false, not_false_eq_true, conv_i, conv_ss, Int.reduceEq, partV_c, partV_a, ext_tup, nilchk_ptr, fieldA_ptr, iteK, List.all_cons, List.all_nil, notTup, Bool.and_self, List.getElem?_cons_zero, List.getElem?_cons_succ, Nat.reduceAdd, Bool.not_eq_true, Bool.not_eq_false, decide_eq_false_iff_not, Nat.reduceSub, Nat.zero_add, Nat.add_zero, hbig, hl, a3, b3, hx, hlen]); with_reducible exact rfl)) | (apply Wp.cselT; case h => (simp only [↓reduceIte, ↓csel_bool, ↓gsel_true, ↓gsel_false, ↓thenK_normal, ↓thenK_ret, ↓thenK_exit, argsT_at, List.getD_cons_zero, List.getD_cons_succ, Option.bind_some, Option.bind_none, put_at, pickV_bool, un_not, un_neg, b_eql, b_neq, i_add, i_sub, i_mul, i_quo, i_rem, i_eql, i_neq, i_lss, i_leq, i_gtr, i_geq, t_eql, t_neq, len_str, len_sl, outOf_exit, finE, decide_eq_true_eq, Nat.reduceEqDiff, Bool.false_eq_true, Bool.not_true, Bool.not_false, decide_true, decide_false, if_true, if_false, ne_eq, not_true_eq_false, not_false_eq_true, conv_i, conv_ss, Int.reduceEq, partV_c, partV_a, ext_tup, nilchk_ptr, fieldA_ptr, iteK, List.all_cons, List.all_nil, notTup, Bool.and_self, List.getElem?_cons_zero, List.getElem?_cons_succ, Nat.reduceAdd, Bool.not_eq_true, Bool.not_eq_false, decide_eq_false_iff_not, Nat.reduceSub, Nat.zero_add, Nat.add_zero, hbig, hl, a3, b3, hx, hlen])) | (apply Wp.cselF; case h => (simp only [↓reduceIte, ↓csel_bool, ↓gsel_true, ↓gsel_false, ↓thenK_normal, ↓thenK_ret, ↓thenK_exit, argsT_at, List.getD_cons_zero, List.getD_cons_succ, Option.bind_some, Option.bind_none, put_at, pickV_bool, un_not, un_neg, b_eql, b_neq, i_add, i_sub, i_mul, i_quo, i_rem, i_eql, i_neq, i_lss, i_leq, i_gtr, i_geq, t_eql, t_neq, len_str, len_sl, outOf_exit, finE, decide_eq_true_eq, Nat.reduceEqDiff, Bool.false_eq_true, Bool.not_true, Bool.not_false, decide_true, decide_false, if_true, if_false, ne_eq, not_true_eq_false, not_false_eq_true, conv_i, conv_ss, Int.reduceEq, partV_c, partV_a, ext_tup, nilchk_ptr, fieldA_ptr, iteK, List.all_cons, List.all_nil, notTup, Bool.and_self, List.getElem?_cons_zero, List.getElem?_cons_succ, Nat.reduceAdd, Bool.not_eq_true, Bool.not_eq_false, decide_eq_false_iff_not, Nat.reduceSub, Nat.zero_add, Nat.add_zero, hbig, hl, a3, b3, hx, hlen])) | (apply Wp.askT; case h => (simp only [↓reduceIte, ↓csel_bool, ↓gsel_true, ↓gsel_false, ↓thenK_normal, ↓thenK_ret, ↓thenK_exit, argsT_at, List.getD_cons_zero, List.getD_cons_succ, Option.bind_some, Option.bind_none, put_at, pickV_bool, un_not, un_neg, b_eql, b_neq, i_add, i_sub, i_mul, i_quo, i_rem, i_eql, i_neq, i_lss, i_leq, i_gtr, i_geq, t_eql, t_neq, len_str, len_sl, outOf_exit, finE, decide_eq_true_eq, Nat.reduceEqDiff, Bool.false_eq_true, Bool.not_true, Bool.not_false, decide_true, decide_false, if_true, if_false, ne_eq, not_true_eq_false, not_false_eq_true, conv_i, conv_ss, Int.reduceEq, partV_c, partV_a, ext_tup, nilchk_ptr, fieldA_ptr, iteK, List.all_cons, List.all_nil, notTup, Bool.and_self, List.getElem?_cons_zero, List.getElem?_cons_succ, Nat.reduceAdd, Bool.not_eq_true, Bool.not_eq_false, decide_eq_false_iff_not, Nat.reduceSub, Nat.zero_add, Nat.add_zero, hbig, hl, a3, b3, hx, hlen])) | (apply Wp.iteKT; case h => (simp only [↓reduceIte, ↓csel_bool, ↓gsel_true, ↓gsel_false, ↓thenK_normal, ↓thenK_ret, ↓thenK_exit, argsT_at, List.getD_cons_zero, List.getD_cons_succ, Option.bind_some, Option.bind_none, put_at, pickV_bool, un_not, un_neg, b_eql, b_neq, i_add, i_sub, i_mul, i_quo, i_rem, i_eql, i_neq, i_lss, i_leq, i_gtr, i_geq, t_eql, t_neq, len_str, len_sl, outOf_exit, finE, decide_eq_true_eq, Nat.reduceEqDiff, Bool.false_eq_true, Bool.not_true, Bool.not_false, decide_true, decide_false, if_true, if_false, ne_eq, not_true_eq_false, not_false_eq_true, conv_i, conv_ss, Int.reduceEq, partV_c, partV_a, ext_tup, nilchk_ptr, fieldA_ptr, iteK, List.all_cons, List.all_nil, notTup, Bool.and_self, List.getElem?_cons_zero, List.getElem?_cons_succ, Nat.reduceAdd, Bool.not_eq_true, Bool.not_eq_false, decide_eq_false_iff_not, Nat.reduceSub, Nat.zero_add, Nat.add_zero, hbig, hl, a3, b3, hx, hlen]))))
      exact Wp.pure rfl
    · have hpl := putNum_len x hx1
      have g1 := bsl_one eByte 9 (n2 + 2) [.int .u8 0] (.int .u8 9) H2 rfl rfl (by decide)
      have w2 : Li eByte n2 (H2.set (n2 + 2) (some (.row (eByte.cells 9) 1 true))) w (putNum x) := by
        rcases b4 with ⟨rfl, h0⟩ | ⟨id, i1, i2, i3, i4⟩
        · rw [h0]; exact Li.nil
        · rw [i3]
          exact ⟨View.new (by rw [Hp_ne _ _ (by omega), i4, bytesV_flat]) (flat_len eByte _), fun i o a c e => by cases e; exact i2⟩
      have at1 : At eByte (n2 + 2) (H2.set (n2 + 2) (some (.row (eByte.cells 9) 1 true))) (sl (n2 + 2) 0 1) [9] := .inr ⟨rfl, Hp_same _ _ _⟩
      obtain ⟨p8, H8, c1, c2, c3⟩ := app_at (id2 := n2 + 4) (bytes := 1) at1 (src_lst w2) (by decide) (by simp; omega)
      have v8 : Li eByte n H8 v l := v2.keep' fun i o a c e => by
        have := v2.2 i o a c e
        rw [c3 i (by omega) (by omega), Hp_ne _ _ (by omega)]
      obtain ⟨y, n9, d1, d2⟩ := k23 (v8.up (show n ≤ n2 + 18 by omega)) hl' 1 (by decide)
      have g2 := bsl_one eByte (IntKind.u8.wrap y) (n2 + 8) [.int .u8 0] (.int .u8 (IntKind.u8.wrap y)) H8 rfl rfl (by decide)
      obtain ⟨H12, e1, e2, e3⟩ := app_one (id1 := n2 + 8) (id2 := n2 + 9) (bytes := 1) (IntKind.u8.wrap y) c2 (by omega) (by decide) (by simp; omega)
      have hu : 0 ≤ IntKind.u8.wrap y ∧ IntKind.u8.wrap y ≤ 255 := u8_rng y
      have li12 : Li eByte n9 H12 (sl (n2 + 9) 0 (([9] ++ putNum x) ++ [IntKind.u8.wrap y]).length) (([9] ++ putNum x) ++ [IntKind.u8.wrap y]) := (show At eByte (n2 + 9) H12 _ _ from .inr ⟨rfl, e2⟩).lst (by omega)
      obtain ⟨n13, f1, f2⟩ := k18 li12 (by simp; omega) (by
        intro c hc
        simp only [List.mem_append, List.mem_cons, List.not_mem_nil, or_false] at hc
        rcases hc with (rfl | hc) | rfl
        · decide
        · exact putNum_ok x c hc
        · exact hu) 1 n9
      have hg : getNum (([9] ++ putNum x) ++ [IntKind.u8.wrap y]) 1 = (x, 1 + ((putNum x).length : Int), true) := by
        have := getNum_put [9] [IntKind.u8.wrap y] x (by omega) hx1
        rw [List.append_assoc]
        exact this
      have v12 : Li eByte n H12 v l := v8.keep' fun i o a c e => by
        have := v8.2 i o a c e
        exact e3 i (by omega) (by omega) (by omega)
      obtain ⟨s, hs, H17, n17, h1, h2, h3⟩ := k24 (v12.up (show n ≤ n13 + 3 by omega)) hb hl'
      obtain ⟨u, H18, n18, i1, i2, i3, i4⟩ := k15 s (by omega) H17 (n17 + 3)
      have v18 : Li eByte n H18 v l := (v12.keep h2 (by omega)).keep i2 (by omega)
      have ptl : (putText s).length ≤ 9 + s.size := by
        unfold putText; rw [List.length_append, numsOf_length]; have := putNum_len s.size (by omega); omega
      have at19 : At eByte n18 (H18.set n18 (some (.row [] 1 true))) (sl n18 0 0) [] := .inr ⟨rfl, Hp_same _ _ _⟩
      have u2 : Li eByte n18 (H18.set n18 (some (.row [] 1 true))) u (putText s) := by
        rcases i4 with ⟨rfl, h0⟩ | ⟨id, j1, j2, j3, j4⟩
        · rw [h0]; exact Li.nil
        · rw [j3]
          exact ⟨View.new (by rw [Hp_ne _ _ (by omega), j4, bytesV_flat]) (flat_len eByte _), fun i o a c e => by cases e; exact j2⟩
      obtain ⟨p20, H20, k1, k2, k3⟩ := app_at (id2 := n18 + 2) (bytes := 1) at19 (src_lst u2) (by decide) (by simp; omega)
      have v20 : Li eByte n H20 v l := v18.keep' fun i o a c e => by
        have := v18.2 i o a c e
        rw [k3 i (by omega) (by omega), Hp_ne _ _ (by omega)]
      obtain ⟨z, n21, l1, l2⟩ := k23 (v20.up (show n ≤ n18 + 16 by omega)) hl' 2 (by decide)
      have g3 := bsl_one eByte (IntKind.u8.wrap z) (n18 + 6) [.int .u8 0] (.int .u8 (IntKind.u8.wrap z)) H20 rfl rfl (by decide)
      obtain ⟨H24, m1, m2, m3⟩ := app_one (id1 := n18 + 6) (id2 := n18 + 7) (bytes := 1) (IntKind.u8.wrap z) k2 (by omega) (by decide) (by simp; omega)
      have li24 : Li eByte n21 H24 (sl (n18 + 7) 0 (([] ++ putText s) ++ [IntKind.u8.wrap z]).length) (([] ++ putText s) ++ [IntKind.u8.wrap z]) := (show At eByte (n18 + 7) H24 _ _ from .inr ⟨rfl, m2⟩).lst (by omega)
      obtain ⟨n25, o1, o2⟩ := k20 li24 (by simp; omega) (by
        intro c hc
        simp only [List.nil_append, List.mem_append, List.mem_cons, List.not_mem_nil, or_false] at hc
        rcases hc with hc | rfl
        · unfold putText at hc
          rcases List.mem_append.1 hc with hc | hc
          · exact putNum_ok _ c hc
          · exact nums_ok s c hc
        · exact u8_rng z) 0 n21
      have ht : getText (([] ++ putText s) ++ [IntKind.u8.wrap z]) 0 = (s, ((putText s).length : Int), true) := getText_put _ s (by omega)
      have wl : lenV false w = some (.int .i64 (putNum x).length) := b4.view.len
      have ul : lenV false u = some (.int .i64 (putText s).length) := i4.view.len
      have ww : IntKind.i64.wrap (1 + ((putNum x).length : Int)) = 1 + ((putNum x).length : Int) := w64 (by omega)
      rw [hg] at f2
      rw [ht] at o2
      apply Wp.val
      (repeat (first | (apply Wp.step; case h => ((try simp only [↓reduceIte, ↓csel_bool, ↓gsel_true, ↓gsel_false, ↓thenK_normal, ↓thenK_ret, ↓thenK_exit, argsT_at, List.getD_cons_zero, List.getD_cons_succ, Option.bind_some, Option.bind_none, put_at, pickV_bool, un_not, un_neg, b_eql, b_neq, i_add, i_sub, i_mul, i_quo, i_rem, i_eql, i_neq, i_lss, i_leq, i_gtr, i_geq, t_eql, t_neq, len_str, len_sl, outOf_exit, finE, decide_eq_true_eq, Nat.reduceEqDiff, Bool.false_eq_true, Bool.not_true, Bool.not_false, decide_true, decide_false, if_true, if_false, ne_eq, not_true_eq_false, not_false_eq_true, conv_i, conv_ss, Int.reduceEq, partV_c, partV_a, ext_tup, nilchk_ptr, fieldA_ptr, iteK, List.all_cons, List.all_nil, notTup, Bool.and_self, List.getElem?_cons_zero, List.getElem?_cons_succ, Nat.reduceAdd, Bool.not_eq_true, Bool.not_eq_false, decide_eq_false_iff_not, Nat.reduceSub, Nat.zero_add, Nat.add_zero, hbig, hl, a3, b3, hx, g1, c1, d2, g2, e1, f2, h3, i3, bsl_zero, k1, l2, g3, m1, o2, wl, ww, ul]); with_reducible exact rfl)) | (apply Wp.cselT; case h => (simp only [↓reduceIte, ↓csel_bool, ↓gsel_true, ↓gsel_false, ↓thenK_normal, ↓thenK_ret, ↓thenK_exit, argsT_at, List.getD_cons_zero, List.getD_cons_succ, Option.bind_some, Option.bind_none, put_at, pickV_bool, un_not, un_neg, b_eql, b_neq, i_add, i_sub, i_mul, i_quo, i_rem, i_eql, i_neq, i_lss, i_leq, i_gtr, i_geq, t_eql, t_neq, len_str, len_sl, outOf_exit, finE, decide_eq_true_eq, Nat.reduceEqDiff, Bool.false_eq_true, Bool.not_true, Bool.not_false, decide_true, decide_false, if_true, if_false, ne_eq, not_true_eq_false, not_false_eq_true, conv_i, conv_ss, Int.reduceEq, partV_c, partV_a, ext_tup, nilchk_ptr, fieldA_ptr, iteK, List.all_cons, List.all_nil, notTup, Bool.and_self, List.getElem?_cons_zero, List.getElem?_cons_succ, Nat.reduceAdd, Bool.not_eq_true, Bool.not_eq_false, decide_eq_false_iff_not, Nat.reduceSub, Nat.zero_add, Nat.add_zero, hbig, hl, a3, b3, hx, g1, c1, d2, g2, e1, f2, h3, i3, bsl_zero, k1, l2, g3, m1, o2, wl, ww, ul])) | (apply Wp.cselF; case h => (simp only [↓reduceIte, ↓csel_bool, ↓gsel_true, ↓gsel_false, ↓thenK_normal, ↓thenK_ret, ↓thenK_exit, argsT_at, List.getD_cons_zero, List.getD_cons_succ, Option.bind_some, Option.bind_none, put_at, pickV_bool, un_not, un_neg, b_eql, b_neq, i_add, i_sub, i_mul, i_quo, i_rem, i_eql, i_neq, i_lss, i_leq, i_gtr, i_geq, t_eql, t_neq, len_str, len_sl, outOf_exit, finE, decide_eq_true_eq, Nat.reduceEqDiff, Bool.false_eq_true, Bool.not_true, Bool.not_false, decide_true, decide_false, if_true, if_false, ne_eq, not_true_eq_false, not_false_eq_true, conv_i, conv_ss, Int.reduceEq, partV_c, partV_a, ext_tup, nilchk_ptr, fieldA_ptr, iteK, List.all_cons, List.all_nil, notTup, Bool.and_self, List.getElem?_cons_zero, List.getElem?_cons_succ, Nat.reduceAdd, Bool.not_eq_true, Bool.not_eq_false, decide_eq_false_iff_not, Nat.reduceSub, Nat.zero_add, Nat.add_zero, hbig, hl, a3, b3, hx, g1, c1, d2, g2, e1, f2, h3, i3, bsl_zero, k1, l2, g3, m1, o2, wl, ww, ul])) | (apply Wp.askT; case h => (simp only [↓reduceIte, ↓csel_bool, ↓gsel_true, ↓gsel_false, ↓thenK_normal, ↓thenK_ret, ↓thenK_exit, argsT_at, List.getD_cons_zero, List.getD_cons_succ, Option.bind_some, Option.bind_none, put_at, pickV_bool, un_not, un_neg, b_eql, b_neq, i_add, i_sub, i_mul, i_quo, i_rem, i_eql, i_neq, i_lss, i_leq, i_gtr, i_geq, t_eql, t_neq, len_str, len_sl, outOf_exit, finE, decide_eq_true_eq, Nat.reduceEqDiff, Bool.false_eq_true, Bool.not_true, Bool.not_false, decide_true, decide_false, if_true, if_false, ne_eq, not_true_eq_false, not_false_eq_true, conv_i, conv_ss, Int.reduceEq, partV_c, partV_a, ext_tup, nilchk_ptr, fieldA_ptr, iteK, List.all_cons, List.all_nil, notTup, Bool.and_self, List.getElem?_cons_zero, List.getElem?_cons_succ, Nat.reduceAdd, Bool.not_eq_true, Bool.not_eq_false, decide_eq_false_iff_not, Nat.reduceSub, Nat.zero_add, Nat.add_zero, hbig, hl, a3, b3, hx, g1, c1, d2, g2, e1, f2, h3, i3, bsl_zero, k1, l2, g3, m1, o2, wl, ww, ul])) | (apply Wp.iteKT; case h => (simp only [↓reduceIte, ↓csel_bool, ↓gsel_true, ↓gsel_false, ↓thenK_normal, ↓thenK_ret, ↓thenK_exit, argsT_at, List.getD_cons_zero, List.getD_cons_succ, Option.bind_some, Option.bind_none, put_at, pickV_bool, un_not, un_neg, b_eql, b_neq, i_add, i_sub, i_mul, i_quo, i_rem, i_eql, i_neq, i_lss, i_leq, i_gtr, i_geq, t_eql, t_neq, len_str, len_sl, outOf_exit, finE, decide_eq_true_eq, Nat.reduceEqDiff, Bool.false_eq_true, Bool.not_true, Bool.not_false, decide_true, decide_false, if_true, if_false, ne_eq, not_true_eq_false, not_false_eq_true, conv_i, conv_ss, Int.reduceEq, partV_c, partV_a, ext_tup, nilchk_ptr, fieldA_ptr, iteK, List.all_cons, List.all_nil, notTup, Bool.and_self, List.getElem?_cons_zero, List.getElem?_cons_succ, Nat.reduceAdd, Bool.not_eq_true, Bool.not_eq_false, decide_eq_false_iff_not, Nat.reduceSub, Nat.zero_add, Nat.add_zero, hbig, hl, a3, b3, hx, g1, c1, d2, g2, e1, f2, h3, i3, bsl_zero, k1, l2, g3, m1, o2, wl, ww, ul]))))
      exact Wp.pure rfl
end Go.Proofs.Ytpkaeflmonpliaa.Ax
