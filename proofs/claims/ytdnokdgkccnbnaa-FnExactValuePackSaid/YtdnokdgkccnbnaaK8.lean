/- Contracts: pools, copied, compared and weighed. -/
import Derived.Test.YtdnokdgkccnbnaaAy6
import Derived.Test.YtdnokdgkccnbnaaSh
set_option linter.unusedVariables false
set_option linter.unusedSimpArgs false
namespace Go.Proofs.Ytdnokdgkccnbnaa.Ax
open Go
theorem k49 (x : Nd) (left : Int) (hx : x.s.size ≤ 9223372036854775807) (hl : 0 ≤ left ∧ left ≤ 9000000000000000000) (H : Hp) (n : Nat) : Rt Try.prog 49 [.agg ⟨x.cells⟩, .int .i64 left] H n (.int .i64 (if left - x.s.size < 0 then -1 else left - x.s.size)) := by
  unfold Rt
  rw [c49]; unfold S49
  have hw : IntKind.i64.wrap (left - (x.s.size : Int)) = left - x.s.size := w64 (by omega)
  simp (disch := omega) only [↓reduceIte, ask_true, ↓X0, X1, Nat.reduceEqDiff, Int.reduceEq, Nat.reduceAdd, Nat.reduceSub, vcells_agg, Nd.cells, ld_set, hw]
  by_cases h : left - (x.s.size : Int) < 0
  · simp (disch := omega) only [↓reduceIte, ask_true, ↓X0, X1, Nat.reduceEqDiff, Int.reduceEq, Nat.reduceAdd, Nat.reduceSub, h]
    exact ⟨_, _, by omega, (Same.refl _ _).set (Nat.le_refl _) _, rfl⟩
  · simp (disch := omega) only [↓reduceIte, ask_true, ↓X0, X1, Nat.reduceEqDiff, Int.reduceEq, Nat.reduceAdd, Nat.reduceSub, h]
    exact ⟨_, _, by omega, (Same.refl _ _).set (Nat.le_refl _) _, rfl⟩
theorem l23 {n0 : Nat} {H0 : Hp} {v : Value} {l : List Nd} (hv : Li eNode n0 H0 v l) (hs : ∀ x ∈ l, x.s.size ≤ 9223372036854775807) (hl : l.length ≤ 1048576) (m : Int) (hm : m ≤ 1048576) : ∀ t n, n0 ≤ n → t 0 = v → t 5 = .int .i64 0 → t 1 = .int .i64 m → 0 ≤ m →
    Wp (Loop (S23L0 (Call Try.prog) Loop) t H0 n) (fun o => n ≤ o.n ∧ Same n0 H0 o.H ∧ ((o.e = .exit 0 ∧ ∃ r : Int, 0 ≤ r ∧ r ≤ m ∧ o.t 1 = .int .i64 r ∧ ∀ x ∈ l, (x.s.size : Int) ≤ m) ∨ (o.e = .ret ∧ o.t 4 = .int .i64 (-1)))) := by
  intro t n hn0 e0 e5 e1 hm0
  refine Loop_rule (fun d t H n' => ∃ (j : Nat) (r : Int), j + d = l.length ∧ n ≤ n' ∧ Same n0 H0 H ∧ t 0 = v ∧ t 5 = .int .i64 j ∧ t 1 = .int .i64 r ∧ 0 ≤ r ∧ r ≤ m ∧ ∀ x ∈ l.take j, (x.s.size : Int) ≤ m) _ ?_ l.length t H0 n ⟨0, m, by omega, by omega, Same.refl _ _, e0, e5, e1, hm0, by omega, by simp⟩
  rintro d t H n' ⟨j, r, hj, hn, hsm, e0, e5, e1, hr0, hr1, hx⟩
  unfold S23L0
  have hv' := hv.keep hsm (Nat.le_refl _)
  by_cases hlt : (j : Int) < l.length
  · have hlt' : j < l.length := by omega
    have g := hv'.nAll (by omega) hlt
    have hmem := gi_mem (l := l) (by omega) hlt
    obtain ⟨H1, n1, a1, a2, a3⟩ := k49 (gi l (j : Int)) r (hs _ hmem) (by omega) H (n' + 11)
    by_cases h : r - ((gi l (j : Int)).s.size : Int) < 0
    · (((repeat (first | (with_reducible apply Wp.step; case h => ((try simp (disch := omega) only [↓reduceIte, ask_true, ↓X0, X1, Nat.reduceEqDiff, Int.reduceEq, Nat.reduceAdd, Nat.reduceSub, e0, e5, e1, hv'.len, hlt, g, a3, h]); with_reducible exact rfl)) | (apply Wp.andS) | (apply Wp.orS) | ((with_reducible first | apply Wp.gs | apply Wp.cs | apply Wp.cselX | apply Wp.askT | apply Wp.iteKT | apply Wp.ikb | apply Wp.askb); case h => ((try simp (disch := omega) only [↓reduceIte, ask_true, ↓X0, X1, Nat.reduceEqDiff, Int.reduceEq, Nat.reduceAdd, Nat.reduceSub, e0, e5, e1, hv'.len, hlt, g, a3, h]); (with_reducible first | done | exact bT | exact bF))) | (with_reducible apply Wp.gu) | (simp only [↓X3]) | (with_reducible apply Wp.assoc))); try simp only [outOf_exit, outOf_ret]); try (with_reducible apply Wp.cargs; case h => ((try simp (disch := omega) only [↓reduceIte, ask_true, ↓X0, X1, Nat.reduceEqDiff, Int.reduceEq, Nat.reduceAdd, Nat.reduceSub, e0, e5, e1, hv'.len, hlt, g, a3, h]); with_reducible exact rfl)))
      exact Wp.pure (Nxt.ret ⟨by simp only; omega, hsm.trans (a2.less (show n0 ≤ n' + 11 by omega)) (Nat.le_refl _), .inr ⟨rfl, by simp [put_at]⟩⟩)
    · have hw := wj (j := j) (len := l.length) hlt' (by omega)
      (((repeat (first | (with_reducible apply Wp.step; case h => ((try simp (disch := omega) only [↓reduceIte, ask_true, ↓X0, X1, Nat.reduceEqDiff, Int.reduceEq, Nat.reduceAdd, Nat.reduceSub, e0, e5, e1, hv'.len, hlt, g, a3, h, hw]); with_reducible exact rfl)) | (apply Wp.andS) | (apply Wp.orS) | ((with_reducible first | apply Wp.gs | apply Wp.cs | apply Wp.cselX | apply Wp.askT | apply Wp.iteKT | apply Wp.ikb | apply Wp.askb); case h => ((try simp (disch := omega) only [↓reduceIte, ask_true, ↓X0, X1, Nat.reduceEqDiff, Int.reduceEq, Nat.reduceAdd, Nat.reduceSub, e0, e5, e1, hv'.len, hlt, g, a3, h, hw]); (with_reducible first | done | exact bT | exact bF))) | (with_reducible apply Wp.gu) | (simp only [↓X3]) | (with_reducible apply Wp.assoc))); try simp only [outOf_exit, outOf_ret]); try (with_reducible apply Wp.cargs; case h => ((try simp (disch := omega) only [↓reduceIte, ask_true, ↓X0, X1, Nat.reduceEqDiff, Int.reduceEq, Nat.reduceAdd, Nat.reduceSub, e0, e5, e1, hv'.len, hlt, g, a3, h, hw]); with_reducible exact rfl)))
      refine Wp.pure (Nxt.go (d - 1) (by omega) ⟨j + 1, r - (gi l (j : Int)).s.size, by omega, by omega, hsm.trans (a2.less (show n0 ≤ n' + 11 by omega)) (Nat.le_refl _), by simp [put_at, e0], by simp [put_at], by simp [put_at], by omega, by omega, ?_⟩)
      intro x hx'
      rw [take_next hlt'] at hx'
      rcases List.mem_append.1 hx' with h' | h'
      · exact hx x h'
      · simp only [List.mem_cons, List.not_mem_nil, or_false] at h'
        rw [h', ← gi_nat hlt']; omega
  · (((repeat (first | (with_reducible apply Wp.step; case h => ((try simp (disch := omega) only [↓reduceIte, ask_true, ↓X0, X1, Nat.reduceEqDiff, Int.reduceEq, Nat.reduceAdd, Nat.reduceSub, e0, e5, e1, hv'.len, hlt]); with_reducible exact rfl)) | (apply Wp.andS) | (apply Wp.orS) | ((with_reducible first | apply Wp.gs | apply Wp.cs | apply Wp.cselX | apply Wp.askT | apply Wp.iteKT | apply Wp.ikb | apply Wp.askb); case h => ((try simp (disch := omega) only [↓reduceIte, ask_true, ↓X0, X1, Nat.reduceEqDiff, Int.reduceEq, Nat.reduceAdd, Nat.reduceSub, e0, e5, e1, hv'.len, hlt]); (with_reducible first | done | exact bT | exact bF))) | (with_reducible apply Wp.gu) | (simp only [↓X3]) | (with_reducible apply Wp.assoc))); try simp only [outOf_exit, outOf_ret]); try (with_reducible apply Wp.cargs; case h => ((try simp (disch := omega) only [↓reduceIte, ask_true, ↓X0, X1, Nat.reduceEqDiff, Int.reduceEq, Nat.reduceAdd, Nat.reduceSub, e0, e5, e1, hv'.len, hlt]); with_reducible exact rfl)))
    rw [List.take_of_length_le (by omega)] at hx
    exact Wp.pure (Nxt.exit ⟨by simp only; omega, hsm, .inl ⟨rfl, r, hr0, hr1, by simp [put_at, e1], hx⟩⟩)
/-- What a weighed list of nodes is. -/
def Light (l : List Nd) (left r : Int) : Prop := -1 ≤ r ∧ r ≤ left ∧ (0 ≤ r → (l.length : Int) ≤ left ∧ ∀ x ∈ l, (x.s.size : Int) ≤ left)
theorem k23 {n : Nat} {H : Hp} {v : Value} {l : List Nd} (hv : Li eNode n H v l) (hs : ∀ x ∈ l, x.s.size ≤ 9223372036854775807) (hl : l.length ≤ 9223372036854775807) (left : Int) (hleft : 0 ≤ left ∧ left ≤ 1048576) : ∃ r, Light l left r ∧ Rt Try.prog 23 [v, .int .i64 left] H n (.int .i64 r) := by
  unfold Rt Light
  rw [c23]; unfold S23
  have hw : IntKind.i64.wrap (left - (l.length : Int)) = left - l.length := w64 (by omega)
  by_cases h : left - (l.length : Int) < 0
  · refine ⟨-1, ⟨by omega, by omega, fun h => by omega⟩, ?_⟩
    simp (disch := omega) only [↓reduceIte, ask_true, ↓X0, X1, Nat.reduceEqDiff, Int.reduceEq, Nat.reduceAdd, Nat.reduceSub, hv.len, hw, h]
    exact ⟨_, _, by omega, Same.refl _ _, rfl⟩
  · simp (disch := omega) only [↓reduceIte, ask_true, ↓X0, X1, Nat.reduceEqDiff, Int.reduceEq, Nat.reduceAdd, Nat.reduceSub, hv.len, hw, h]
    generalize hT : put _ _ _ = T
    obtain ⟨⟨oe, ot, oH, on⟩, f1, f2, f3, f4⟩ := l23 hv hs (by omega) (left - l.length) (by omega) T (n + 9) (by omega) (by rw [← hT]; simp [put_at, argsT_at]) (by rw [← hT]; simp [put_at]) (by rw [← hT]; simp [put_at]) (by omega)
    simp only at f2 f3 f4
    rw [f1]
    rcases f4 with ⟨rfl, r, f4, f5, f6, f7⟩ | ⟨rfl, f4⟩
    · refine ⟨r, ⟨by omega, by omega, fun _ => ⟨by omega, fun x hx => by have := f7 x hx; omega⟩⟩, ?_⟩
      simp (disch := omega) only [↓reduceIte, ask_true, ↓X0, X1, Nat.reduceEqDiff, Int.reduceEq, Nat.reduceAdd, Nat.reduceSub, outOf, f6]
      exact ⟨_, _, by omega, f3, rfl⟩
    · refine ⟨-1, ⟨by omega, by omega, fun h => by omega⟩, ?_⟩
      simp (disch := omega) only [↓reduceIte, ask_true, ↓X0, X1, Nat.reduceEqDiff, Int.reduceEq, Nat.reduceAdd, Nat.reduceSub, outOf, f4]
      exact ⟨_, _, by omega, f3, rfl⟩
theorem k7 {n : Nat} {H : Hp} {v : Value} {l : List Nd} (hv : Li eNode n H v l) (hs : ∀ x ∈ l, x.s.size ≤ 9223372036854775807) (hl : l.length ≤ 9223372036854775807) (left : Int) (hleft : 0 ≤ left ∧ left ≤ 1048576) : ∃ r, Light l left r ∧ Rt Try.prog 7 [.agg ⟨[v]⟩, .int .i64 left] H n (.int .i64 r) := by
  unfold Rt
  rw [c7]; unfold S7
  have s1 : Same n H (H.set n (some (.row [v] 0 true))) := (Same.refl _ _).set (Nat.le_refl _) _
  obtain ⟨r, hr, H1, n1, a1, a2, a3⟩ := k23 ((hv.keep s1 (Nat.le_refl _)).up (show n ≤ n + 7 by omega)) hs hl left hleft
  have s2 := s1.trans (a2.less (show n ≤ n + 7 by omega)) (Nat.le_refl _)
  refine ⟨r, hr, ?_⟩
  by_cases h : r < 0
  · have : r = -1 := by have := hr.1; omega
    subst this
    simp (disch := omega) only [↓reduceIte, ask_true, ↓X0, X1, Nat.reduceEqDiff, Int.reduceEq, Nat.reduceAdd, Nat.reduceSub, vcells_agg, ld_set, a3, h]
    exact ⟨_, _, by omega, s2, rfl⟩
  · simp (disch := omega) only [↓reduceIte, ask_true, ↓X0, X1, Nat.reduceEqDiff, Int.reduceEq, Nat.reduceAdd, Nat.reduceSub, vcells_agg, ld_set, a3, h]
    exact ⟨_, _, by omega, s2, rfl⟩
theorem k53 (x : Nd) (H : Hp) (n : Nat) : Rt Try.prog 53 [.agg ⟨x.cells⟩] H n (.agg ⟨x.cells⟩) := by
  unfold Rt
  rw [c53]; unfold S53
  simp (disch := omega) only [↓reduceIte, ask_true, ↓X0, X1, Nat.reduceEqDiff, Int.reduceEq, Nat.reduceAdd, Nat.reduceSub, X2, Hp_ne, Nat.reduceLeDiff, Nd.cells]
  refine ⟨_, _, ?_, ?_, rfl⟩
  · omega
  · (repeat (first | exact Same.refl _ _ | refine Same.set ?_ (by omega) _))
theorem l27 {n0 id : Nat} {H0 : Hp} {v : Value} {l : List Nd} (hv : Li eNode n0 H0 v l) (hid : n0 ≤ id) (hl : l.length ≤ 100000000) : ∀ t H n, id < n → Same n0 H0 H → t 0 = v → t 3 = sl id 0 l.length → t 4 = .int .i64 0 → H id = some (.row ((List.replicate l.length (default : Nd)).flatMap eNode.cells) 5 true) →
    Wp (Loop (S27L0 (Call Try.prog) Loop) t H n) (fun o => n ≤ o.n ∧ Same n0 H0 o.H ∧ o.e = .exit 0 ∧ o.t 3 = sl id 0 l.length ∧ o.H id = some (.row (l.flatMap eNode.cells) 5 true)) := by
  intro t H n hn0 hsm e0 e3 e4 hH
  refine Loop_rule (fun d t H n' => ∃ (j : Nat), j + d = l.length ∧ n ≤ n' ∧ Same n0 H0 H ∧ t 0 = v ∧ t 3 = sl id 0 l.length ∧ t 4 = .int .i64 j ∧ H id = some (.row ((l.take j ++ List.replicate d (default : Nd)).flatMap eNode.cells) 5 true)) _ ?_ l.length t H n ⟨0, by omega, by omega, hsm, e0, e3, e4, by simpa using hH⟩
  rintro d t H n' ⟨j, hj, hn, hsm, e0, e3, e4, hH⟩
  unfold S27L0
  have hv' := hv.keep hsm (Nat.le_refl _)
  by_cases hlt : (j : Int) < l.length
  · have hlt' : j < l.length := by omega
    obtain ⟨d, rfl⟩ : ∃ d', d = d' + 1 := ⟨d - 1, by omega⟩
    have g := hv'.nAll (by omega) hlt
    have hw := wj (j := j) (len := l.length) hlt' (by omega)
    obtain ⟨H1, n1, a1, a2, a3⟩ := k53 (gi l (j : Int)) H (n' + 13)
    have hix : idxA 5 (sl id 0 l.length) (.int .i64 j) = some (ptr id (j * 5)) := by simp [idxA, hlt']
    have hst : st true 5 (ptr id (j * 5)) (.agg ⟨(gi l (j : Int)).cells⟩) H1 = some (H1.set id (some (.row ((l.take (j + 1) ++ List.replicate d (default : Nd)).flatMap eNode.cells) 5 true))) := by
      rw [st_agg, if_pos (show (gi l (j : Int)).cells.length = 5 from rfl)]
      have hH1 : H1 id = some (.row ((l.take j ++ List.replicate (d + 1) (default : Nd)).flatMap eNode.cells) 5 true) := by rw [a2 id (by omega)]; exact hH
      have := st_el (E := eNode) hH1 (j := j) (by simp; omega) (gi l (j : Int))
      have hset : (l.take j ++ List.replicate (d + 1) (default : Nd)).set j (gi l (j : Int)) = l.take (j + 1) ++ List.replicate d default := by
        rw [take_next hlt', gi_nat hlt', List.replicate_succ, List.set_append_right _ _ (by rw [List.length_take]; omega)]
        rw [List.length_take, Nat.min_eq_left (by omega), Nat.sub_self, List.set_cons_zero, List.append_assoc]
        rfl
      rw [hset] at this
      exact this
    (((repeat (first | (with_reducible apply Wp.step; case h => ((try simp (disch := omega) only [↓reduceIte, ask_true, ↓X0, X1, Nat.reduceEqDiff, Int.reduceEq, Nat.reduceAdd, Nat.reduceSub, e0, e3, e4, hv'.len, hlt, g, a3, hix, hst, hw]); with_reducible exact rfl)) | (apply Wp.andS) | (apply Wp.orS) | ((with_reducible first | apply Wp.gs | apply Wp.cs | apply Wp.cselX | apply Wp.askT | apply Wp.iteKT | apply Wp.ikb | apply Wp.askb); case h => ((try simp (disch := omega) only [↓reduceIte, ask_true, ↓X0, X1, Nat.reduceEqDiff, Int.reduceEq, Nat.reduceAdd, Nat.reduceSub, e0, e3, e4, hv'.len, hlt, g, a3, hix, hst, hw]); (with_reducible first | done | exact bT | exact bF))) | (with_reducible apply Wp.gu) | (simp only [↓X3]) | (with_reducible apply Wp.assoc))); try simp only [outOf_exit, outOf_ret]); try (with_reducible apply Wp.cargs; case h => ((try simp (disch := omega) only [↓reduceIte, ask_true, ↓X0, X1, Nat.reduceEqDiff, Int.reduceEq, Nat.reduceAdd, Nat.reduceSub, e0, e3, e4, hv'.len, hlt, g, a3, hix, hst, hw]); with_reducible exact rfl)))
    exact Wp.pure (Nxt.go d (by omega) ⟨j + 1, by omega, by omega, (hsm.trans (a2.less (show n0 ≤ n' + 13 by omega)) (Nat.le_refl _)).set hid _, by simp [put_at, e0], by simp [put_at, e3], by simp [put_at], Hp_same _ _ _⟩)
  · (((repeat (first | (with_reducible apply Wp.step; case h => ((try simp (disch := omega) only [↓reduceIte, ask_true, ↓X0, X1, Nat.reduceEqDiff, Int.reduceEq, Nat.reduceAdd, Nat.reduceSub, e0, e3, e4, hv'.len, hlt]); with_reducible exact rfl)) | (apply Wp.andS) | (apply Wp.orS) | ((with_reducible first | apply Wp.gs | apply Wp.cs | apply Wp.cselX | apply Wp.askT | apply Wp.iteKT | apply Wp.ikb | apply Wp.askb); case h => ((try simp (disch := omega) only [↓reduceIte, ask_true, ↓X0, X1, Nat.reduceEqDiff, Int.reduceEq, Nat.reduceAdd, Nat.reduceSub, e0, e3, e4, hv'.len, hlt]); (with_reducible first | done | exact bT | exact bF))) | (with_reducible apply Wp.gu) | (simp only [↓X3]) | (with_reducible apply Wp.assoc))); try simp only [outOf_exit, outOf_ret]); try (with_reducible apply Wp.cargs; case h => ((try simp (disch := omega) only [↓reduceIte, ask_true, ↓X0, X1, Nat.reduceEqDiff, Int.reduceEq, Nat.reduceAdd, Nat.reduceSub, e0, e3, e4, hv'.len, hlt]); with_reducible exact rfl)))
    have hd : d = 0 := by omega
    subst hd
    rw [List.take_of_length_le (by omega)] at hH
    exact Wp.pure (Nxt.exit ⟨Nat.le_trans hn (Nat.le_add_right _ _), hsm, rfl, by simp [put_at, e3], by simpa using hH⟩)
theorem k27 {n : Nat} {H : Hp} {v : Value} {l : List Nd} (hv : Li eNode n H v l) (hl : l.length ≤ 100000000) : RtN Try.prog 27 [v] H n (fun w H' n' => New eNode n n' H' w l) := by
  unfold RtN
  rw [c27]; unfold S27
  have hm := mks_new eNode (default : Nd) (id := n + 3) (bytes := 48) (k := l.length) H (by decide) (by omega)
  have hz : eNode.cells (default : Nd) = [.int .i64 0, .int .i64 0, .string ⟨#[]⟩, .int .i64 0, .int .i64 0] := rfl
  rw [hz] at hm
  simp (disch := omega) only [↓reduceIte, ask_true, ↓X0, X1, Nat.reduceEqDiff, Int.reduceEq, Nat.reduceAdd, Nat.reduceSub, hv.len, hm]
  generalize hT : put _ _ _ = T
  obtain ⟨⟨oe, ot, oH, on⟩, f1, f2, f3, f4, f5, f6⟩ := l27 (id := n + 3) hv (by omega) hl T (H.set (n + 3) (some (.row ((List.replicate l.length (default : Nd)).flatMap eNode.cells) 5 true))) (n + 6) (by omega) ((Same.refl _ _).set (by omega) _) (by rw [← hT]; simp [put_at, argsT_at]) (by rw [← hT]; simp [put_at]) (by rw [← hT]; simp [put_at]) (Hp_same _ _ _)
  simp only at f2 f3 f4 f5 f6
  rw [f1]
  simp (disch := omega) only [↓reduceIte, ask_true, ↓X0, X1, Nat.reduceEqDiff, Int.reduceEq, Nat.reduceAdd, Nat.reduceSub, f5]
  exact ⟨_, _, _, by omega, f3, rfl, n + 3, by omega, by omega, .inr ⟨rfl, f6⟩⟩
theorem k9 {n : Nat} {H : Hp} {v : Value} {l : List Nd} (hv : Li eNode n H v l) (hl : l.length ≤ 100000000) : RtN Try.prog 9 [.agg ⟨[v]⟩] H n (fun w H' n' => ∃ u, w = .agg ⟨[u]⟩ ∧ New eNode n n' H' u l) := by
  unfold RtN
  rw [c9]; unfold S9
  have s1 : Same n H (((H.set n (some (.row [v] 0 true))).set (n + 1) (some (.row [nilS] 0 true))).set (n + 2) (some (.row [nilS] 0 true))) := by (repeat (first | exact Same.refl _ _ | refine Same.set ?_ (by omega) _))
  obtain ⟨u, H1, n1, a1, a2, a3, id, a4, a5, a6⟩ := k27 ((hv.keep s1 (Nat.le_refl _)).up (show n ≤ n + 8 by omega)) hl
  have h2 : H1 (n + 2) = some (.row [nilS] 0 true) := by rw [a2 _ (by omega)]; exact Hp_same _ _ _
  have h1 : H1 (n + 1) = some (.row [nilS] 0 true) := by rw [a2 _ (by omega), Hp_ne _ _ (by omega), Hp_same]
  simp (disch := omega) only [↓reduceIte, ask_true, ↓X0, X1, Nat.reduceEqDiff, Int.reduceEq, Nat.reduceAdd, Nat.reduceSub, X2, Hp_ne, Nat.reduceLeDiff, a3, st_c a6.cell, h1, h2]
  refine ⟨_, _, _, ?_, ?_, rfl, u, rfl, id, ?_, ?_, ?_⟩
  · omega
  · exact ((s1.trans (a2.less (show n ≤ n + 8 by omega)) (Nat.le_refl _)).set (by omega) _).set (by omega) _
  · omega
  · omega
  · exact a6.keep (by rw [Hp_ne _ _ (by omega), Hp_ne _ _ (by omega)])
theorem k58 (x y : Nd) (H : Hp) (n : Nat) : Rt Try.prog 58 [.agg ⟨x.cells⟩, .agg ⟨y.cells⟩] H n (.bool (decide (x = y))) := by
  unfold Rt
  rw [c58]; unfold S58
  have hxy : (x = y) = (x.k = y.k ∧ x.n = y.n ∧ x.s = y.s ∧ x.a = y.a ∧ x.b = y.b) := by
    apply propext; constructor
    · rintro rfl; exact ⟨rfl, rfl, rfl, rfl, rfl⟩
    · rintro ⟨a, b, c, d, e⟩; cases x; cases y; simp_all
  have fin : ∀ (b : Bool) (c : Nat), ∃ H' n', n ≤ n' ∧ Same n H H' ∧ some (Value.bool b, (H.set n (some (.row x.cells 0 true))).set (n + 1) (some (.row y.cells 0 true)), n + c) = some (Value.bool b, H', n') := by
    intro b c
    refine ⟨_, _, ?_, ?_, rfl⟩
    · omega
    · (repeat (first | exact Same.refl _ _ | refine Same.set ?_ (by omega) _))
  by_cases h1 : x.k = y.k
  · by_cases h2 : x.n = y.n
    · by_cases h3 : x.s = y.s
      · by_cases h4 : x.a = y.a
        · by_cases h5 : x.b = y.b
          · simp (disch := omega) only [↓reduceIte, ask_true, ↓X0, X1, Nat.reduceEqDiff, Int.reduceEq, Nat.reduceAdd, Nat.reduceSub, X2, Hp_ne, Nat.reduceLeDiff, Nd.cells, h1, h2, h3, h4, h5, hxy, and_self, and_true, true_and]
            simpa [Nd.cells, h1, h2, h3, h4, h5] using fin true 29
          · simp (disch := omega) only [↓reduceIte, ask_true, ↓X0, X1, Nat.reduceEqDiff, Int.reduceEq, Nat.reduceAdd, Nat.reduceSub, X2, Hp_ne, Nat.reduceLeDiff, Nd.cells, h1, h2, h3, h4, h5, hxy, and_self, and_false]
            simpa [Nd.cells, h1, h2, h3, h4, h5] using fin false 29
        · simp (disch := omega) only [↓reduceIte, ask_true, ↓X0, X1, Nat.reduceEqDiff, Int.reduceEq, Nat.reduceAdd, Nat.reduceSub, X2, Hp_ne, Nat.reduceLeDiff, Nd.cells, h1, h2, h3, h4, hxy, and_self, and_false, false_and]
          simpa [Nd.cells, h1, h2, h3] using fin false 24
      · simp (disch := omega) only [↓reduceIte, ask_true, ↓X0, X1, Nat.reduceEqDiff, Int.reduceEq, Nat.reduceAdd, Nat.reduceSub, X2, Hp_ne, Nat.reduceLeDiff, Nd.cells, h1, h2, h3, hxy, and_self, and_false, false_and]
        simpa [Nd.cells, h1, h2] using fin false 19
    · simp (disch := omega) only [↓reduceIte, ask_true, ↓X0, X1, Nat.reduceEqDiff, Int.reduceEq, Nat.reduceAdd, Nat.reduceSub, X2, Hp_ne, Nat.reduceLeDiff, Nd.cells, h1, h2, hxy, and_self, and_false, false_and]
      simpa [Nd.cells, h1] using fin false 14
  · simp (disch := omega) only [↓reduceIte, ask_true, ↓X0, X1, Nat.reduceEqDiff, Int.reduceEq, Nat.reduceAdd, Nat.reduceSub, X2, Hp_ne, Nat.reduceLeDiff, Nd.cells, h1, hxy, and_self, and_false, false_and]
    simpa [Nd.cells] using fin false 9
theorem l31 {n0 : Nat} {H0 : Hp} {v1 v2 : Value} {a b : List Nd} (h1 : Li eNode n0 H0 v1 a) (h2 : Li eNode n0 H0 v2 b) (hab : a.length = b.length) (hl : a.length ≤ 1000000000) : ∀ t n, n0 ≤ n → t 0 = v1 → t 1 = v2 → t 5 = .int .i64 0 →
    Wp (Loop (S31L0 (Call Try.prog) Loop) t H0 n) (fun o => n ≤ o.n ∧ Same n0 H0 o.H ∧ ((o.e = .exit 0 ∧ a = b) ∨ (o.e = .ret ∧ o.t 4 = .bool false ∧ a ≠ b))) := by
  intro t n hn0 e0 e1 e5
  refine Loop_rule (fun d t H n' => ∃ (j : Nat), j + d = a.length ∧ n ≤ n' ∧ Same n0 H0 H ∧ t 0 = v1 ∧ t 1 = v2 ∧ t 5 = .int .i64 j ∧ a.take j = b.take j) _ ?_ a.length t H0 n ⟨0, by omega, by omega, Same.refl _ _, e0, e1, e5, by simp⟩
  rintro d t H n' ⟨j, hj, hn, hsm, e0, e1, e5, htk⟩
  unfold S31L0
  have g1 := h1.keep hsm (Nat.le_refl _)
  have g2 := h2.keep hsm (Nat.le_refl _)
  by_cases hlt : (j : Int) < a.length
  · have ha : j < a.length := by omega
    have hb : j < b.length := by omega
    have q1 := g1.nAll (by omega) hlt
    have q2 := g2.nAll (i := (j : Int)) (by omega) (by omega)
    have hw := wj (j := j) (len := a.length) ha (by omega)
    obtain ⟨H1, n1, a1, a2, a3⟩ := k58 (gi a (j : Int)) (gi b (j : Int)) H (n' + 14)
    have s2 := hsm.trans (a2.less (show n0 ≤ n' + 14 by omega)) (Nat.le_refl _)
    by_cases he : gi a (j : Int) = gi b (j : Int)
    · rw [decide_eq_true he] at a3
      (((repeat (first | (with_reducible apply Wp.step; case h => ((try simp (disch := omega) only [↓reduceIte, ask_true, ↓X0, X1, Nat.reduceEqDiff, Int.reduceEq, Nat.reduceAdd, Nat.reduceSub, e0, e1, e5, g1.len, hlt, q1, q2, a3, hw]); with_reducible exact rfl)) | (apply Wp.andS) | (apply Wp.orS) | ((with_reducible first | apply Wp.gs | apply Wp.cs | apply Wp.cselX | apply Wp.askT | apply Wp.iteKT | apply Wp.ikb | apply Wp.askb); case h => ((try simp (disch := omega) only [↓reduceIte, ask_true, ↓X0, X1, Nat.reduceEqDiff, Int.reduceEq, Nat.reduceAdd, Nat.reduceSub, e0, e1, e5, g1.len, hlt, q1, q2, a3, hw]); (with_reducible first | done | exact bT | exact bF))) | (with_reducible apply Wp.gu) | (simp only [↓X3]) | (with_reducible apply Wp.assoc))); try simp only [outOf_exit, outOf_ret]); try (with_reducible apply Wp.cargs; case h => ((try simp (disch := omega) only [↓reduceIte, ask_true, ↓X0, X1, Nat.reduceEqDiff, Int.reduceEq, Nat.reduceAdd, Nat.reduceSub, e0, e1, e5, g1.len, hlt, q1, q2, a3, hw]); with_reducible exact rfl)))
      exact Wp.pure (Nxt.go (d - 1) (by omega) ⟨j + 1, by omega, by omega, s2, by simp [put_at, e0], by simp [put_at, e1], by simp [put_at], by rw [take_next ha, take_next hb, htk, ← gi_nat ha, ← gi_nat hb, he]⟩)
    · rw [decide_eq_false he] at a3
      (((repeat (first | (with_reducible apply Wp.step; case h => ((try simp (disch := omega) only [↓reduceIte, ask_true, ↓X0, X1, Nat.reduceEqDiff, Int.reduceEq, Nat.reduceAdd, Nat.reduceSub, e0, e1, e5, g1.len, hlt, q1, q2, a3, hw]); with_reducible exact rfl)) | (apply Wp.andS) | (apply Wp.orS) | ((with_reducible first | apply Wp.gs | apply Wp.cs | apply Wp.cselX | apply Wp.askT | apply Wp.iteKT | apply Wp.ikb | apply Wp.askb); case h => ((try simp (disch := omega) only [↓reduceIte, ask_true, ↓X0, X1, Nat.reduceEqDiff, Int.reduceEq, Nat.reduceAdd, Nat.reduceSub, e0, e1, e5, g1.len, hlt, q1, q2, a3, hw]); (with_reducible first | done | exact bT | exact bF))) | (with_reducible apply Wp.gu) | (simp only [↓X3]) | (with_reducible apply Wp.assoc))); try simp only [outOf_exit, outOf_ret]); try (with_reducible apply Wp.cargs; case h => ((try simp (disch := omega) only [↓reduceIte, ask_true, ↓X0, X1, Nat.reduceEqDiff, Int.reduceEq, Nat.reduceAdd, Nat.reduceSub, e0, e1, e5, g1.len, hlt, q1, q2, a3, hw]); with_reducible exact rfl)))
      exact Wp.pure (Nxt.ret ⟨by simp only; omega, s2, .inr ⟨rfl, by simp [put_at], fun h => he (by rw [h])⟩⟩)
  · (((repeat (first | (with_reducible apply Wp.step; case h => ((try simp (disch := omega) only [↓reduceIte, ask_true, ↓X0, X1, Nat.reduceEqDiff, Int.reduceEq, Nat.reduceAdd, Nat.reduceSub, e0, e1, e5, g1.len, hlt]); with_reducible exact rfl)) | (apply Wp.andS) | (apply Wp.orS) | ((with_reducible first | apply Wp.gs | apply Wp.cs | apply Wp.cselX | apply Wp.askT | apply Wp.iteKT | apply Wp.ikb | apply Wp.askb); case h => ((try simp (disch := omega) only [↓reduceIte, ask_true, ↓X0, X1, Nat.reduceEqDiff, Int.reduceEq, Nat.reduceAdd, Nat.reduceSub, e0, e1, e5, g1.len, hlt]); (with_reducible first | done | exact bT | exact bF))) | (with_reducible apply Wp.gu) | (simp only [↓X3]) | (with_reducible apply Wp.assoc))); try simp only [outOf_exit, outOf_ret]); try (with_reducible apply Wp.cargs; case h => ((try simp (disch := omega) only [↓reduceIte, ask_true, ↓X0, X1, Nat.reduceEqDiff, Int.reduceEq, Nat.reduceAdd, Nat.reduceSub, e0, e1, e5, g1.len, hlt]); with_reducible exact rfl)))
    rw [List.take_of_length_le (by omega), List.take_of_length_le (by omega)] at htk
    exact Wp.pure (Nxt.exit ⟨Nat.le_trans hn (Nat.le_add_right _ _), hsm, .inl ⟨rfl, htk⟩⟩)
theorem k31 {n : Nat} {H : Hp} {v1 v2 : Value} {a b : List Nd} (h1 : Li eNode n H v1 a) (h2 : Li eNode n H v2 b) (hl : a.length ≤ 1000000000) : Rt Try.prog 31 [v1, v2] H n (.bool (decide (a = b))) := by
  unfold Rt
  rw [c31]; unfold S31
  by_cases hab : (a.length : Int) = b.length
  · simp (disch := omega) only [↓reduceIte, ask_true, ↓X0, X1, Nat.reduceEqDiff, Int.reduceEq, Nat.reduceAdd, Nat.reduceSub, h1.len, h2.len, hab]
    generalize hT : put _ _ _ = T
    obtain ⟨⟨oe, ot, oH, on⟩, f1, f2, f3, f4⟩ := l31 h1 h2 (by omega) hl T (n + 7) (by omega) (by rw [← hT]; simp [put_at, argsT_at]) (by rw [← hT]; simp [put_at, argsT_at]) (by rw [← hT]; simp [put_at])
    simp only at f2 f3 f4
    rw [f1]
    rcases f4 with ⟨rfl, f4⟩ | ⟨rfl, f4, f5⟩
    · simp (disch := omega) only [↓reduceIte, ask_true, ↓X0, X1, Nat.reduceEqDiff, Int.reduceEq, Nat.reduceAdd, Nat.reduceSub, outOf, f4]
      exact ⟨_, _, by omega, f3, rfl⟩
    · simp (disch := omega) only [↓reduceIte, ask_true, ↓X0, X1, Nat.reduceEqDiff, Int.reduceEq, Nat.reduceAdd, Nat.reduceSub, outOf, f4, f5]
      exact ⟨_, _, by omega, f3, rfl⟩
  · have hne : ¬ a = b := fun h => hab (by rw [h])
    simp (disch := omega) only [↓reduceIte, ask_true, ↓X0, X1, Nat.reduceEqDiff, Int.reduceEq, Nat.reduceAdd, Nat.reduceSub, h1.len, h2.len, hab, hne]
    exact ⟨_, _, by omega, Same.refl _ _, rfl⟩
theorem k11 {n : Nat} {H : Hp} {v1 v2 : Value} {a b : List Nd} (h1 : Li eNode n H v1 a) (h2 : Li eNode n H v2 b) (hl : a.length ≤ 1000000000) : Rt Try.prog 11 [.agg ⟨[v1]⟩, .agg ⟨[v2]⟩] H n (.bool (decide (a = b))) := by
  unfold Rt
  rw [c11]; unfold S11
  have s1 : Same n H ((H.set n (some (.row [v1] 0 true))).set (n + 1) (some (.row [v2] 0 true))) := by (repeat (first | exact Same.refl _ _ | refine Same.set ?_ (by omega) _))
  obtain ⟨H1, n1, a1, a2, a3⟩ := k31 ((h1.keep s1 (Nat.le_refl _)).up (show n ≤ n + 9 by omega)) ((h2.keep s1 (Nat.le_refl _)).up (show n ≤ n + 9 by omega)) hl
  have s2 := s1.trans (a2.less (show n ≤ n + 9 by omega)) (Nat.le_refl _)
  by_cases h : a = b
  · simp (disch := omega) only [↓reduceIte, ask_true, ↓X0, X1, Nat.reduceEqDiff, Int.reduceEq, Nat.reduceAdd, Nat.reduceSub, X2, Hp_ne, Nat.reduceLeDiff, a3, h]
    exact ⟨_, _, by omega, s2, rfl⟩
  · simp (disch := omega) only [↓reduceIte, ask_true, ↓X0, X1, Nat.reduceEqDiff, Int.reduceEq, Nat.reduceAdd, Nat.reduceSub, X2, Hp_ne, Nat.reduceLeDiff, a3, h]
    exact ⟨_, _, by omega, s2, rfl⟩
end Go.Proofs.Ytdnokdgkccnbnaa.Ax
