/- . -/
import Derived.Test.YtjbfdaemgpmgjaaK13
import Derived.Test.YtjbfdaemgpmgjaaK15
set_option linter.unusedVariables false
set_option linter.unusedSimpArgs false
set_option maxHeartbeats 4000000
namespace Go.Proofs.Ytjbfdaemgpmgjaa.Ax
open Go
theorem k95 (x : Ins) (left : Int) (hx : x.s.size ≤ 9223372036854775807) (hl : 0 ≤ left ∧ left ≤ 9000000000000000000) (H : Hp) (n : Nat) : Rt Try.prog 95 [.agg ⟨x.cells⟩, .int .i64 left] H n (.int .i64 (if left - x.s.size < 0 then -1 else left - x.s.size)) := by
  apply Rt.mk
  rw [c95]; unfold S95
  have hw : IntKind.i64.wrap (left - (x.s.size : Int)) = left - x.s.size := w64 (by omega)
  by_cases h : left - (x.s.size : Int) < 0
  · (((repeat (first | (with_reducible apply Wp.step; case h => ((try simp (disch := omega) only [↓reduceIte, ask_true, ↓X0, X1, Nat.reduceEqDiff, Int.reduceEq, Nat.reduceAdd, Nat.reduceSub, X2, Hp_ne, Nat.reduceLeDiff, Ins.cells, hw, h]); with_reducible exact rfl)) | (apply Wp.andS) | (apply Wp.orS) | ((with_reducible first | apply Wp.gs | apply Wp.cs | apply Wp.cselX | apply Wp.askT | apply Wp.iteKT | apply Wp.ikb); case h => ((try simp (disch := omega) only [↓reduceIte, ask_true, ↓X0, X1, Nat.reduceEqDiff, Int.reduceEq, Nat.reduceAdd, Nat.reduceSub, X2, Hp_ne, Nat.reduceLeDiff, Ins.cells, hw, h]); (with_reducible first | done | exact bT | exact bF))) | (with_reducible apply Wp.gu) | (simp only [↓X3]) | (with_reducible apply Wp.assoc))); try simp only [outOf_exit, outOf_ret]); try (with_reducible apply Wp.cargs; case h => ((try simp (disch := omega) only [↓reduceIte, ask_true, ↓X0, X1, Nat.reduceEqDiff, Int.reduceEq, Nat.reduceAdd, Nat.reduceSub, X2, Hp_ne, Nat.reduceLeDiff, Ins.cells, hw, h]); with_reducible exact rfl)))
    exact Wp.pure ⟨by simp only; omega, (by intros; first | with_reducible rfl | simp (disch := omega) only [Hp_ne, Hp_same]), by simp only [h, if_true]⟩
  · (((repeat (first | (with_reducible apply Wp.step; case h => ((try simp (disch := omega) only [↓reduceIte, ask_true, ↓X0, X1, Nat.reduceEqDiff, Int.reduceEq, Nat.reduceAdd, Nat.reduceSub, X2, Hp_ne, Nat.reduceLeDiff, Ins.cells, hw, h]); with_reducible exact rfl)) | (apply Wp.andS) | (apply Wp.orS) | ((with_reducible first | apply Wp.gs | apply Wp.cs | apply Wp.cselX | apply Wp.askT | apply Wp.iteKT | apply Wp.ikb); case h => ((try simp (disch := omega) only [↓reduceIte, ask_true, ↓X0, X1, Nat.reduceEqDiff, Int.reduceEq, Nat.reduceAdd, Nat.reduceSub, X2, Hp_ne, Nat.reduceLeDiff, Ins.cells, hw, h]); (with_reducible first | done | exact bT | exact bF))) | (with_reducible apply Wp.gu) | (simp only [↓X3]) | (with_reducible apply Wp.assoc))); try simp only [outOf_exit, outOf_ret]); try (with_reducible apply Wp.cargs; case h => ((try simp (disch := omega) only [↓reduceIte, ask_true, ↓X0, X1, Nat.reduceEqDiff, Int.reduceEq, Nat.reduceAdd, Nat.reduceSub, X2, Hp_ne, Nat.reduceLeDiff, Ins.cells, hw, h]); with_reducible exact rfl)))
    exact Wp.pure ⟨by simp only; omega, (by intros; first | with_reducible rfl | simp (disch := omega) only [Hp_ne, Hp_same]), by simp only [h, if_false]⟩
theorem l42 {n0 : Nat} {H0 : Hp} {v : Value} {l : List Ins} (hv : Li eIns n0 H0 v l) (hs : ∀ x ∈ l, x.s.size ≤ 9223372036854775807) (hl : l.length ≤ 1048576) (m : Int) (hm : m ≤ 1048576) : ∀ t n, n0 ≤ n → t 0 = v → t 5 = .int .i64 0 → t 1 = .int .i64 m → 0 ≤ m →
    Wp (Loop (S42L0 (Call Try.prog) Loop) t H0 n) (fun o => n ≤ o.n ∧ Same n0 H0 o.H ∧ ((o.e = .exit 0 ∧ ∃ r : Int, 0 ≤ r ∧ r ≤ m ∧ o.t 1 = .int .i64 r ∧ ∀ x ∈ l, (x.s.size : Int) ≤ m) ∨ (o.e = .ret ∧ o.t 4 = .int .i64 (-1)))) := by
  intro t n hn0 e0 e5 e1 hm0
  refine Loop_rule (fun d t H n' => ∃ (j : Nat) (r : Int), j + d = l.length ∧ n ≤ n' ∧ Same n0 H0 H ∧ t 0 = v ∧ t 5 = .int .i64 j ∧ t 1 = .int .i64 r ∧ 0 ≤ r ∧ r ≤ m ∧ ∀ x ∈ l.take j, (x.s.size : Int) ≤ m) _ ?_ l.length t H0 n ⟨0, m, by omega, by omega, Same.refl _ _, e0, e5, e1, hm0, by omega, by simp⟩
  rintro d t H n' ⟨j, r, hj, hn, hsm, e0, e5, e1, hr0, hr1, hx⟩
  unfold S42L0
  have hv' := hv.keep hsm (Nat.le_refl _)
  by_cases hlt : (j : Int) < l.length
  · have hlt' : j < l.length := by omega
    have g := hv'.sAll (by omega) hlt
    have hmem := gi_mem (l := l) (by omega) hlt
    obtain ⟨H1, n1, a1, a2, a3⟩ := k95 (gi l (j : Int)) r (hs _ hmem) (by omega) H (n' + 11)
    by_cases h : r - ((gi l (j : Int)).s.size : Int) < 0
    · (((repeat (first | (with_reducible apply Wp.step; case h => ((try simp (disch := omega) only [↓reduceIte, ask_true, ↓X0, X1, Nat.reduceEqDiff, Int.reduceEq, Nat.reduceAdd, Nat.reduceSub, e0, e5, e1, hv'.len, hlt, g, a3, h]); with_reducible exact rfl)) | (apply Wp.andS) | (apply Wp.orS) | ((with_reducible first | apply Wp.gs | apply Wp.cs | apply Wp.cselX | apply Wp.askT | apply Wp.iteKT | apply Wp.ikb); case h => ((try simp (disch := omega) only [↓reduceIte, ask_true, ↓X0, X1, Nat.reduceEqDiff, Int.reduceEq, Nat.reduceAdd, Nat.reduceSub, e0, e5, e1, hv'.len, hlt, g, a3, h]); (with_reducible first | done | exact bT | exact bF))) | (with_reducible apply Wp.gu) | (simp only [↓X3]) | (with_reducible apply Wp.assoc))); try simp only [outOf_exit, outOf_ret]); try (with_reducible apply Wp.cargs; case h => ((try simp (disch := omega) only [↓reduceIte, ask_true, ↓X0, X1, Nat.reduceEqDiff, Int.reduceEq, Nat.reduceAdd, Nat.reduceSub, e0, e5, e1, hv'.len, hlt, g, a3, h]); with_reducible exact rfl)))
      exact Wp.pure (Nxt.ret ⟨by simp only; omega, hsm.trans (a2.less (show n0 ≤ n' + 11 by omega)) (Nat.le_refl _), .inr ⟨rfl, by simp [put_at]⟩⟩)
    · have hw := wj (j := j) (len := l.length) hlt' (by omega)
      (((repeat (first | (with_reducible apply Wp.step; case h => ((try simp (disch := omega) only [↓reduceIte, ask_true, ↓X0, X1, Nat.reduceEqDiff, Int.reduceEq, Nat.reduceAdd, Nat.reduceSub, e0, e5, e1, hv'.len, hlt, g, a3, h, hw]); with_reducible exact rfl)) | (apply Wp.andS) | (apply Wp.orS) | ((with_reducible first | apply Wp.gs | apply Wp.cs | apply Wp.cselX | apply Wp.askT | apply Wp.iteKT | apply Wp.ikb); case h => ((try simp (disch := omega) only [↓reduceIte, ask_true, ↓X0, X1, Nat.reduceEqDiff, Int.reduceEq, Nat.reduceAdd, Nat.reduceSub, e0, e5, e1, hv'.len, hlt, g, a3, h, hw]); (with_reducible first | done | exact bT | exact bF))) | (with_reducible apply Wp.gu) | (simp only [↓X3]) | (with_reducible apply Wp.assoc))); try simp only [outOf_exit, outOf_ret]); try (with_reducible apply Wp.cargs; case h => ((try simp (disch := omega) only [↓reduceIte, ask_true, ↓X0, X1, Nat.reduceEqDiff, Int.reduceEq, Nat.reduceAdd, Nat.reduceSub, e0, e5, e1, hv'.len, hlt, g, a3, h, hw]); with_reducible exact rfl)))
      refine Wp.pure (Nxt.go (d - 1) (by omega) ⟨j + 1, r - (gi l (j : Int)).s.size, by omega, by omega, hsm.trans (a2.less (show n0 ≤ n' + 11 by omega)) (Nat.le_refl _), by simp [put_at, e0], by simp [put_at], by simp [put_at], by omega, by omega, ?_⟩)
      intro x hx'
      rw [take_next hlt'] at hx'
      rcases List.mem_append.1 hx' with h' | h'
      · exact hx x h'
      · simp only [List.mem_cons, List.not_mem_nil, or_false] at h'
        rw [h', ← gi_nat hlt']; omega
  · (((repeat (first | (with_reducible apply Wp.step; case h => ((try simp (disch := omega) only [↓reduceIte, ask_true, ↓X0, X1, Nat.reduceEqDiff, Int.reduceEq, Nat.reduceAdd, Nat.reduceSub, e0, e5, e1, hv'.len, hlt]); with_reducible exact rfl)) | (apply Wp.andS) | (apply Wp.orS) | ((with_reducible first | apply Wp.gs | apply Wp.cs | apply Wp.cselX | apply Wp.askT | apply Wp.iteKT | apply Wp.ikb); case h => ((try simp (disch := omega) only [↓reduceIte, ask_true, ↓X0, X1, Nat.reduceEqDiff, Int.reduceEq, Nat.reduceAdd, Nat.reduceSub, e0, e5, e1, hv'.len, hlt]); (with_reducible first | done | exact bT | exact bF))) | (with_reducible apply Wp.gu) | (simp only [↓X3]) | (with_reducible apply Wp.assoc))); try simp only [outOf_exit, outOf_ret]); try (with_reducible apply Wp.cargs; case h => ((try simp (disch := omega) only [↓reduceIte, ask_true, ↓X0, X1, Nat.reduceEqDiff, Int.reduceEq, Nat.reduceAdd, Nat.reduceSub, e0, e5, e1, hv'.len, hlt]); with_reducible exact rfl)))
    rw [List.take_of_length_le (by omega)] at hx
    exact Wp.pure (Nxt.exit ⟨by simp only; omega, hsm, .inl ⟨rfl, r, hr0, hr1, by simp [put_at, e1], hx⟩⟩)
def LightI (l : List Ins) (left r : Int) : Prop := -1 ≤ r ∧ r ≤ left ∧ (0 ≤ r → (l.length : Int) ≤ left ∧ ∀ x ∈ l, (x.s.size : Int) ≤ left)
theorem k42 {n : Nat} {H : Hp} {v : Value} {l : List Ins} (hv : Li eIns n H v l) (hs : ∀ x ∈ l, x.s.size ≤ 9223372036854775807) (hl : l.length ≤ 9223372036854775807) (left : Int) (hleft : 0 ≤ left ∧ left ≤ 1048576) : ∃ r, LightI l left r ∧ Rt Try.prog 42 [v, .int .i64 left] H n (.int .i64 r) := by
  unfold Rt LightI
  rw [c42]; unfold S42
  have hw : IntKind.i64.wrap (left - (l.length : Int)) = left - l.length := w64 (by omega)
  by_cases h : left - (l.length : Int) < 0
  · refine ⟨-1, ⟨by omega, by omega, fun h => by omega⟩, ?_⟩
    simp (disch := omega) only [↓reduceIte, ask_true, ↓X0, X1, Nat.reduceEqDiff, Int.reduceEq, Nat.reduceAdd, Nat.reduceSub, hv.len, hw, h]
    exact ⟨_, _, by omega, Same.refl _ _, rfl⟩
  · simp (disch := omega) only [↓reduceIte, ask_true, ↓X0, X1, Nat.reduceEqDiff, Int.reduceEq, Nat.reduceAdd, Nat.reduceSub, hv.len, hw, h]
    generalize hT : put _ _ _ = T
    obtain ⟨⟨oe, ot, oH, on⟩, f1, f2, f3, f4⟩ := l42 hv hs (by omega) (left - l.length) (by omega) T (n + 9) (by omega) (by rw [← hT]; simp [put_at, argsT_at]) (by rw [← hT]; simp [put_at]) (by rw [← hT]; simp [put_at]) (by omega)
    simp only at f2 f3 f4
    rw [f1]
    rcases f4 with ⟨rfl, r, f4, f5, f6, f7⟩ | ⟨rfl, f4⟩
    · refine ⟨r, ⟨by omega, by omega, fun _ => ⟨by omega, fun x hx => by have := f7 x hx; omega⟩⟩, ?_⟩
      simp (disch := omega) only [↓reduceIte, ask_true, ↓X0, X1, Nat.reduceEqDiff, Int.reduceEq, Nat.reduceAdd, Nat.reduceSub, outOf, f6]
      exact ⟨_, _, by omega, f3, rfl⟩
    · refine ⟨-1, ⟨by omega, by omega, fun h => by omega⟩, ?_⟩
      simp (disch := omega) only [↓reduceIte, ask_true, ↓X0, X1, Nat.reduceEqDiff, Int.reduceEq, Nat.reduceAdd, Nat.reduceSub, outOf, f4]
      exact ⟨_, _, by omega, f3, rfl⟩
theorem k99 (x : Ins) (H : Hp) (n : Nat) : Rt Try.prog 99 [.agg ⟨x.cells⟩] H n (.agg ⟨x.cells⟩) := by
  apply Rt.mk
  rw [c99]; unfold S99
  (((repeat (first | (with_reducible apply Wp.step; case h => ((try simp (disch := omega) only [↓reduceIte, ask_true, ↓X0, X1, Nat.reduceEqDiff, Int.reduceEq, Nat.reduceAdd, Nat.reduceSub, X2, Hp_ne, Nat.reduceLeDiff, Ins.cells]); with_reducible exact rfl)) | (apply Wp.andS) | (apply Wp.orS) | ((with_reducible first | apply Wp.gs | apply Wp.cs | apply Wp.cselX | apply Wp.askT | apply Wp.iteKT | apply Wp.ikb); case h => ((try simp (disch := omega) only [↓reduceIte, ask_true, ↓X0, X1, Nat.reduceEqDiff, Int.reduceEq, Nat.reduceAdd, Nat.reduceSub, X2, Hp_ne, Nat.reduceLeDiff, Ins.cells]); (with_reducible first | done | exact bT | exact bF))) | (with_reducible apply Wp.gu) | (simp only [↓X3]) | (with_reducible apply Wp.assoc))); try simp only [outOf_exit, outOf_ret]); try (with_reducible apply Wp.cargs; case h => ((try simp (disch := omega) only [↓reduceIte, ask_true, ↓X0, X1, Nat.reduceEqDiff, Int.reduceEq, Nat.reduceAdd, Nat.reduceSub, X2, Hp_ne, Nat.reduceLeDiff, Ins.cells]); with_reducible exact rfl)))
  exact Wp.pure ⟨by simp only; omega, (by intros; first | with_reducible rfl | simp (disch := omega) only [Hp_ne, Hp_same]), rfl⟩
theorem l49 {n0 id : Nat} {H0 : Hp} {v : Value} {l : List Ins} (hv : Li eIns n0 H0 v l) (hid : n0 ≤ id) (hl : l.length ≤ 100000000) : ∀ t H n, id < n → Same n0 H0 H → t 0 = v → t 3 = sl id 0 l.length → t 4 = .int .i64 0 → H id = some (.row ((List.replicate l.length (default : Ins)).flatMap eIns.cells) 4 true) →
    Wp (Loop (S49L0 (Call Try.prog) Loop) t H n) (fun o => n ≤ o.n ∧ Same n0 H0 o.H ∧ o.e = .exit 0 ∧ o.t 3 = sl id 0 l.length ∧ o.H id = some (.row (l.flatMap eIns.cells) 4 true)) := by
  intro t H n hn0 hsm e0 e3 e4 hH
  refine Loop_rule (fun d t H n' => ∃ (j : Nat), j + d = l.length ∧ n ≤ n' ∧ Same n0 H0 H ∧ t 0 = v ∧ t 3 = sl id 0 l.length ∧ t 4 = .int .i64 j ∧ H id = some (.row ((l.take j ++ List.replicate d (default : Ins)).flatMap eIns.cells) 4 true)) _ ?_ l.length t H n ⟨0, by omega, by omega, hsm, e0, e3, e4, by simpa using hH⟩
  rintro d t H n' ⟨j, hj, hn, hsm, e0, e3, e4, hH⟩
  unfold S49L0
  have hv' := hv.keep hsm (Nat.le_refl _)
  by_cases hlt : (j : Int) < l.length
  · have hlt' : j < l.length := by omega
    obtain ⟨d, rfl⟩ : ∃ d', d = d' + 1 := ⟨d - 1, by omega⟩
    have g := hv'.sAll (by omega) hlt
    have hw := wj (j := j) (len := l.length) hlt' (by omega)
    obtain ⟨H1, n1, a1, a2, a3⟩ := k99 (gi l (j : Int)) H (n' + 13)
    have hix : idxA 4 (sl id 0 l.length) (.int .i64 j) = some (ptr id (j * 4)) := by simp [idxA, hlt']
    have hst : st true 4 (ptr id (j * 4)) (.agg ⟨(gi l (j : Int)).cells⟩) H1 = some (H1.set id (some (.row ((l.take (j + 1) ++ List.replicate d (default : Ins)).flatMap eIns.cells) 4 true))) := by
      rw [st_agg, if_pos (show (gi l (j : Int)).cells.length = 4 from rfl)]
      have hH1 : H1 id = some (.row ((l.take j ++ List.replicate (d + 1) (default : Ins)).flatMap eIns.cells) 4 true) := by rw [a2 id (by omega)]; exact hH
      have := st_el (E := eIns) hH1 (j := j) (by simp; omega) (gi l (j : Int))
      have hset : (l.take j ++ List.replicate (d + 1) (default : Ins)).set j (gi l (j : Int)) = l.take (j + 1) ++ List.replicate d default := by
        rw [take_next hlt', gi_nat hlt', List.replicate_succ, List.set_append_right _ _ (by rw [List.length_take]; omega)]
        rw [List.length_take, Nat.min_eq_left (by omega), Nat.sub_self, List.set_cons_zero, List.append_assoc]
        rfl
      rw [hset] at this
      exact this
    (((repeat (first | (with_reducible apply Wp.step; case h => ((try simp (disch := omega) only [↓reduceIte, ask_true, ↓X0, X1, Nat.reduceEqDiff, Int.reduceEq, Nat.reduceAdd, Nat.reduceSub, e0, e3, e4, hv'.len, hlt, g, a3, hix, hst, hw]); with_reducible exact rfl)) | (apply Wp.andS) | (apply Wp.orS) | ((with_reducible first | apply Wp.gs | apply Wp.cs | apply Wp.cselX | apply Wp.askT | apply Wp.iteKT | apply Wp.ikb); case h => ((try simp (disch := omega) only [↓reduceIte, ask_true, ↓X0, X1, Nat.reduceEqDiff, Int.reduceEq, Nat.reduceAdd, Nat.reduceSub, e0, e3, e4, hv'.len, hlt, g, a3, hix, hst, hw]); (with_reducible first | done | exact bT | exact bF))) | (with_reducible apply Wp.gu) | (simp only [↓X3]) | (with_reducible apply Wp.assoc))); try simp only [outOf_exit, outOf_ret]); try (with_reducible apply Wp.cargs; case h => ((try simp (disch := omega) only [↓reduceIte, ask_true, ↓X0, X1, Nat.reduceEqDiff, Int.reduceEq, Nat.reduceAdd, Nat.reduceSub, e0, e3, e4, hv'.len, hlt, g, a3, hix, hst, hw]); with_reducible exact rfl)))
    exact Wp.pure (Nxt.go d (by omega) ⟨j + 1, by omega, by omega, (hsm.trans (a2.less (show n0 ≤ n' + 13 by omega)) (Nat.le_refl _)).set hid _, by simp [put_at, e0], by simp [put_at, e3], by simp [put_at], Hp_same _ _ _⟩)
  · (((repeat (first | (with_reducible apply Wp.step; case h => ((try simp (disch := omega) only [↓reduceIte, ask_true, ↓X0, X1, Nat.reduceEqDiff, Int.reduceEq, Nat.reduceAdd, Nat.reduceSub, e0, e3, e4, hv'.len, hlt]); with_reducible exact rfl)) | (apply Wp.andS) | (apply Wp.orS) | ((with_reducible first | apply Wp.gs | apply Wp.cs | apply Wp.cselX | apply Wp.askT | apply Wp.iteKT | apply Wp.ikb); case h => ((try simp (disch := omega) only [↓reduceIte, ask_true, ↓X0, X1, Nat.reduceEqDiff, Int.reduceEq, Nat.reduceAdd, Nat.reduceSub, e0, e3, e4, hv'.len, hlt]); (with_reducible first | done | exact bT | exact bF))) | (with_reducible apply Wp.gu) | (simp only [↓X3]) | (with_reducible apply Wp.assoc))); try simp only [outOf_exit, outOf_ret]); try (with_reducible apply Wp.cargs; case h => ((try simp (disch := omega) only [↓reduceIte, ask_true, ↓X0, X1, Nat.reduceEqDiff, Int.reduceEq, Nat.reduceAdd, Nat.reduceSub, e0, e3, e4, hv'.len, hlt]); with_reducible exact rfl)))
    have hd : d = 0 := by omega
    subst hd
    rw [List.take_of_length_le (by omega)] at hH
    exact Wp.pure (Nxt.exit ⟨Nat.le_trans hn (Nat.le_add_right _ _), hsm, rfl, by simp [put_at, e3], by simpa using hH⟩)
theorem k49 {n : Nat} {H : Hp} {v : Value} {l : List Ins} (hv : Li eIns n H v l) (hl : l.length ≤ 100000000) : RtN Try.prog 49 [v] H n (fun w H' n' => New eIns n n' H' w l) := by
  unfold RtN
  rw [c49]; unfold S49
  have hm := mks_new eIns (default : Ins) (id := n + 3) (bytes := 40) (k := l.length) H (by decide) (by omega)
  have hz : eIns.cells (default : Ins) = [.int .i64 0, .int .i64 0, .int .i64 0, .string ⟨#[]⟩] := rfl
  rw [hz] at hm
  simp (disch := omega) only [↓reduceIte, ask_true, ↓X0, X1, Nat.reduceEqDiff, Int.reduceEq, Nat.reduceAdd, Nat.reduceSub, hv.len, hm]
  generalize hT : put _ _ _ = T
  obtain ⟨⟨oe, ot, oH, on⟩, f1, f2, f3, f4, f5, f6⟩ := l49 (id := n + 3) hv (by omega) hl T (H.set (n + 3) (some (.row ((List.replicate l.length (default : Ins)).flatMap eIns.cells) 4 true))) (n + 6) (by omega) ((Same.refl _ _).set (by omega) _) (by rw [← hT]; simp [put_at, argsT_at]) (by rw [← hT]; simp [put_at]) (by rw [← hT]; simp [put_at]) (Hp_same _ _ _)
  simp only at f2 f3 f4 f5 f6
  rw [f1]
  simp (disch := omega) only [↓reduceIte, ask_true, ↓X0, X1, Nat.reduceEqDiff, Int.reduceEq, Nat.reduceAdd, Nat.reduceSub, f5]
  exact ⟨_, _, _, by omega, f3, rfl, n + 3, by omega, by omega, .inr ⟨rfl, f6⟩⟩
theorem k104 (x y : Ins) (H : Hp) (n : Nat) : Rt Try.prog 104 [.agg ⟨x.cells⟩, .agg ⟨y.cells⟩] H n (.bool (decide (x = y))) := by
  apply Rt.mk
  rw [c104]; unfold S104
  have hxy : (x = y) = (x.op = y.op ∧ x.n = y.n ∧ x.i = y.i ∧ x.s = y.s) := by
    apply propext; constructor
    · rintro rfl; exact ⟨rfl, rfl, rfl, rfl⟩
    · rintro ⟨a, b, c, d⟩; cases x; cases y; simp_all
  by_cases h0 : x.op = y.op
  case neg =>
    (((repeat (first | (with_reducible apply Wp.step; case h => ((try simp (disch := omega) only [↓reduceIte, ask_true, ↓X0, X1, Nat.reduceEqDiff, Int.reduceEq, Nat.reduceAdd, Nat.reduceSub, X2, Hp_ne, Nat.reduceLeDiff, Ins.cells, h0]); with_reducible exact rfl)) | (apply Wp.andS) | (apply Wp.orS) | ((with_reducible first | apply Wp.gs | apply Wp.cs | apply Wp.cselX | apply Wp.askT | apply Wp.iteKT | apply Wp.ikb); case h => ((try simp (disch := omega) only [↓reduceIte, ask_true, ↓X0, X1, Nat.reduceEqDiff, Int.reduceEq, Nat.reduceAdd, Nat.reduceSub, X2, Hp_ne, Nat.reduceLeDiff, Ins.cells, h0]); (with_reducible first | done | exact bT | exact bF))) | (with_reducible apply Wp.gu) | (simp only [↓X3]) | (with_reducible apply Wp.assoc))); try simp only [outOf_exit, outOf_ret]); try (with_reducible apply Wp.cargs; case h => ((try simp (disch := omega) only [↓reduceIte, ask_true, ↓X0, X1, Nat.reduceEqDiff, Int.reduceEq, Nat.reduceAdd, Nat.reduceSub, X2, Hp_ne, Nat.reduceLeDiff, Ins.cells, h0]); with_reducible exact rfl)))
    exact Wp.pure ⟨by simp only; omega, (by intros; first | with_reducible rfl | simp (disch := omega) only [Hp_ne, Hp_same]), by rw [decide_eq_false (fun h => h0 (by rw [h]))]⟩
  by_cases h1 : x.n = y.n
  case neg =>
    (((repeat (first | (with_reducible apply Wp.step; case h => ((try simp (disch := omega) only [↓reduceIte, ask_true, ↓X0, X1, Nat.reduceEqDiff, Int.reduceEq, Nat.reduceAdd, Nat.reduceSub, X2, Hp_ne, Nat.reduceLeDiff, Ins.cells, h0, h1]); with_reducible exact rfl)) | (apply Wp.andS) | (apply Wp.orS) | ((with_reducible first | apply Wp.gs | apply Wp.cs | apply Wp.cselX | apply Wp.askT | apply Wp.iteKT | apply Wp.ikb); case h => ((try simp (disch := omega) only [↓reduceIte, ask_true, ↓X0, X1, Nat.reduceEqDiff, Int.reduceEq, Nat.reduceAdd, Nat.reduceSub, X2, Hp_ne, Nat.reduceLeDiff, Ins.cells, h0, h1]); (with_reducible first | done | exact bT | exact bF))) | (with_reducible apply Wp.gu) | (simp only [↓X3]) | (with_reducible apply Wp.assoc))); try simp only [outOf_exit, outOf_ret]); try (with_reducible apply Wp.cargs; case h => ((try simp (disch := omega) only [↓reduceIte, ask_true, ↓X0, X1, Nat.reduceEqDiff, Int.reduceEq, Nat.reduceAdd, Nat.reduceSub, X2, Hp_ne, Nat.reduceLeDiff, Ins.cells, h0, h1]); with_reducible exact rfl)))
    exact Wp.pure ⟨by simp only; omega, (by intros; first | with_reducible rfl | simp (disch := omega) only [Hp_ne, Hp_same]), by rw [decide_eq_false (fun h => h1 (by rw [h]))]⟩
  by_cases h2 : x.i = y.i
  case neg =>
    (((repeat (first | (with_reducible apply Wp.step; case h => ((try simp (disch := omega) only [↓reduceIte, ask_true, ↓X0, X1, Nat.reduceEqDiff, Int.reduceEq, Nat.reduceAdd, Nat.reduceSub, X2, Hp_ne, Nat.reduceLeDiff, Ins.cells, h0, h1, h2]); with_reducible exact rfl)) | (apply Wp.andS) | (apply Wp.orS) | ((with_reducible first | apply Wp.gs | apply Wp.cs | apply Wp.cselX | apply Wp.askT | apply Wp.iteKT | apply Wp.ikb); case h => ((try simp (disch := omega) only [↓reduceIte, ask_true, ↓X0, X1, Nat.reduceEqDiff, Int.reduceEq, Nat.reduceAdd, Nat.reduceSub, X2, Hp_ne, Nat.reduceLeDiff, Ins.cells, h0, h1, h2]); (with_reducible first | done | exact bT | exact bF))) | (with_reducible apply Wp.gu) | (simp only [↓X3]) | (with_reducible apply Wp.assoc))); try simp only [outOf_exit, outOf_ret]); try (with_reducible apply Wp.cargs; case h => ((try simp (disch := omega) only [↓reduceIte, ask_true, ↓X0, X1, Nat.reduceEqDiff, Int.reduceEq, Nat.reduceAdd, Nat.reduceSub, X2, Hp_ne, Nat.reduceLeDiff, Ins.cells, h0, h1, h2]); with_reducible exact rfl)))
    exact Wp.pure ⟨by simp only; omega, (by intros; first | with_reducible rfl | simp (disch := omega) only [Hp_ne, Hp_same]), by rw [decide_eq_false (fun h => h2 (by rw [h]))]⟩
  by_cases h3 : x.s = y.s
  case neg =>
    (((repeat (first | (with_reducible apply Wp.step; case h => ((try simp (disch := omega) only [↓reduceIte, ask_true, ↓X0, X1, Nat.reduceEqDiff, Int.reduceEq, Nat.reduceAdd, Nat.reduceSub, X2, Hp_ne, Nat.reduceLeDiff, Ins.cells, h0, h1, h2, h3]); with_reducible exact rfl)) | (apply Wp.andS) | (apply Wp.orS) | ((with_reducible first | apply Wp.gs | apply Wp.cs | apply Wp.cselX | apply Wp.askT | apply Wp.iteKT | apply Wp.ikb); case h => ((try simp (disch := omega) only [↓reduceIte, ask_true, ↓X0, X1, Nat.reduceEqDiff, Int.reduceEq, Nat.reduceAdd, Nat.reduceSub, X2, Hp_ne, Nat.reduceLeDiff, Ins.cells, h0, h1, h2, h3]); (with_reducible first | done | exact bT | exact bF))) | (with_reducible apply Wp.gu) | (simp only [↓X3]) | (with_reducible apply Wp.assoc))); try simp only [outOf_exit, outOf_ret]); try (with_reducible apply Wp.cargs; case h => ((try simp (disch := omega) only [↓reduceIte, ask_true, ↓X0, X1, Nat.reduceEqDiff, Int.reduceEq, Nat.reduceAdd, Nat.reduceSub, X2, Hp_ne, Nat.reduceLeDiff, Ins.cells, h0, h1, h2, h3]); with_reducible exact rfl)))
    exact Wp.pure ⟨by simp only; omega, (by intros; first | with_reducible rfl | simp (disch := omega) only [Hp_ne, Hp_same]), by rw [decide_eq_false (fun h => h3 (by rw [h]))]⟩
  (((repeat (first | (with_reducible apply Wp.step; case h => ((try simp (disch := omega) only [↓reduceIte, ask_true, ↓X0, X1, Nat.reduceEqDiff, Int.reduceEq, Nat.reduceAdd, Nat.reduceSub, X2, Hp_ne, Nat.reduceLeDiff, Ins.cells, h0, h1, h2, h3]); with_reducible exact rfl)) | (apply Wp.andS) | (apply Wp.orS) | ((with_reducible first | apply Wp.gs | apply Wp.cs | apply Wp.cselX | apply Wp.askT | apply Wp.iteKT | apply Wp.ikb); case h => ((try simp (disch := omega) only [↓reduceIte, ask_true, ↓X0, X1, Nat.reduceEqDiff, Int.reduceEq, Nat.reduceAdd, Nat.reduceSub, X2, Hp_ne, Nat.reduceLeDiff, Ins.cells, h0, h1, h2, h3]); (with_reducible first | done | exact bT | exact bF))) | (with_reducible apply Wp.gu) | (simp only [↓X3]) | (with_reducible apply Wp.assoc))); try simp only [outOf_exit, outOf_ret]); try (with_reducible apply Wp.cargs; case h => ((try simp (disch := omega) only [↓reduceIte, ask_true, ↓X0, X1, Nat.reduceEqDiff, Int.reduceEq, Nat.reduceAdd, Nat.reduceSub, X2, Hp_ne, Nat.reduceLeDiff, Ins.cells, h0, h1, h2, h3]); with_reducible exact rfl)))
  exact Wp.pure ⟨by simp only; omega, (by intros; first | with_reducible rfl | simp (disch := omega) only [Hp_ne, Hp_same]), by rw [decide_eq_true (hxy ▸ ⟨h0, h1, h2, h3⟩)]⟩
theorem l58 {n0 : Nat} {H0 : Hp} {v1 v2 : Value} {a b : List Ins} (h1 : Li eIns n0 H0 v1 a) (h2 : Li eIns n0 H0 v2 b) (hab : a.length = b.length) (hl : a.length ≤ 1000000000) : ∀ t n, n0 ≤ n → t 0 = v1 → t 1 = v2 → t 5 = .int .i64 0 →
    Wp (Loop (S58L0 (Call Try.prog) Loop) t H0 n) (fun o => n ≤ o.n ∧ Same n0 H0 o.H ∧ ((o.e = .exit 0 ∧ a = b) ∨ (o.e = .ret ∧ o.t 4 = .bool false ∧ a ≠ b))) := by
  intro t n hn0 e0 e1 e5
  refine Loop_rule (fun d t H n' => ∃ (j : Nat), j + d = a.length ∧ n ≤ n' ∧ Same n0 H0 H ∧ t 0 = v1 ∧ t 1 = v2 ∧ t 5 = .int .i64 j ∧ a.take j = b.take j) _ ?_ a.length t H0 n ⟨0, by omega, by omega, Same.refl _ _, e0, e1, e5, by simp⟩
  rintro d t H n' ⟨j, hj, hn, hsm, e0, e1, e5, htk⟩
  unfold S58L0
  have g1 := h1.keep hsm (Nat.le_refl _)
  have g2 := h2.keep hsm (Nat.le_refl _)
  by_cases hlt : (j : Int) < a.length
  · have ha : j < a.length := by omega
    have hb : j < b.length := by omega
    have q1 := g1.sAll (by omega) hlt
    have q2 := g2.sAll (i := (j : Int)) (by omega) (by omega)
    have hw := wj (j := j) (len := a.length) ha (by omega)
    obtain ⟨H1, n1, a1, a2, a3⟩ := k104 (gi a (j : Int)) (gi b (j : Int)) H (n' + 14)
    have s2 := hsm.trans (a2.less (show n0 ≤ n' + 14 by omega)) (Nat.le_refl _)
    by_cases he : gi a (j : Int) = gi b (j : Int)
    · rw [decide_eq_true he] at a3
      (((repeat (first | (with_reducible apply Wp.step; case h => ((try simp (disch := omega) only [↓reduceIte, ask_true, ↓X0, X1, Nat.reduceEqDiff, Int.reduceEq, Nat.reduceAdd, Nat.reduceSub, e0, e1, e5, g1.len, hlt, q1, q2, a3, hw]); with_reducible exact rfl)) | (apply Wp.andS) | (apply Wp.orS) | ((with_reducible first | apply Wp.gs | apply Wp.cs | apply Wp.cselX | apply Wp.askT | apply Wp.iteKT | apply Wp.ikb); case h => ((try simp (disch := omega) only [↓reduceIte, ask_true, ↓X0, X1, Nat.reduceEqDiff, Int.reduceEq, Nat.reduceAdd, Nat.reduceSub, e0, e1, e5, g1.len, hlt, q1, q2, a3, hw]); (with_reducible first | done | exact bT | exact bF))) | (with_reducible apply Wp.gu) | (simp only [↓X3]) | (with_reducible apply Wp.assoc))); try simp only [outOf_exit, outOf_ret]); try (with_reducible apply Wp.cargs; case h => ((try simp (disch := omega) only [↓reduceIte, ask_true, ↓X0, X1, Nat.reduceEqDiff, Int.reduceEq, Nat.reduceAdd, Nat.reduceSub, e0, e1, e5, g1.len, hlt, q1, q2, a3, hw]); with_reducible exact rfl)))
      exact Wp.pure (Nxt.go (d - 1) (by omega) ⟨j + 1, by omega, by omega, s2, by simp [put_at, e0], by simp [put_at, e1], by simp [put_at], by rw [take_next ha, take_next hb, htk, ← gi_nat ha, ← gi_nat hb, he]⟩)
    · rw [decide_eq_false he] at a3
      (((repeat (first | (with_reducible apply Wp.step; case h => ((try simp (disch := omega) only [↓reduceIte, ask_true, ↓X0, X1, Nat.reduceEqDiff, Int.reduceEq, Nat.reduceAdd, Nat.reduceSub, e0, e1, e5, g1.len, hlt, q1, q2, a3, hw]); with_reducible exact rfl)) | (apply Wp.andS) | (apply Wp.orS) | ((with_reducible first | apply Wp.gs | apply Wp.cs | apply Wp.cselX | apply Wp.askT | apply Wp.iteKT | apply Wp.ikb); case h => ((try simp (disch := omega) only [↓reduceIte, ask_true, ↓X0, X1, Nat.reduceEqDiff, Int.reduceEq, Nat.reduceAdd, Nat.reduceSub, e0, e1, e5, g1.len, hlt, q1, q2, a3, hw]); (with_reducible first | done | exact bT | exact bF))) | (with_reducible apply Wp.gu) | (simp only [↓X3]) | (with_reducible apply Wp.assoc))); try simp only [outOf_exit, outOf_ret]); try (with_reducible apply Wp.cargs; case h => ((try simp (disch := omega) only [↓reduceIte, ask_true, ↓X0, X1, Nat.reduceEqDiff, Int.reduceEq, Nat.reduceAdd, Nat.reduceSub, e0, e1, e5, g1.len, hlt, q1, q2, a3, hw]); with_reducible exact rfl)))
      exact Wp.pure (Nxt.ret ⟨by simp only; omega, s2, .inr ⟨rfl, by simp [put_at], fun h => he (by rw [h])⟩⟩)
  · (((repeat (first | (with_reducible apply Wp.step; case h => ((try simp (disch := omega) only [↓reduceIte, ask_true, ↓X0, X1, Nat.reduceEqDiff, Int.reduceEq, Nat.reduceAdd, Nat.reduceSub, e0, e1, e5, g1.len, hlt]); with_reducible exact rfl)) | (apply Wp.andS) | (apply Wp.orS) | ((with_reducible first | apply Wp.gs | apply Wp.cs | apply Wp.cselX | apply Wp.askT | apply Wp.iteKT | apply Wp.ikb); case h => ((try simp (disch := omega) only [↓reduceIte, ask_true, ↓X0, X1, Nat.reduceEqDiff, Int.reduceEq, Nat.reduceAdd, Nat.reduceSub, e0, e1, e5, g1.len, hlt]); (with_reducible first | done | exact bT | exact bF))) | (with_reducible apply Wp.gu) | (simp only [↓X3]) | (with_reducible apply Wp.assoc))); try simp only [outOf_exit, outOf_ret]); try (with_reducible apply Wp.cargs; case h => ((try simp (disch := omega) only [↓reduceIte, ask_true, ↓X0, X1, Nat.reduceEqDiff, Int.reduceEq, Nat.reduceAdd, Nat.reduceSub, e0, e1, e5, g1.len, hlt]); with_reducible exact rfl)))
    rw [List.take_of_length_le (by omega), List.take_of_length_le (by omega)] at htk
    exact Wp.pure (Nxt.exit ⟨Nat.le_trans hn (Nat.le_add_right _ _), hsm, .inl ⟨rfl, htk⟩⟩)
theorem k58 {n : Nat} {H : Hp} {v1 v2 : Value} {a b : List Ins} (h1 : Li eIns n H v1 a) (h2 : Li eIns n H v2 b) (hl : a.length ≤ 1000000000) : Rt Try.prog 58 [v1, v2] H n (.bool (decide (a = b))) := by
  unfold Rt
  rw [c58]; unfold S58
  by_cases hab : (a.length : Int) = b.length
  · simp (disch := omega) only [↓reduceIte, ask_true, ↓X0, X1, Nat.reduceEqDiff, Int.reduceEq, Nat.reduceAdd, Nat.reduceSub, h1.len, h2.len, hab]
    generalize hT : put _ _ _ = T
    obtain ⟨⟨oe, ot, oH, on⟩, f1, f2, f3, f4⟩ := l58 h1 h2 (by omega) hl T (n + 7) (by omega) (by rw [← hT]; simp [put_at, argsT_at]) (by rw [← hT]; simp [put_at, argsT_at]) (by rw [← hT]; simp [put_at])
    simp only at f2 f3 f4
    rw [f1]
    rcases f4 with ⟨rfl, f4⟩ | ⟨rfl, f4, f5⟩
    · simp (disch := omega) only [↓reduceIte, ask_true, ↓X0, X1, Nat.reduceEqDiff, Int.reduceEq, Nat.reduceAdd, Nat.reduceSub, outOf, f4]
      exact ⟨_, _, by omega, f3, rfl⟩
    · simp (disch := omega) only [↓reduceIte, ask_true, ↓X0, X1, Nat.reduceEqDiff, Int.reduceEq, Nat.reduceAdd, Nat.reduceSub, outOf, f4, f5]
      exact ⟨_, _, by omega, f3, rfl⟩
  · have hne : ¬ a = b := fun h => hab (by rw [h])
    simp (disch := omega) only [↓reduceIte, ask_true, ↓X0, X1, Nat.reduceEqDiff, Int.reduceEq, Nat.reduceAdd, Nat.reduceSub, h1.len, h2.len, hab, hne]
    exact ⟨_, _, by omega, Same.refl _ _, rfl⟩
theorem k96 (x : Df) (left : Int) (hx : x.s.size ≤ 9223372036854775807) (hl : 0 ≤ left ∧ left ≤ 9000000000000000000) (H : Hp) (n : Nat) : Rt Try.prog 96 [.agg ⟨x.cells⟩, .int .i64 left] H n (.int .i64 (if left - x.s.size < 0 then -1 else left - x.s.size)) := by
  apply Rt.mk
  rw [c96]; unfold S96
  have hw : IntKind.i64.wrap (left - (x.s.size : Int)) = left - x.s.size := w64 (by omega)
  by_cases h : left - (x.s.size : Int) < 0
  · (((repeat (first | (with_reducible apply Wp.step; case h => ((try simp (disch := omega) only [↓reduceIte, ask_true, ↓X0, X1, Nat.reduceEqDiff, Int.reduceEq, Nat.reduceAdd, Nat.reduceSub, X2, Hp_ne, Nat.reduceLeDiff, Df.cells, hw, h]); with_reducible exact rfl)) | (apply Wp.andS) | (apply Wp.orS) | ((with_reducible first | apply Wp.gs | apply Wp.cs | apply Wp.cselX | apply Wp.askT | apply Wp.iteKT | apply Wp.ikb); case h => ((try simp (disch := omega) only [↓reduceIte, ask_true, ↓X0, X1, Nat.reduceEqDiff, Int.reduceEq, Nat.reduceAdd, Nat.reduceSub, X2, Hp_ne, Nat.reduceLeDiff, Df.cells, hw, h]); (with_reducible first | done | exact bT | exact bF))) | (with_reducible apply Wp.gu) | (simp only [↓X3]) | (with_reducible apply Wp.assoc))); try simp only [outOf_exit, outOf_ret]); try (with_reducible apply Wp.cargs; case h => ((try simp (disch := omega) only [↓reduceIte, ask_true, ↓X0, X1, Nat.reduceEqDiff, Int.reduceEq, Nat.reduceAdd, Nat.reduceSub, X2, Hp_ne, Nat.reduceLeDiff, Df.cells, hw, h]); with_reducible exact rfl)))
    exact Wp.pure ⟨by simp only; omega, (by intros; first | with_reducible rfl | simp (disch := omega) only [Hp_ne, Hp_same]), by simp only [h, if_true]⟩
  · (((repeat (first | (with_reducible apply Wp.step; case h => ((try simp (disch := omega) only [↓reduceIte, ask_true, ↓X0, X1, Nat.reduceEqDiff, Int.reduceEq, Nat.reduceAdd, Nat.reduceSub, X2, Hp_ne, Nat.reduceLeDiff, Df.cells, hw, h]); with_reducible exact rfl)) | (apply Wp.andS) | (apply Wp.orS) | ((with_reducible first | apply Wp.gs | apply Wp.cs | apply Wp.cselX | apply Wp.askT | apply Wp.iteKT | apply Wp.ikb); case h => ((try simp (disch := omega) only [↓reduceIte, ask_true, ↓X0, X1, Nat.reduceEqDiff, Int.reduceEq, Nat.reduceAdd, Nat.reduceSub, X2, Hp_ne, Nat.reduceLeDiff, Df.cells, hw, h]); (with_reducible first | done | exact bT | exact bF))) | (with_reducible apply Wp.gu) | (simp only [↓X3]) | (with_reducible apply Wp.assoc))); try simp only [outOf_exit, outOf_ret]); try (with_reducible apply Wp.cargs; case h => ((try simp (disch := omega) only [↓reduceIte, ask_true, ↓X0, X1, Nat.reduceEqDiff, Int.reduceEq, Nat.reduceAdd, Nat.reduceSub, X2, Hp_ne, Nat.reduceLeDiff, Df.cells, hw, h]); with_reducible exact rfl)))
    exact Wp.pure ⟨by simp only; omega, (by intros; first | with_reducible rfl | simp (disch := omega) only [Hp_ne, Hp_same]), by simp only [h, if_false]⟩
theorem l43 {n0 : Nat} {H0 : Hp} {v : Value} {l : List Df} (hv : Li eDef n0 H0 v l) (hs : ∀ x ∈ l, x.s.size ≤ 9223372036854775807) (hl : l.length ≤ 1048576) (m : Int) (hm : m ≤ 1048576) : ∀ t n, n0 ≤ n → t 0 = v → t 5 = .int .i64 0 → t 1 = .int .i64 m → 0 ≤ m →
    Wp (Loop (S43L0 (Call Try.prog) Loop) t H0 n) (fun o => n ≤ o.n ∧ Same n0 H0 o.H ∧ ((o.e = .exit 0 ∧ ∃ r : Int, 0 ≤ r ∧ r ≤ m ∧ o.t 1 = .int .i64 r ∧ ∀ x ∈ l, (x.s.size : Int) ≤ m) ∨ (o.e = .ret ∧ o.t 4 = .int .i64 (-1)))) := by
  intro t n hn0 e0 e5 e1 hm0
  refine Loop_rule (fun d t H n' => ∃ (j : Nat) (r : Int), j + d = l.length ∧ n ≤ n' ∧ Same n0 H0 H ∧ t 0 = v ∧ t 5 = .int .i64 j ∧ t 1 = .int .i64 r ∧ 0 ≤ r ∧ r ≤ m ∧ ∀ x ∈ l.take j, (x.s.size : Int) ≤ m) _ ?_ l.length t H0 n ⟨0, m, by omega, by omega, Same.refl _ _, e0, e5, e1, hm0, by omega, by simp⟩
  rintro d t H n' ⟨j, r, hj, hn, hsm, e0, e5, e1, hr0, hr1, hx⟩
  unfold S43L0
  have hv' := hv.keep hsm (Nat.le_refl _)
  by_cases hlt : (j : Int) < l.length
  · have hlt' : j < l.length := by omega
    have g := hv'.dAll (by omega) hlt
    have hmem := gi_mem (l := l) (by omega) hlt
    obtain ⟨H1, n1, a1, a2, a3⟩ := k96 (gi l (j : Int)) r (hs _ hmem) (by omega) H (n' + 11)
    by_cases h : r - ((gi l (j : Int)).s.size : Int) < 0
    · (((repeat (first | (with_reducible apply Wp.step; case h => ((try simp (disch := omega) only [↓reduceIte, ask_true, ↓X0, X1, Nat.reduceEqDiff, Int.reduceEq, Nat.reduceAdd, Nat.reduceSub, e0, e5, e1, hv'.len, hlt, g, a3, h]); with_reducible exact rfl)) | (apply Wp.andS) | (apply Wp.orS) | ((with_reducible first | apply Wp.gs | apply Wp.cs | apply Wp.cselX | apply Wp.askT | apply Wp.iteKT | apply Wp.ikb); case h => ((try simp (disch := omega) only [↓reduceIte, ask_true, ↓X0, X1, Nat.reduceEqDiff, Int.reduceEq, Nat.reduceAdd, Nat.reduceSub, e0, e5, e1, hv'.len, hlt, g, a3, h]); (with_reducible first | done | exact bT | exact bF))) | (with_reducible apply Wp.gu) | (simp only [↓X3]) | (with_reducible apply Wp.assoc))); try simp only [outOf_exit, outOf_ret]); try (with_reducible apply Wp.cargs; case h => ((try simp (disch := omega) only [↓reduceIte, ask_true, ↓X0, X1, Nat.reduceEqDiff, Int.reduceEq, Nat.reduceAdd, Nat.reduceSub, e0, e5, e1, hv'.len, hlt, g, a3, h]); with_reducible exact rfl)))
      exact Wp.pure (Nxt.ret ⟨by simp only; omega, hsm.trans (a2.less (show n0 ≤ n' + 11 by omega)) (Nat.le_refl _), .inr ⟨rfl, by simp [put_at]⟩⟩)
    · have hw := wj (j := j) (len := l.length) hlt' (by omega)
      (((repeat (first | (with_reducible apply Wp.step; case h => ((try simp (disch := omega) only [↓reduceIte, ask_true, ↓X0, X1, Nat.reduceEqDiff, Int.reduceEq, Nat.reduceAdd, Nat.reduceSub, e0, e5, e1, hv'.len, hlt, g, a3, h, hw]); with_reducible exact rfl)) | (apply Wp.andS) | (apply Wp.orS) | ((with_reducible first | apply Wp.gs | apply Wp.cs | apply Wp.cselX | apply Wp.askT | apply Wp.iteKT | apply Wp.ikb); case h => ((try simp (disch := omega) only [↓reduceIte, ask_true, ↓X0, X1, Nat.reduceEqDiff, Int.reduceEq, Nat.reduceAdd, Nat.reduceSub, e0, e5, e1, hv'.len, hlt, g, a3, h, hw]); (with_reducible first | done | exact bT | exact bF))) | (with_reducible apply Wp.gu) | (simp only [↓X3]) | (with_reducible apply Wp.assoc))); try simp only [outOf_exit, outOf_ret]); try (with_reducible apply Wp.cargs; case h => ((try simp (disch := omega) only [↓reduceIte, ask_true, ↓X0, X1, Nat.reduceEqDiff, Int.reduceEq, Nat.reduceAdd, Nat.reduceSub, e0, e5, e1, hv'.len, hlt, g, a3, h, hw]); with_reducible exact rfl)))
      refine Wp.pure (Nxt.go (d - 1) (by omega) ⟨j + 1, r - (gi l (j : Int)).s.size, by omega, by omega, hsm.trans (a2.less (show n0 ≤ n' + 11 by omega)) (Nat.le_refl _), by simp [put_at, e0], by simp [put_at], by simp [put_at], by omega, by omega, ?_⟩)
      intro x hx'
      rw [take_next hlt'] at hx'
      rcases List.mem_append.1 hx' with h' | h'
      · exact hx x h'
      · simp only [List.mem_cons, List.not_mem_nil, or_false] at h'
        rw [h', ← gi_nat hlt']; omega
  · (((repeat (first | (with_reducible apply Wp.step; case h => ((try simp (disch := omega) only [↓reduceIte, ask_true, ↓X0, X1, Nat.reduceEqDiff, Int.reduceEq, Nat.reduceAdd, Nat.reduceSub, e0, e5, e1, hv'.len, hlt]); with_reducible exact rfl)) | (apply Wp.andS) | (apply Wp.orS) | ((with_reducible first | apply Wp.gs | apply Wp.cs | apply Wp.cselX | apply Wp.askT | apply Wp.iteKT | apply Wp.ikb); case h => ((try simp (disch := omega) only [↓reduceIte, ask_true, ↓X0, X1, Nat.reduceEqDiff, Int.reduceEq, Nat.reduceAdd, Nat.reduceSub, e0, e5, e1, hv'.len, hlt]); (with_reducible first | done | exact bT | exact bF))) | (with_reducible apply Wp.gu) | (simp only [↓X3]) | (with_reducible apply Wp.assoc))); try simp only [outOf_exit, outOf_ret]); try (with_reducible apply Wp.cargs; case h => ((try simp (disch := omega) only [↓reduceIte, ask_true, ↓X0, X1, Nat.reduceEqDiff, Int.reduceEq, Nat.reduceAdd, Nat.reduceSub, e0, e5, e1, hv'.len, hlt]); with_reducible exact rfl)))
    rw [List.take_of_length_le (by omega)] at hx
    exact Wp.pure (Nxt.exit ⟨by simp only; omega, hsm, .inl ⟨rfl, r, hr0, hr1, by simp [put_at, e1], hx⟩⟩)
def LightD (l : List Df) (left r : Int) : Prop := -1 ≤ r ∧ r ≤ left ∧ (0 ≤ r → (l.length : Int) ≤ left ∧ ∀ x ∈ l, (x.s.size : Int) ≤ left)
theorem k43 {n : Nat} {H : Hp} {v : Value} {l : List Df} (hv : Li eDef n H v l) (hs : ∀ x ∈ l, x.s.size ≤ 9223372036854775807) (hl : l.length ≤ 9223372036854775807) (left : Int) (hleft : 0 ≤ left ∧ left ≤ 1048576) : ∃ r, LightD l left r ∧ Rt Try.prog 43 [v, .int .i64 left] H n (.int .i64 r) := by
  unfold Rt LightD
  rw [c43]; unfold S43
  have hw : IntKind.i64.wrap (left - (l.length : Int)) = left - l.length := w64 (by omega)
  by_cases h : left - (l.length : Int) < 0
  · refine ⟨-1, ⟨by omega, by omega, fun h => by omega⟩, ?_⟩
    simp (disch := omega) only [↓reduceIte, ask_true, ↓X0, X1, Nat.reduceEqDiff, Int.reduceEq, Nat.reduceAdd, Nat.reduceSub, hv.len, hw, h]
    exact ⟨_, _, by omega, Same.refl _ _, rfl⟩
  · simp (disch := omega) only [↓reduceIte, ask_true, ↓X0, X1, Nat.reduceEqDiff, Int.reduceEq, Nat.reduceAdd, Nat.reduceSub, hv.len, hw, h]
    generalize hT : put _ _ _ = T
    obtain ⟨⟨oe, ot, oH, on⟩, f1, f2, f3, f4⟩ := l43 hv hs (by omega) (left - l.length) (by omega) T (n + 9) (by omega) (by rw [← hT]; simp [put_at, argsT_at]) (by rw [← hT]; simp [put_at]) (by rw [← hT]; simp [put_at]) (by omega)
    simp only at f2 f3 f4
    rw [f1]
    rcases f4 with ⟨rfl, r, f4, f5, f6, f7⟩ | ⟨rfl, f4⟩
    · refine ⟨r, ⟨by omega, by omega, fun _ => ⟨by omega, fun x hx => by have := f7 x hx; omega⟩⟩, ?_⟩
      simp (disch := omega) only [↓reduceIte, ask_true, ↓X0, X1, Nat.reduceEqDiff, Int.reduceEq, Nat.reduceAdd, Nat.reduceSub, outOf, f6]
      exact ⟨_, _, by omega, f3, rfl⟩
    · refine ⟨-1, ⟨by omega, by omega, fun h => by omega⟩, ?_⟩
      simp (disch := omega) only [↓reduceIte, ask_true, ↓X0, X1, Nat.reduceEqDiff, Int.reduceEq, Nat.reduceAdd, Nat.reduceSub, outOf, f4]
      exact ⟨_, _, by omega, f3, rfl⟩
theorem k100 (x : Df) (H : Hp) (n : Nat) : Rt Try.prog 100 [.agg ⟨x.cells⟩] H n (.agg ⟨x.cells⟩) := by
  apply Rt.mk
  rw [c100]; unfold S100
  (((repeat (first | (with_reducible apply Wp.step; case h => ((try simp (disch := omega) only [↓reduceIte, ask_true, ↓X0, X1, Nat.reduceEqDiff, Int.reduceEq, Nat.reduceAdd, Nat.reduceSub, X2, Hp_ne, Nat.reduceLeDiff, Df.cells]); with_reducible exact rfl)) | (apply Wp.andS) | (apply Wp.orS) | ((with_reducible first | apply Wp.gs | apply Wp.cs | apply Wp.cselX | apply Wp.askT | apply Wp.iteKT | apply Wp.ikb); case h => ((try simp (disch := omega) only [↓reduceIte, ask_true, ↓X0, X1, Nat.reduceEqDiff, Int.reduceEq, Nat.reduceAdd, Nat.reduceSub, X2, Hp_ne, Nat.reduceLeDiff, Df.cells]); (with_reducible first | done | exact bT | exact bF))) | (with_reducible apply Wp.gu) | (simp only [↓X3]) | (with_reducible apply Wp.assoc))); try simp only [outOf_exit, outOf_ret]); try (with_reducible apply Wp.cargs; case h => ((try simp (disch := omega) only [↓reduceIte, ask_true, ↓X0, X1, Nat.reduceEqDiff, Int.reduceEq, Nat.reduceAdd, Nat.reduceSub, X2, Hp_ne, Nat.reduceLeDiff, Df.cells]); with_reducible exact rfl)))
  exact Wp.pure ⟨by simp only; omega, (by intros; first | with_reducible rfl | simp (disch := omega) only [Hp_ne, Hp_same]), rfl⟩
theorem l50 {n0 id : Nat} {H0 : Hp} {v : Value} {l : List Df} (hv : Li eDef n0 H0 v l) (hid : n0 ≤ id) (hl : l.length ≤ 100000000) : ∀ t H n, id < n → Same n0 H0 H → t 0 = v → t 3 = sl id 0 l.length → t 4 = .int .i64 0 → H id = some (.row ((List.replicate l.length (default : Df)).flatMap eDef.cells) 3 true) →
    Wp (Loop (S50L0 (Call Try.prog) Loop) t H n) (fun o => n ≤ o.n ∧ Same n0 H0 o.H ∧ o.e = .exit 0 ∧ o.t 3 = sl id 0 l.length ∧ o.H id = some (.row (l.flatMap eDef.cells) 3 true)) := by
  intro t H n hn0 hsm e0 e3 e4 hH
  refine Loop_rule (fun d t H n' => ∃ (j : Nat), j + d = l.length ∧ n ≤ n' ∧ Same n0 H0 H ∧ t 0 = v ∧ t 3 = sl id 0 l.length ∧ t 4 = .int .i64 j ∧ H id = some (.row ((l.take j ++ List.replicate d (default : Df)).flatMap eDef.cells) 3 true)) _ ?_ l.length t H n ⟨0, by omega, by omega, hsm, e0, e3, e4, by simpa using hH⟩
  rintro d t H n' ⟨j, hj, hn, hsm, e0, e3, e4, hH⟩
  unfold S50L0
  have hv' := hv.keep hsm (Nat.le_refl _)
  by_cases hlt : (j : Int) < l.length
  · have hlt' : j < l.length := by omega
    obtain ⟨d, rfl⟩ : ∃ d', d = d' + 1 := ⟨d - 1, by omega⟩
    have g := hv'.dAll (by omega) hlt
    have hw := wj (j := j) (len := l.length) hlt' (by omega)
    obtain ⟨H1, n1, a1, a2, a3⟩ := k100 (gi l (j : Int)) H (n' + 13)
    have hix : idxA 3 (sl id 0 l.length) (.int .i64 j) = some (ptr id (j * 3)) := by simp [idxA, hlt']
    have hst : st true 3 (ptr id (j * 3)) (.agg ⟨(gi l (j : Int)).cells⟩) H1 = some (H1.set id (some (.row ((l.take (j + 1) ++ List.replicate d (default : Df)).flatMap eDef.cells) 3 true))) := by
      rw [st_agg, if_pos (show (gi l (j : Int)).cells.length = 3 from rfl)]
      have hH1 : H1 id = some (.row ((l.take j ++ List.replicate (d + 1) (default : Df)).flatMap eDef.cells) 3 true) := by rw [a2 id (by omega)]; exact hH
      have := st_el (E := eDef) hH1 (j := j) (by simp; omega) (gi l (j : Int))
      have hset : (l.take j ++ List.replicate (d + 1) (default : Df)).set j (gi l (j : Int)) = l.take (j + 1) ++ List.replicate d default := by
        rw [take_next hlt', gi_nat hlt', List.replicate_succ, List.set_append_right _ _ (by rw [List.length_take]; omega)]
        rw [List.length_take, Nat.min_eq_left (by omega), Nat.sub_self, List.set_cons_zero, List.append_assoc]
        rfl
      rw [hset] at this
      exact this
    (((repeat (first | (with_reducible apply Wp.step; case h => ((try simp (disch := omega) only [↓reduceIte, ask_true, ↓X0, X1, Nat.reduceEqDiff, Int.reduceEq, Nat.reduceAdd, Nat.reduceSub, e0, e3, e4, hv'.len, hlt, g, a3, hix, hst, hw]); with_reducible exact rfl)) | (apply Wp.andS) | (apply Wp.orS) | ((with_reducible first | apply Wp.gs | apply Wp.cs | apply Wp.cselX | apply Wp.askT | apply Wp.iteKT | apply Wp.ikb); case h => ((try simp (disch := omega) only [↓reduceIte, ask_true, ↓X0, X1, Nat.reduceEqDiff, Int.reduceEq, Nat.reduceAdd, Nat.reduceSub, e0, e3, e4, hv'.len, hlt, g, a3, hix, hst, hw]); (with_reducible first | done | exact bT | exact bF))) | (with_reducible apply Wp.gu) | (simp only [↓X3]) | (with_reducible apply Wp.assoc))); try simp only [outOf_exit, outOf_ret]); try (with_reducible apply Wp.cargs; case h => ((try simp (disch := omega) only [↓reduceIte, ask_true, ↓X0, X1, Nat.reduceEqDiff, Int.reduceEq, Nat.reduceAdd, Nat.reduceSub, e0, e3, e4, hv'.len, hlt, g, a3, hix, hst, hw]); with_reducible exact rfl)))
    exact Wp.pure (Nxt.go d (by omega) ⟨j + 1, by omega, by omega, (hsm.trans (a2.less (show n0 ≤ n' + 13 by omega)) (Nat.le_refl _)).set hid _, by simp [put_at, e0], by simp [put_at, e3], by simp [put_at], Hp_same _ _ _⟩)
  · (((repeat (first | (with_reducible apply Wp.step; case h => ((try simp (disch := omega) only [↓reduceIte, ask_true, ↓X0, X1, Nat.reduceEqDiff, Int.reduceEq, Nat.reduceAdd, Nat.reduceSub, e0, e3, e4, hv'.len, hlt]); with_reducible exact rfl)) | (apply Wp.andS) | (apply Wp.orS) | ((with_reducible first | apply Wp.gs | apply Wp.cs | apply Wp.cselX | apply Wp.askT | apply Wp.iteKT | apply Wp.ikb); case h => ((try simp (disch := omega) only [↓reduceIte, ask_true, ↓X0, X1, Nat.reduceEqDiff, Int.reduceEq, Nat.reduceAdd, Nat.reduceSub, e0, e3, e4, hv'.len, hlt]); (with_reducible first | done | exact bT | exact bF))) | (with_reducible apply Wp.gu) | (simp only [↓X3]) | (with_reducible apply Wp.assoc))); try simp only [outOf_exit, outOf_ret]); try (with_reducible apply Wp.cargs; case h => ((try simp (disch := omega) only [↓reduceIte, ask_true, ↓X0, X1, Nat.reduceEqDiff, Int.reduceEq, Nat.reduceAdd, Nat.reduceSub, e0, e3, e4, hv'.len, hlt]); with_reducible exact rfl)))
    have hd : d = 0 := by omega
    subst hd
    rw [List.take_of_length_le (by omega)] at hH
    exact Wp.pure (Nxt.exit ⟨Nat.le_trans hn (Nat.le_add_right _ _), hsm, rfl, by simp [put_at, e3], by simpa using hH⟩)
theorem k50 {n : Nat} {H : Hp} {v : Value} {l : List Df} (hv : Li eDef n H v l) (hl : l.length ≤ 100000000) : RtN Try.prog 50 [v] H n (fun w H' n' => New eDef n n' H' w l) := by
  unfold RtN
  rw [c50]; unfold S50
  have hm := mks_new eDef (default : Df) (id := n + 3) (bytes := 32) (k := l.length) H (by decide) (by omega)
  have hz : eDef.cells (default : Df) = [.string ⟨#[]⟩, .int .i64 0, .int .i64 0] := rfl
  rw [hz] at hm
  simp (disch := omega) only [↓reduceIte, ask_true, ↓X0, X1, Nat.reduceEqDiff, Int.reduceEq, Nat.reduceAdd, Nat.reduceSub, hv.len, hm]
  generalize hT : put _ _ _ = T
  obtain ⟨⟨oe, ot, oH, on⟩, f1, f2, f3, f4, f5, f6⟩ := l50 (id := n + 3) hv (by omega) hl T (H.set (n + 3) (some (.row ((List.replicate l.length (default : Df)).flatMap eDef.cells) 3 true))) (n + 6) (by omega) ((Same.refl _ _).set (by omega) _) (by rw [← hT]; simp [put_at, argsT_at]) (by rw [← hT]; simp [put_at]) (by rw [← hT]; simp [put_at]) (Hp_same _ _ _)
  simp only at f2 f3 f4 f5 f6
  rw [f1]
  simp (disch := omega) only [↓reduceIte, ask_true, ↓X0, X1, Nat.reduceEqDiff, Int.reduceEq, Nat.reduceAdd, Nat.reduceSub, f5]
  exact ⟨_, _, _, by omega, f3, rfl, n + 3, by omega, by omega, .inr ⟨rfl, f6⟩⟩
theorem k105 (x y : Df) (H : Hp) (n : Nat) : Rt Try.prog 105 [.agg ⟨x.cells⟩, .agg ⟨y.cells⟩] H n (.bool (decide (x = y))) := by
  apply Rt.mk
  rw [c105]; unfold S105
  have hxy : (x = y) = (x.s = y.s ∧ x.at_ = y.at_ ∧ x.args = y.args) := by
    apply propext; constructor
    · rintro rfl; exact ⟨rfl, rfl, rfl⟩
    · rintro ⟨a, b, c⟩; cases x; cases y; simp_all
  by_cases h0 : x.s = y.s
  case neg =>
    (((repeat (first | (with_reducible apply Wp.step; case h => ((try simp (disch := omega) only [↓reduceIte, ask_true, ↓X0, X1, Nat.reduceEqDiff, Int.reduceEq, Nat.reduceAdd, Nat.reduceSub, X2, Hp_ne, Nat.reduceLeDiff, Df.cells, h0]); with_reducible exact rfl)) | (apply Wp.andS) | (apply Wp.orS) | ((with_reducible first | apply Wp.gs | apply Wp.cs | apply Wp.cselX | apply Wp.askT | apply Wp.iteKT | apply Wp.ikb); case h => ((try simp (disch := omega) only [↓reduceIte, ask_true, ↓X0, X1, Nat.reduceEqDiff, Int.reduceEq, Nat.reduceAdd, Nat.reduceSub, X2, Hp_ne, Nat.reduceLeDiff, Df.cells, h0]); (with_reducible first | done | exact bT | exact bF))) | (with_reducible apply Wp.gu) | (simp only [↓X3]) | (with_reducible apply Wp.assoc))); try simp only [outOf_exit, outOf_ret]); try (with_reducible apply Wp.cargs; case h => ((try simp (disch := omega) only [↓reduceIte, ask_true, ↓X0, X1, Nat.reduceEqDiff, Int.reduceEq, Nat.reduceAdd, Nat.reduceSub, X2, Hp_ne, Nat.reduceLeDiff, Df.cells, h0]); with_reducible exact rfl)))
    exact Wp.pure ⟨by simp only; omega, (by intros; first | with_reducible rfl | simp (disch := omega) only [Hp_ne, Hp_same]), by rw [decide_eq_false (fun h => h0 (by rw [h]))]⟩
  by_cases h1 : x.at_ = y.at_
  case neg =>
    (((repeat (first | (with_reducible apply Wp.step; case h => ((try simp (disch := omega) only [↓reduceIte, ask_true, ↓X0, X1, Nat.reduceEqDiff, Int.reduceEq, Nat.reduceAdd, Nat.reduceSub, X2, Hp_ne, Nat.reduceLeDiff, Df.cells, h0, h1]); with_reducible exact rfl)) | (apply Wp.andS) | (apply Wp.orS) | ((with_reducible first | apply Wp.gs | apply Wp.cs | apply Wp.cselX | apply Wp.askT | apply Wp.iteKT | apply Wp.ikb); case h => ((try simp (disch := omega) only [↓reduceIte, ask_true, ↓X0, X1, Nat.reduceEqDiff, Int.reduceEq, Nat.reduceAdd, Nat.reduceSub, X2, Hp_ne, Nat.reduceLeDiff, Df.cells, h0, h1]); (with_reducible first | done | exact bT | exact bF))) | (with_reducible apply Wp.gu) | (simp only [↓X3]) | (with_reducible apply Wp.assoc))); try simp only [outOf_exit, outOf_ret]); try (with_reducible apply Wp.cargs; case h => ((try simp (disch := omega) only [↓reduceIte, ask_true, ↓X0, X1, Nat.reduceEqDiff, Int.reduceEq, Nat.reduceAdd, Nat.reduceSub, X2, Hp_ne, Nat.reduceLeDiff, Df.cells, h0, h1]); with_reducible exact rfl)))
    exact Wp.pure ⟨by simp only; omega, (by intros; first | with_reducible rfl | simp (disch := omega) only [Hp_ne, Hp_same]), by rw [decide_eq_false (fun h => h1 (by rw [h]))]⟩
  by_cases h2 : x.args = y.args
  case neg =>
    (((repeat (first | (with_reducible apply Wp.step; case h => ((try simp (disch := omega) only [↓reduceIte, ask_true, ↓X0, X1, Nat.reduceEqDiff, Int.reduceEq, Nat.reduceAdd, Nat.reduceSub, X2, Hp_ne, Nat.reduceLeDiff, Df.cells, h0, h1, h2]); with_reducible exact rfl)) | (apply Wp.andS) | (apply Wp.orS) | ((with_reducible first | apply Wp.gs | apply Wp.cs | apply Wp.cselX | apply Wp.askT | apply Wp.iteKT | apply Wp.ikb); case h => ((try simp (disch := omega) only [↓reduceIte, ask_true, ↓X0, X1, Nat.reduceEqDiff, Int.reduceEq, Nat.reduceAdd, Nat.reduceSub, X2, Hp_ne, Nat.reduceLeDiff, Df.cells, h0, h1, h2]); (with_reducible first | done | exact bT | exact bF))) | (with_reducible apply Wp.gu) | (simp only [↓X3]) | (with_reducible apply Wp.assoc))); try simp only [outOf_exit, outOf_ret]); try (with_reducible apply Wp.cargs; case h => ((try simp (disch := omega) only [↓reduceIte, ask_true, ↓X0, X1, Nat.reduceEqDiff, Int.reduceEq, Nat.reduceAdd, Nat.reduceSub, X2, Hp_ne, Nat.reduceLeDiff, Df.cells, h0, h1, h2]); with_reducible exact rfl)))
    exact Wp.pure ⟨by simp only; omega, (by intros; first | with_reducible rfl | simp (disch := omega) only [Hp_ne, Hp_same]), by rw [decide_eq_false (fun h => h2 (by rw [h]))]⟩
  (((repeat (first | (with_reducible apply Wp.step; case h => ((try simp (disch := omega) only [↓reduceIte, ask_true, ↓X0, X1, Nat.reduceEqDiff, Int.reduceEq, Nat.reduceAdd, Nat.reduceSub, X2, Hp_ne, Nat.reduceLeDiff, Df.cells, h0, h1, h2]); with_reducible exact rfl)) | (apply Wp.andS) | (apply Wp.orS) | ((with_reducible first | apply Wp.gs | apply Wp.cs | apply Wp.cselX | apply Wp.askT | apply Wp.iteKT | apply Wp.ikb); case h => ((try simp (disch := omega) only [↓reduceIte, ask_true, ↓X0, X1, Nat.reduceEqDiff, Int.reduceEq, Nat.reduceAdd, Nat.reduceSub, X2, Hp_ne, Nat.reduceLeDiff, Df.cells, h0, h1, h2]); (with_reducible first | done | exact bT | exact bF))) | (with_reducible apply Wp.gu) | (simp only [↓X3]) | (with_reducible apply Wp.assoc))); try simp only [outOf_exit, outOf_ret]); try (with_reducible apply Wp.cargs; case h => ((try simp (disch := omega) only [↓reduceIte, ask_true, ↓X0, X1, Nat.reduceEqDiff, Int.reduceEq, Nat.reduceAdd, Nat.reduceSub, X2, Hp_ne, Nat.reduceLeDiff, Df.cells, h0, h1, h2]); with_reducible exact rfl)))
  exact Wp.pure ⟨by simp only; omega, (by intros; first | with_reducible rfl | simp (disch := omega) only [Hp_ne, Hp_same]), by rw [decide_eq_true (hxy ▸ ⟨h0, h1, h2⟩)]⟩
theorem l59 {n0 : Nat} {H0 : Hp} {v1 v2 : Value} {a b : List Df} (h1 : Li eDef n0 H0 v1 a) (h2 : Li eDef n0 H0 v2 b) (hab : a.length = b.length) (hl : a.length ≤ 1000000000) : ∀ t n, n0 ≤ n → t 0 = v1 → t 1 = v2 → t 5 = .int .i64 0 →
    Wp (Loop (S59L0 (Call Try.prog) Loop) t H0 n) (fun o => n ≤ o.n ∧ Same n0 H0 o.H ∧ ((o.e = .exit 0 ∧ a = b) ∨ (o.e = .ret ∧ o.t 4 = .bool false ∧ a ≠ b))) := by
  intro t n hn0 e0 e1 e5
  refine Loop_rule (fun d t H n' => ∃ (j : Nat), j + d = a.length ∧ n ≤ n' ∧ Same n0 H0 H ∧ t 0 = v1 ∧ t 1 = v2 ∧ t 5 = .int .i64 j ∧ a.take j = b.take j) _ ?_ a.length t H0 n ⟨0, by omega, by omega, Same.refl _ _, e0, e1, e5, by simp⟩
  rintro d t H n' ⟨j, hj, hn, hsm, e0, e1, e5, htk⟩
  unfold S59L0
  have g1 := h1.keep hsm (Nat.le_refl _)
  have g2 := h2.keep hsm (Nat.le_refl _)
  by_cases hlt : (j : Int) < a.length
  · have ha : j < a.length := by omega
    have hb : j < b.length := by omega
    have q1 := g1.dAll (by omega) hlt
    have q2 := g2.dAll (i := (j : Int)) (by omega) (by omega)
    have hw := wj (j := j) (len := a.length) ha (by omega)
    obtain ⟨H1, n1, a1, a2, a3⟩ := k105 (gi a (j : Int)) (gi b (j : Int)) H (n' + 14)
    have s2 := hsm.trans (a2.less (show n0 ≤ n' + 14 by omega)) (Nat.le_refl _)
    by_cases he : gi a (j : Int) = gi b (j : Int)
    · rw [decide_eq_true he] at a3
      (((repeat (first | (with_reducible apply Wp.step; case h => ((try simp (disch := omega) only [↓reduceIte, ask_true, ↓X0, X1, Nat.reduceEqDiff, Int.reduceEq, Nat.reduceAdd, Nat.reduceSub, e0, e1, e5, g1.len, hlt, q1, q2, a3, hw]); with_reducible exact rfl)) | (apply Wp.andS) | (apply Wp.orS) | ((with_reducible first | apply Wp.gs | apply Wp.cs | apply Wp.cselX | apply Wp.askT | apply Wp.iteKT | apply Wp.ikb); case h => ((try simp (disch := omega) only [↓reduceIte, ask_true, ↓X0, X1, Nat.reduceEqDiff, Int.reduceEq, Nat.reduceAdd, Nat.reduceSub, e0, e1, e5, g1.len, hlt, q1, q2, a3, hw]); (with_reducible first | done | exact bT | exact bF))) | (with_reducible apply Wp.gu) | (simp only [↓X3]) | (with_reducible apply Wp.assoc))); try simp only [outOf_exit, outOf_ret]); try (with_reducible apply Wp.cargs; case h => ((try simp (disch := omega) only [↓reduceIte, ask_true, ↓X0, X1, Nat.reduceEqDiff, Int.reduceEq, Nat.reduceAdd, Nat.reduceSub, e0, e1, e5, g1.len, hlt, q1, q2, a3, hw]); with_reducible exact rfl)))
      exact Wp.pure (Nxt.go (d - 1) (by omega) ⟨j + 1, by omega, by omega, s2, by simp [put_at, e0], by simp [put_at, e1], by simp [put_at], by rw [take_next ha, take_next hb, htk, ← gi_nat ha, ← gi_nat hb, he]⟩)
    · rw [decide_eq_false he] at a3
      (((repeat (first | (with_reducible apply Wp.step; case h => ((try simp (disch := omega) only [↓reduceIte, ask_true, ↓X0, X1, Nat.reduceEqDiff, Int.reduceEq, Nat.reduceAdd, Nat.reduceSub, e0, e1, e5, g1.len, hlt, q1, q2, a3, hw]); with_reducible exact rfl)) | (apply Wp.andS) | (apply Wp.orS) | ((with_reducible first | apply Wp.gs | apply Wp.cs | apply Wp.cselX | apply Wp.askT | apply Wp.iteKT | apply Wp.ikb); case h => ((try simp (disch := omega) only [↓reduceIte, ask_true, ↓X0, X1, Nat.reduceEqDiff, Int.reduceEq, Nat.reduceAdd, Nat.reduceSub, e0, e1, e5, g1.len, hlt, q1, q2, a3, hw]); (with_reducible first | done | exact bT | exact bF))) | (with_reducible apply Wp.gu) | (simp only [↓X3]) | (with_reducible apply Wp.assoc))); try simp only [outOf_exit, outOf_ret]); try (with_reducible apply Wp.cargs; case h => ((try simp (disch := omega) only [↓reduceIte, ask_true, ↓X0, X1, Nat.reduceEqDiff, Int.reduceEq, Nat.reduceAdd, Nat.reduceSub, e0, e1, e5, g1.len, hlt, q1, q2, a3, hw]); with_reducible exact rfl)))
      exact Wp.pure (Nxt.ret ⟨by simp only; omega, s2, .inr ⟨rfl, by simp [put_at], fun h => he (by rw [h])⟩⟩)
  · (((repeat (first | (with_reducible apply Wp.step; case h => ((try simp (disch := omega) only [↓reduceIte, ask_true, ↓X0, X1, Nat.reduceEqDiff, Int.reduceEq, Nat.reduceAdd, Nat.reduceSub, e0, e1, e5, g1.len, hlt]); with_reducible exact rfl)) | (apply Wp.andS) | (apply Wp.orS) | ((with_reducible first | apply Wp.gs | apply Wp.cs | apply Wp.cselX | apply Wp.askT | apply Wp.iteKT | apply Wp.ikb); case h => ((try simp (disch := omega) only [↓reduceIte, ask_true, ↓X0, X1, Nat.reduceEqDiff, Int.reduceEq, Nat.reduceAdd, Nat.reduceSub, e0, e1, e5, g1.len, hlt]); (with_reducible first | done | exact bT | exact bF))) | (with_reducible apply Wp.gu) | (simp only [↓X3]) | (with_reducible apply Wp.assoc))); try simp only [outOf_exit, outOf_ret]); try (with_reducible apply Wp.cargs; case h => ((try simp (disch := omega) only [↓reduceIte, ask_true, ↓X0, X1, Nat.reduceEqDiff, Int.reduceEq, Nat.reduceAdd, Nat.reduceSub, e0, e1, e5, g1.len, hlt]); with_reducible exact rfl)))
    rw [List.take_of_length_le (by omega), List.take_of_length_le (by omega)] at htk
    exact Wp.pure (Nxt.exit ⟨Nat.le_trans hn (Nat.le_add_right _ _), hsm, .inl ⟨rfl, htk⟩⟩)
theorem k59 {n : Nat} {H : Hp} {v1 v2 : Value} {a b : List Df} (h1 : Li eDef n H v1 a) (h2 : Li eDef n H v2 b) (hl : a.length ≤ 1000000000) : Rt Try.prog 59 [v1, v2] H n (.bool (decide (a = b))) := by
  unfold Rt
  rw [c59]; unfold S59
  by_cases hab : (a.length : Int) = b.length
  · simp (disch := omega) only [↓reduceIte, ask_true, ↓X0, X1, Nat.reduceEqDiff, Int.reduceEq, Nat.reduceAdd, Nat.reduceSub, h1.len, h2.len, hab]
    generalize hT : put _ _ _ = T
    obtain ⟨⟨oe, ot, oH, on⟩, f1, f2, f3, f4⟩ := l59 h1 h2 (by omega) hl T (n + 7) (by omega) (by rw [← hT]; simp [put_at, argsT_at]) (by rw [← hT]; simp [put_at, argsT_at]) (by rw [← hT]; simp [put_at])
    simp only at f2 f3 f4
    rw [f1]
    rcases f4 with ⟨rfl, f4⟩ | ⟨rfl, f4, f5⟩
    · simp (disch := omega) only [↓reduceIte, ask_true, ↓X0, X1, Nat.reduceEqDiff, Int.reduceEq, Nat.reduceAdd, Nat.reduceSub, outOf, f4]
      exact ⟨_, _, by omega, f3, rfl⟩
    · simp (disch := omega) only [↓reduceIte, ask_true, ↓X0, X1, Nat.reduceEqDiff, Int.reduceEq, Nat.reduceAdd, Nat.reduceSub, outOf, f4, f5]
      exact ⟨_, _, by omega, f3, rfl⟩
  · have hne : ¬ a = b := fun h => hab (by rw [h])
    simp (disch := omega) only [↓reduceIte, ask_true, ↓X0, X1, Nat.reduceEqDiff, Int.reduceEq, Nat.reduceAdd, Nat.reduceSub, h1.len, h2.len, hab, hne]
    exact ⟨_, _, by omega, Same.refl _ _, rfl⟩
def LightC (l : List Nd) (li : List Ins) (ld : List Df) (left r : Int) : Prop := -1 ≤ r ∧ r ≤ left ∧ (0 ≤ r → ((l.length : Int) ≤ left ∧ ∀ x ∈ l, (x.s.size : Int) ≤ left) ∧ ((li.length : Int) ≤ left ∧ ∀ x ∈ li, (x.s.size : Int) ≤ left) ∧ ((ld.length : Int) ≤ left ∧ ∀ x ∈ ld, (x.s.size : Int) ≤ left))
theorem k8 {n : Nat} {H : Hp} {v vl vd : Value} {l : List Nd} {li : List Ins} {ld : List Df} (hv : Li eNode n H v l) (hs : ∀ x ∈ l, x.s.size ≤ 9223372036854775807) (hl : l.length ≤ 9223372036854775807) (hvl : Li eIns n H vl li) (hsl : ∀ x ∈ li, x.s.size ≤ 9223372036854775807) (hll : li.length ≤ 9223372036854775807) (hvd : Li eDef n H vd ld) (hsd : ∀ x ∈ ld, x.s.size ≤ 9223372036854775807) (hld : ld.length ≤ 9223372036854775807) (left : Int) (hleft : 0 ≤ left ∧ left ≤ 1048576) : ∃ r, LightC l li ld left r ∧ Rt Try.prog 8 [.agg ⟨[v, vl, vd]⟩, .int .i64 left] H n (.int .i64 r) := by
  have hb : ∀ i, i < n → (H.set n (some (.row [v, vl, vd] 0 true))) i = H i := (by intros; first | with_reducible rfl | simp (disch := omega) only [Hp_ne, Hp_same])
  obtain ⟨r1, a1, H1, n1, b1, c1, d1⟩ := k9 (H := H.set n (some (.row [v, vl, vd] 0 true))) (n := n + 7) (hv.mv (by omega) hb) hs hl left hleft
  have a12 := a1.2.1
  have e1 : ∀ i, i < n + 7 → H1 i = (H.set n (some (.row [v, vl, vd] 0 true))) i := c1
  by_cases h1 : r1 < 0
  · refine ⟨-1, ⟨by omega, by omega, fun h => by omega⟩, ?_⟩
    apply Rt.mk
    rw [c8]; unfold S8
    (((repeat (first | (with_reducible apply Wp.step; case h => ((try simp (disch := omega) only [↓reduceIte, ask_true, ↓X0, X1, Nat.reduceEqDiff, Int.reduceEq, Nat.reduceAdd, Nat.reduceSub, X2, Hp_ne, Nat.reduceLeDiff, d1, h1]); with_reducible exact rfl)) | (apply Wp.andS) | (apply Wp.orS) | ((with_reducible first | apply Wp.gs | apply Wp.cs | apply Wp.cselX | apply Wp.askT | apply Wp.iteKT | apply Wp.ikb); case h => ((try simp (disch := omega) only [↓reduceIte, ask_true, ↓X0, X1, Nat.reduceEqDiff, Int.reduceEq, Nat.reduceAdd, Nat.reduceSub, X2, Hp_ne, Nat.reduceLeDiff, d1, h1]); (with_reducible first | done | exact bT | exact bF))) | (with_reducible apply Wp.gu) | (simp only [↓X3]) | (with_reducible apply Wp.assoc))); try simp only [outOf_exit, outOf_ret]); try (with_reducible apply Wp.cargs; case h => ((try simp (disch := omega) only [↓reduceIte, ask_true, ↓X0, X1, Nat.reduceEqDiff, Int.reduceEq, Nat.reduceAdd, Nat.reduceSub, X2, Hp_ne, Nat.reduceLeDiff, d1, h1]); with_reducible exact rfl)))
    exact Wp.pure ⟨by simp only; omega, (by intros; first | with_reducible rfl | simp (disch := omega) only [Hp_ne, Hp_same, e1]), rfl⟩
  obtain ⟨r2, a2, H2, n2, b2, c2, d2⟩ := k42 (H := H1) (n := n1 + 7) (hvl.mv (by omega) (by intros; first | with_reducible rfl | simp (disch := omega) only [Hp_ne, Hp_same, e1])) hsl hll r1 (by omega)
  have a22 := a2.2.1
  have e2 : ∀ i, i < n1 + 7 → H2 i = H1 i := c2
  by_cases h2 : r2 < 0
  · refine ⟨-1, ⟨by omega, by omega, fun h => by omega⟩, ?_⟩
    apply Rt.mk
    rw [c8]; unfold S8
    (((repeat (first | (with_reducible apply Wp.step; case h => ((try simp (disch := omega) only [↓reduceIte, ask_true, ↓X0, X1, Nat.reduceEqDiff, Int.reduceEq, Nat.reduceAdd, Nat.reduceSub, X2, Hp_ne, Nat.reduceLeDiff, d1, h1, e1, d2, h2]); with_reducible exact rfl)) | (apply Wp.andS) | (apply Wp.orS) | ((with_reducible first | apply Wp.gs | apply Wp.cs | apply Wp.cselX | apply Wp.askT | apply Wp.iteKT | apply Wp.ikb); case h => ((try simp (disch := omega) only [↓reduceIte, ask_true, ↓X0, X1, Nat.reduceEqDiff, Int.reduceEq, Nat.reduceAdd, Nat.reduceSub, X2, Hp_ne, Nat.reduceLeDiff, d1, h1, e1, d2, h2]); (with_reducible first | done | exact bT | exact bF))) | (with_reducible apply Wp.gu) | (simp only [↓X3]) | (with_reducible apply Wp.assoc))); try simp only [outOf_exit, outOf_ret]); try (with_reducible apply Wp.cargs; case h => ((try simp (disch := omega) only [↓reduceIte, ask_true, ↓X0, X1, Nat.reduceEqDiff, Int.reduceEq, Nat.reduceAdd, Nat.reduceSub, X2, Hp_ne, Nat.reduceLeDiff, d1, h1, e1, d2, h2]); with_reducible exact rfl)))
    exact Wp.pure ⟨by simp only; omega, (by intros; first | with_reducible rfl | simp (disch := omega) only [Hp_ne, Hp_same, e2, e1]), rfl⟩
  obtain ⟨r3, a3, H3, n3, b3, c3, d3⟩ := k43 (H := H2) (n := n2 + 7) (hvd.mv (by omega) (by intros; first | with_reducible rfl | simp (disch := omega) only [Hp_ne, Hp_same, e2, e1])) hsd hld r2 (by omega)
  have a32 := a3.2.1
  have e3 : ∀ i, i < n2 + 7 → H3 i = H2 i := c3
  by_cases h3 : r3 < 0
  · refine ⟨-1, ⟨by omega, by omega, fun h => by omega⟩, ?_⟩
    apply Rt.mk
    rw [c8]; unfold S8
    (((repeat (first | (with_reducible apply Wp.step; case h => ((try simp (disch := omega) only [↓reduceIte, ask_true, ↓X0, X1, Nat.reduceEqDiff, Int.reduceEq, Nat.reduceAdd, Nat.reduceSub, X2, Hp_ne, Nat.reduceLeDiff, d1, h1, e1, e2, d2, h2, d3, h3]); with_reducible exact rfl)) | (apply Wp.andS) | (apply Wp.orS) | ((with_reducible first | apply Wp.gs | apply Wp.cs | apply Wp.cselX | apply Wp.askT | apply Wp.iteKT | apply Wp.ikb); case h => ((try simp (disch := omega) only [↓reduceIte, ask_true, ↓X0, X1, Nat.reduceEqDiff, Int.reduceEq, Nat.reduceAdd, Nat.reduceSub, X2, Hp_ne, Nat.reduceLeDiff, d1, h1, e1, e2, d2, h2, d3, h3]); (with_reducible first | done | exact bT | exact bF))) | (with_reducible apply Wp.gu) | (simp only [↓X3]) | (with_reducible apply Wp.assoc))); try simp only [outOf_exit, outOf_ret]); try (with_reducible apply Wp.cargs; case h => ((try simp (disch := omega) only [↓reduceIte, ask_true, ↓X0, X1, Nat.reduceEqDiff, Int.reduceEq, Nat.reduceAdd, Nat.reduceSub, X2, Hp_ne, Nat.reduceLeDiff, d1, h1, e1, e2, d2, h2, d3, h3]); with_reducible exact rfl)))
    exact Wp.pure ⟨by simp only; omega, (by intros; first | with_reducible rfl | simp (disch := omega) only [Hp_ne, Hp_same, e3, e2, e1]), rfl⟩
  obtain ⟨f1, g1⟩ := a1.2.2 (by omega)
  obtain ⟨f2, g2⟩ := a2.2.2 (by omega)
  obtain ⟨f3, g3⟩ := a3.2.2 (by omega)
  refine ⟨r3, ⟨by omega, by omega, fun _ => ⟨⟨f1, g1⟩, ⟨by omega, fun x hx => by have := g2 x hx; omega⟩, ⟨by omega, fun x hx => by have := g3 x hx; omega⟩⟩⟩, ?_⟩
  apply Rt.mk
  rw [c8]; unfold S8
  (((repeat (first | (with_reducible apply Wp.step; case h => ((try simp (disch := omega) only [↓reduceIte, ask_true, ↓X0, X1, Nat.reduceEqDiff, Int.reduceEq, Nat.reduceAdd, Nat.reduceSub, X2, Hp_ne, Nat.reduceLeDiff, d1, h1, e1, e2, d2, h2, d3, h3]); with_reducible exact rfl)) | (apply Wp.andS) | (apply Wp.orS) | ((with_reducible first | apply Wp.gs | apply Wp.cs | apply Wp.cselX | apply Wp.askT | apply Wp.iteKT | apply Wp.ikb); case h => ((try simp (disch := omega) only [↓reduceIte, ask_true, ↓X0, X1, Nat.reduceEqDiff, Int.reduceEq, Nat.reduceAdd, Nat.reduceSub, X2, Hp_ne, Nat.reduceLeDiff, d1, h1, e1, e2, d2, h2, d3, h3]); (with_reducible first | done | exact bT | exact bF))) | (with_reducible apply Wp.gu) | (simp only [↓X3]) | (with_reducible apply Wp.assoc))); try simp only [outOf_exit, outOf_ret]); try (with_reducible apply Wp.cargs; case h => ((try simp (disch := omega) only [↓reduceIte, ask_true, ↓X0, X1, Nat.reduceEqDiff, Int.reduceEq, Nat.reduceAdd, Nat.reduceSub, X2, Hp_ne, Nat.reduceLeDiff, d1, h1, e1, e2, d2, h2, d3, h3]); with_reducible exact rfl)))
  exact Wp.pure ⟨by simp only; omega, (by intros; first | with_reducible rfl | simp (disch := omega) only [Hp_ne, Hp_same, e3, e2, e1]), rfl⟩
def New3 (lo n : Nat) (H : Hp) (u ul ud : Value) (l : List Nd) (li : List Ins) (ld : List Df) : Prop := ∃ i il id, i ≠ il ∧ i ≠ id ∧ il ≠ id ∧ lo ≤ i ∧ i < n ∧ lo ≤ il ∧ il < n ∧ lo ≤ id ∧ id < n ∧ At eNode i H u l ∧ At eIns il H ul li ∧ At eDef id H ud ld
theorem k11 {n : Nat} {H : Hp} {v vl vd : Value} {l : List Nd} {li : List Ins} {ld : List Df} (hv : Li eNode n H v l) (hl : l.length ≤ 100000000) (hvl : Li eIns n H vl li) (hll : li.length ≤ 100000000) (hvd : Li eDef n H vd ld) (hld : ld.length ≤ 100000000) : RtN Try.prog 11 [.agg ⟨[v, vl, vd]⟩] H n (fun w H' n' => ∃ u ul ud, w = .agg ⟨[u, ul, ud]⟩ ∧ New3 n n' H' u ul ud l li ld) := by
  apply RtN.mk
  rw [c11]; unfold S11
  (((repeat (first | (with_reducible apply Wp.step; case h => ((try simp (disch := omega) only [↓reduceIte, ask_true, ↓X0, X1, Nat.reduceEqDiff, Int.reduceEq, Nat.reduceAdd, Nat.reduceSub, X2, Hp_ne, Nat.reduceLeDiff]); with_reducible exact rfl)) | (apply Wp.andS) | (apply Wp.orS) | ((with_reducible first | apply Wp.gs | apply Wp.cs | apply Wp.cselX | apply Wp.askT | apply Wp.iteKT | apply Wp.ikb); case h => ((try simp (disch := omega) only [↓reduceIte, ask_true, ↓X0, X1, Nat.reduceEqDiff, Int.reduceEq, Nat.reduceAdd, Nat.reduceSub, X2, Hp_ne, Nat.reduceLeDiff]); (with_reducible first | done | exact bT | exact bF))) | (with_reducible apply Wp.gu) | (simp only [↓X3]) | (with_reducible apply Wp.assoc))); try simp only [outOf_exit, outOf_ret]); try (with_reducible apply Wp.cargs; case h => ((try simp (disch := omega) only [↓reduceIte, ask_true, ↓X0, X1, Nat.reduceEqDiff, Int.reduceEq, Nat.reduceAdd, Nat.reduceSub, X2, Hp_ne, Nat.reduceLeDiff]); with_reducible exact rfl)))
  refine Wp.rtn (k12 (hv.mv (by omega) (by intros; first | with_reducible rfl | simp (disch := omega) only [Hp_ne, Hp_same])) hl) ?_
  rintro _ H1 n1 q1 s1 ⟨u, rfl, i1, a1, b1, o1⟩
  (((repeat (first | (with_reducible apply Wp.step; case h => ((try simp (disch := omega) only [↓reduceIte, ask_true, ↓X0, X1, Nat.reduceEqDiff, Int.reduceEq, Nat.reduceAdd, Nat.reduceSub, X2, Hp_ne, Nat.reduceLeDiff, s1]); with_reducible exact rfl)) | (apply Wp.andS) | (apply Wp.orS) | ((with_reducible first | apply Wp.gs | apply Wp.cs | apply Wp.cselX | apply Wp.askT | apply Wp.iteKT | apply Wp.ikb); case h => ((try simp (disch := omega) only [↓reduceIte, ask_true, ↓X0, X1, Nat.reduceEqDiff, Int.reduceEq, Nat.reduceAdd, Nat.reduceSub, X2, Hp_ne, Nat.reduceLeDiff, s1]); (with_reducible first | done | exact bT | exact bF))) | (with_reducible apply Wp.gu) | (simp only [↓X3]) | (with_reducible apply Wp.assoc))); try simp only [outOf_exit, outOf_ret]); try (with_reducible apply Wp.cargs; case h => ((try simp (disch := omega) only [↓reduceIte, ask_true, ↓X0, X1, Nat.reduceEqDiff, Int.reduceEq, Nat.reduceAdd, Nat.reduceSub, X2, Hp_ne, Nat.reduceLeDiff, s1]); with_reducible exact rfl)))
  refine Wp.rtn (k49 (hvl.mv (by omega) (by intros; first | with_reducible rfl | simp (disch := omega) only [Hp_ne, Hp_same, s1])) hll) ?_
  rintro ul H2 n2 q2 s2 ⟨i2, a2, b2, o2⟩
  (((repeat (first | (with_reducible apply Wp.step; case h => ((try simp (disch := omega) only [↓reduceIte, ask_true, ↓X0, X1, Nat.reduceEqDiff, Int.reduceEq, Nat.reduceAdd, Nat.reduceSub, X2, Hp_ne, Nat.reduceLeDiff, s1, s2, st_c o2.cell]); with_reducible exact rfl)) | (apply Wp.andS) | (apply Wp.orS) | ((with_reducible first | apply Wp.gs | apply Wp.cs | apply Wp.cselX | apply Wp.askT | apply Wp.iteKT | apply Wp.ikb); case h => ((try simp (disch := omega) only [↓reduceIte, ask_true, ↓X0, X1, Nat.reduceEqDiff, Int.reduceEq, Nat.reduceAdd, Nat.reduceSub, X2, Hp_ne, Nat.reduceLeDiff, s1, s2, st_c o2.cell]); (with_reducible first | done | exact bT | exact bF))) | (with_reducible apply Wp.gu) | (simp only [↓X3]) | (with_reducible apply Wp.assoc))); try simp only [outOf_exit, outOf_ret]); try (with_reducible apply Wp.cargs; case h => ((try simp (disch := omega) only [↓reduceIte, ask_true, ↓X0, X1, Nat.reduceEqDiff, Int.reduceEq, Nat.reduceAdd, Nat.reduceSub, X2, Hp_ne, Nat.reduceLeDiff, s1, s2, st_c o2.cell]); with_reducible exact rfl)))
  refine Wp.rtn (k50 (hvd.mv (by omega) (by intros; first | with_reducible rfl | simp (disch := omega) only [Hp_ne, Hp_same, s1, s2])) hld) ?_
  rintro ud H3 n3 q3 s3 ⟨i3, a3, b3, o3⟩
  (((repeat (first | (with_reducible apply Wp.step; case h => ((try simp (disch := omega) only [↓reduceIte, ask_true, ↓X0, X1, Nat.reduceEqDiff, Int.reduceEq, Nat.reduceAdd, Nat.reduceSub, X2, Hp_ne, Nat.reduceLeDiff, s1, s2, s3, st_c o3.cell]); with_reducible exact rfl)) | (apply Wp.andS) | (apply Wp.orS) | ((with_reducible first | apply Wp.gs | apply Wp.cs | apply Wp.cselX | apply Wp.askT | apply Wp.iteKT | apply Wp.ikb); case h => ((try simp (disch := omega) only [↓reduceIte, ask_true, ↓X0, X1, Nat.reduceEqDiff, Int.reduceEq, Nat.reduceAdd, Nat.reduceSub, X2, Hp_ne, Nat.reduceLeDiff, s1, s2, s3, st_c o3.cell]); (with_reducible first | done | exact bT | exact bF))) | (with_reducible apply Wp.gu) | (simp only [↓X3]) | (with_reducible apply Wp.assoc))); try simp only [outOf_exit, outOf_ret]); try (with_reducible apply Wp.cargs; case h => ((try simp (disch := omega) only [↓reduceIte, ask_true, ↓X0, X1, Nat.reduceEqDiff, Int.reduceEq, Nat.reduceAdd, Nat.reduceSub, X2, Hp_ne, Nat.reduceLeDiff, s1, s2, s3, st_c o3.cell]); with_reducible exact rfl)))
  exact Wp.pure ⟨by simp only; omega, (by intros; first | with_reducible rfl | simp (disch := omega) only [Hp_ne, Hp_same, s1, s2, s3]), u, ul, ud, rfl, i1, i2, i3, by omega, by omega, by omega, by omega, by simp only; omega, by omega, by simp only; omega, by omega, by simp only; omega, o1.mv (by intros; first | with_reducible rfl | simp (disch := omega) only [Hp_ne, Hp_same, s3, s2]), o2.mv (by intros; first | with_reducible rfl | simp (disch := omega) only [Hp_ne, Hp_same, s3]), o3.mv (by intros; first | with_reducible rfl | simp (disch := omega) only [Hp_ne, Hp_same])⟩
theorem k15 {n : Nat} {H : Hp} {v vl vd w wl wd : Value} {l m : List Nd} {li mi : List Ins} {ld md : List Df} (hv : Li eNode n H v l) (hvl : Li eIns n H vl li) (hvd : Li eDef n H vd ld) (hw : Li eNode n H w m) (hwl : Li eIns n H wl mi) (hwd : Li eDef n H wd md) (hl : l.length + li.length + ld.length ≤ 1000000000) : Rt Try.prog 15 [.agg ⟨[v, vl, vd]⟩, .agg ⟨[w, wl, wd]⟩] H n (.bool (decide (l = m ∧ li = mi ∧ ld = md))) := by
  apply Rt.mk
  rw [c15]; unfold S15
  (((repeat (first | (with_reducible apply Wp.step; case h => ((try simp (disch := omega) only [↓reduceIte, ask_true, ↓X0, X1, Nat.reduceEqDiff, Int.reduceEq, Nat.reduceAdd, Nat.reduceSub, X2, Hp_ne, Nat.reduceLeDiff]); with_reducible exact rfl)) | (apply Wp.andS) | (apply Wp.orS) | ((with_reducible first | apply Wp.gs | apply Wp.cs | apply Wp.cselX | apply Wp.askT | apply Wp.iteKT | apply Wp.ikb); case h => ((try simp (disch := omega) only [↓reduceIte, ask_true, ↓X0, X1, Nat.reduceEqDiff, Int.reduceEq, Nat.reduceAdd, Nat.reduceSub, X2, Hp_ne, Nat.reduceLeDiff]); (with_reducible first | done | exact bT | exact bF))) | (with_reducible apply Wp.gu) | (simp only [↓X3]) | (with_reducible apply Wp.assoc))); try simp only [outOf_exit, outOf_ret]); try (with_reducible apply Wp.cargs; case h => ((try simp (disch := omega) only [↓reduceIte, ask_true, ↓X0, X1, Nat.reduceEqDiff, Int.reduceEq, Nat.reduceAdd, Nat.reduceSub, X2, Hp_ne, Nat.reduceLeDiff]); with_reducible exact rfl)))
  refine Wp.rt (k16 (hv.mv (by omega) (by intros; first | with_reducible rfl | simp (disch := omega) only [Hp_ne, Hp_same])) (hw.mv (by omega) (by intros; first | with_reducible rfl | simp (disch := omega) only [Hp_ne, Hp_same])) (by omega)) ?_
  intro H1 n1 q1 s1
  by_cases h1 : l = m
  case neg =>
    (((repeat (first | (with_reducible apply Wp.step; case h => ((try simp (disch := omega) only [↓reduceIte, ask_true, ↓X0, X1, Nat.reduceEqDiff, Int.reduceEq, Nat.reduceAdd, Nat.reduceSub, X2, Hp_ne, Nat.reduceLeDiff, h1]); with_reducible exact rfl)) | (apply Wp.andS) | (apply Wp.orS) | ((with_reducible first | apply Wp.gs | apply Wp.cs | apply Wp.cselX | apply Wp.askT | apply Wp.iteKT | apply Wp.ikb); case h => ((try simp (disch := omega) only [↓reduceIte, ask_true, ↓X0, X1, Nat.reduceEqDiff, Int.reduceEq, Nat.reduceAdd, Nat.reduceSub, X2, Hp_ne, Nat.reduceLeDiff, h1]); (with_reducible first | done | exact bT | exact bF))) | (with_reducible apply Wp.gu) | (simp only [↓X3]) | (with_reducible apply Wp.assoc))); try simp only [outOf_exit, outOf_ret]); try (with_reducible apply Wp.cargs; case h => ((try simp (disch := omega) only [↓reduceIte, ask_true, ↓X0, X1, Nat.reduceEqDiff, Int.reduceEq, Nat.reduceAdd, Nat.reduceSub, X2, Hp_ne, Nat.reduceLeDiff, h1]); with_reducible exact rfl)))
    exact Wp.pure ⟨by simp only; omega, (by intros; first | with_reducible rfl | simp (disch := omega) only [Hp_ne, Hp_same, s1]), by rw [decide_eq_false (fun h => h1 h.1)]⟩
  (((repeat (first | (with_reducible apply Wp.step; case h => ((try simp (disch := omega) only [↓reduceIte, ask_true, ↓X0, X1, Nat.reduceEqDiff, Int.reduceEq, Nat.reduceAdd, Nat.reduceSub, X2, Hp_ne, Nat.reduceLeDiff, h1, s1]); with_reducible exact rfl)) | (apply Wp.andS) | (apply Wp.orS) | ((with_reducible first | apply Wp.gs | apply Wp.cs | apply Wp.cselX | apply Wp.askT | apply Wp.iteKT | apply Wp.ikb); case h => ((try simp (disch := omega) only [↓reduceIte, ask_true, ↓X0, X1, Nat.reduceEqDiff, Int.reduceEq, Nat.reduceAdd, Nat.reduceSub, X2, Hp_ne, Nat.reduceLeDiff, h1, s1]); (with_reducible first | done | exact bT | exact bF))) | (with_reducible apply Wp.gu) | (simp only [↓X3]) | (with_reducible apply Wp.assoc))); try simp only [outOf_exit, outOf_ret]); try (with_reducible apply Wp.cargs; case h => ((try simp (disch := omega) only [↓reduceIte, ask_true, ↓X0, X1, Nat.reduceEqDiff, Int.reduceEq, Nat.reduceAdd, Nat.reduceSub, X2, Hp_ne, Nat.reduceLeDiff, h1, s1]); with_reducible exact rfl)))
  refine Wp.rt (k58 (hvl.mv (by omega) (by intros; first | with_reducible rfl | simp (disch := omega) only [Hp_ne, Hp_same, s1])) (hwl.mv (by omega) (by intros; first | with_reducible rfl | simp (disch := omega) only [Hp_ne, Hp_same, s1])) (by omega)) ?_
  intro H2 n2 q2 s2
  by_cases h2 : li = mi
  case neg =>
    (((repeat (first | (with_reducible apply Wp.step; case h => ((try simp (disch := omega) only [↓reduceIte, ask_true, ↓X0, X1, Nat.reduceEqDiff, Int.reduceEq, Nat.reduceAdd, Nat.reduceSub, X2, Hp_ne, Nat.reduceLeDiff, h2]); with_reducible exact rfl)) | (apply Wp.andS) | (apply Wp.orS) | ((with_reducible first | apply Wp.gs | apply Wp.cs | apply Wp.cselX | apply Wp.askT | apply Wp.iteKT | apply Wp.ikb); case h => ((try simp (disch := omega) only [↓reduceIte, ask_true, ↓X0, X1, Nat.reduceEqDiff, Int.reduceEq, Nat.reduceAdd, Nat.reduceSub, X2, Hp_ne, Nat.reduceLeDiff, h2]); (with_reducible first | done | exact bT | exact bF))) | (with_reducible apply Wp.gu) | (simp only [↓X3]) | (with_reducible apply Wp.assoc))); try simp only [outOf_exit, outOf_ret]); try (with_reducible apply Wp.cargs; case h => ((try simp (disch := omega) only [↓reduceIte, ask_true, ↓X0, X1, Nat.reduceEqDiff, Int.reduceEq, Nat.reduceAdd, Nat.reduceSub, X2, Hp_ne, Nat.reduceLeDiff, h2]); with_reducible exact rfl)))
    exact Wp.pure ⟨by simp only; omega, (by intros; first | with_reducible rfl | simp (disch := omega) only [Hp_ne, Hp_same, s1, s2]), by rw [decide_eq_false (fun h => h2 h.2.1)]⟩
  (((repeat (first | (with_reducible apply Wp.step; case h => ((try simp (disch := omega) only [↓reduceIte, ask_true, ↓X0, X1, Nat.reduceEqDiff, Int.reduceEq, Nat.reduceAdd, Nat.reduceSub, X2, Hp_ne, Nat.reduceLeDiff, h2, s1, s2]); with_reducible exact rfl)) | (apply Wp.andS) | (apply Wp.orS) | ((with_reducible first | apply Wp.gs | apply Wp.cs | apply Wp.cselX | apply Wp.askT | apply Wp.iteKT | apply Wp.ikb); case h => ((try simp (disch := omega) only [↓reduceIte, ask_true, ↓X0, X1, Nat.reduceEqDiff, Int.reduceEq, Nat.reduceAdd, Nat.reduceSub, X2, Hp_ne, Nat.reduceLeDiff, h2, s1, s2]); (with_reducible first | done | exact bT | exact bF))) | (with_reducible apply Wp.gu) | (simp only [↓X3]) | (with_reducible apply Wp.assoc))); try simp only [outOf_exit, outOf_ret]); try (with_reducible apply Wp.cargs; case h => ((try simp (disch := omega) only [↓reduceIte, ask_true, ↓X0, X1, Nat.reduceEqDiff, Int.reduceEq, Nat.reduceAdd, Nat.reduceSub, X2, Hp_ne, Nat.reduceLeDiff, h2, s1, s2]); with_reducible exact rfl)))
  refine Wp.rt (k59 (hvd.mv (by omega) (by intros; first | with_reducible rfl | simp (disch := omega) only [Hp_ne, Hp_same, s1, s2])) (hwd.mv (by omega) (by intros; first | with_reducible rfl | simp (disch := omega) only [Hp_ne, Hp_same, s1, s2])) (by omega)) ?_
  intro H3 n3 q3 s3
  by_cases h3 : ld = md
  case neg =>
    (((repeat (first | (with_reducible apply Wp.step; case h => ((try simp (disch := omega) only [↓reduceIte, ask_true, ↓X0, X1, Nat.reduceEqDiff, Int.reduceEq, Nat.reduceAdd, Nat.reduceSub, X2, Hp_ne, Nat.reduceLeDiff, h3]); with_reducible exact rfl)) | (apply Wp.andS) | (apply Wp.orS) | ((with_reducible first | apply Wp.gs | apply Wp.cs | apply Wp.cselX | apply Wp.askT | apply Wp.iteKT | apply Wp.ikb); case h => ((try simp (disch := omega) only [↓reduceIte, ask_true, ↓X0, X1, Nat.reduceEqDiff, Int.reduceEq, Nat.reduceAdd, Nat.reduceSub, X2, Hp_ne, Nat.reduceLeDiff, h3]); (with_reducible first | done | exact bT | exact bF))) | (with_reducible apply Wp.gu) | (simp only [↓X3]) | (with_reducible apply Wp.assoc))); try simp only [outOf_exit, outOf_ret]); try (with_reducible apply Wp.cargs; case h => ((try simp (disch := omega) only [↓reduceIte, ask_true, ↓X0, X1, Nat.reduceEqDiff, Int.reduceEq, Nat.reduceAdd, Nat.reduceSub, X2, Hp_ne, Nat.reduceLeDiff, h3]); with_reducible exact rfl)))
    exact Wp.pure ⟨by simp only; omega, (by intros; first | with_reducible rfl | simp (disch := omega) only [Hp_ne, Hp_same, s1, s2, s3]), by rw [decide_eq_false (fun h => h3 h.2.2)]⟩
  (((repeat (first | (with_reducible apply Wp.step; case h => ((try simp (disch := omega) only [↓reduceIte, ask_true, ↓X0, X1, Nat.reduceEqDiff, Int.reduceEq, Nat.reduceAdd, Nat.reduceSub, X2, Hp_ne, Nat.reduceLeDiff, h3]); with_reducible exact rfl)) | (apply Wp.andS) | (apply Wp.orS) | ((with_reducible first | apply Wp.gs | apply Wp.cs | apply Wp.cselX | apply Wp.askT | apply Wp.iteKT | apply Wp.ikb); case h => ((try simp (disch := omega) only [↓reduceIte, ask_true, ↓X0, X1, Nat.reduceEqDiff, Int.reduceEq, Nat.reduceAdd, Nat.reduceSub, X2, Hp_ne, Nat.reduceLeDiff, h3]); (with_reducible first | done | exact bT | exact bF))) | (with_reducible apply Wp.gu) | (simp only [↓X3]) | (with_reducible apply Wp.assoc))); try simp only [outOf_exit, outOf_ret]); try (with_reducible apply Wp.cargs; case h => ((try simp (disch := omega) only [↓reduceIte, ask_true, ↓X0, X1, Nat.reduceEqDiff, Int.reduceEq, Nat.reduceAdd, Nat.reduceSub, X2, Hp_ne, Nat.reduceLeDiff, h3]); with_reducible exact rfl)))
  exact Wp.pure ⟨by simp only; omega, (by intros; first | with_reducible rfl | simp (disch := omega) only [Hp_ne, Hp_same, s1, s2, s3]), by rw [decide_eq_true ⟨h1, h2, h3⟩]⟩
end Go.Proofs.Ytjbfdaemgpmgjaa.Ax
