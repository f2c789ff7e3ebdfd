/- . -/
import Derived.Test.YtjbfdaemgpmgjaaK13
import Derived.Test.YtjbfdaemgpmgjaaK23
set_option linter.unusedVariables false
set_option linter.unusedSimpArgs false
set_option maxHeartbeats 4000000
namespace Go.Proofs.Ytjbfdaemgpmgjaa.Ax
open Go
def iMark (k : Int) (i : Nat) : Ins := ⟨k + 4 * i, k + 4 * i + 1, k + 4 * i + 2, mText (k + 4 * i + 3)⟩
def dMark (k : Int) (i : Nat) : Df := ⟨mText (k + 3 * i), k + 3 * i + 1, k + 3 * i + 2⟩
theorem l61 {id n0 : Nat} {H0 : Hp} {l : List Ins} {k : Int} (hk : 0 ≤ k ∧ k ≤ 100000000) (hl : l.length ≤ 10000000) (hid : id < n0) (h : H0 id = some (.row (l.flatMap eIns.cells) 4 true)) : ∀ t n, n0 ≤ n → t 0 = sl id 0 l.length → t 1 = .int .i64 k → t 5 = .int .i64 0 →
    Wp (Loop (S61L0 (Call Try.prog) Loop) t H0 n) (fun o => n ≤ o.n ∧ (∀ i, i < n0 → i ≠ id → o.H i = H0 i) ∧ o.e = .exit 0 ∧ o.t 1 = .int .i64 (k + 4 * l.length) ∧ o.H id = some (.row ((fam (iMark k) l.length).flatMap eIns.cells) 4 true)) := by
  intro t n hn0 e0 e1 e5
  refine Loop_rule (fun d t H n' => ∃ (j : Nat), j + d = l.length ∧ n ≤ n' ∧ (∀ i, i < n0 → i ≠ id → H i = H0 i) ∧ t 0 = sl id 0 l.length ∧ t 1 = .int .i64 (k + 4 * j) ∧ t 5 = .int .i64 j ∧ H id = some (.row ((fam (iMark k) j ++ l.drop j).flatMap eIns.cells) 4 true)) _ ?_ l.length t H0 n ⟨0, by omega, by omega, fun _ _ _ => rfl, e0, by simpa using e1, e5, by simpa [fam] using h⟩
  rintro d t H n' ⟨j, hj, hn, s0, e0, e1, e5, hH⟩
  unfold S61L0
  by_cases hlt : j < l.length
  · have hlti : (j : Int) < l.length := by omega
    have hw := wj (j := j) (len := l.length) hlt (by omega)
    have w1 : IntKind.i64.wrap (k + 4 * (j : Int) + 1) = k + 4 * j + 1 := w64 (by omega)
    have w2 : IntKind.i64.wrap (k + 4 * (j : Int) + 1 + 1) = k + 4 * j + 2 := by rw [w64 (by omega)]; omega
    have w3 : IntKind.i64.wrap (k + 4 * (j : Int) + 2 + 1) = k + 4 * j + 3 := by rw [w64 (by omega)]; omega
    have w4 : IntKind.i64.wrap (k + 4 * (j : Int) + 3 + 1) = k + 4 * ((j + 1 : Nat) : Int) := by rw [w64 (by omega)]; omega
    have hset := fam_set (iMark k) hlt
    have hjl : j < (fam (iMark k) j ++ l.drop j).length := by rw [fam_drop_len _ (by omega)]; exact hlt
    generalize hL : fam (iMark k) j ++ l.drop j = L at *
    have hix := idx_sl (sz := 4) (id := id) (k := .i64) hlt
    rcases hx : L[j] with ⟨xo, xn, xi, xs⟩
    have t0 : st false 1 (ptr id (j * 4)) (.int .i64 (k + 4 * j)) H = some (H.set id (some (.row ((L.set j ⟨k + 4 * j, xn, xi, xs⟩).flatMap eIns.cells) 4 true))) := st_fc (E := eIns) hH hjl (f := 0) (by decide) (y := ⟨k + 4 * j, xn, xi, xs⟩) (c := .int .i64 (k + 4 * j)) rfl (by rw [hx]; rfl)
    have t1 := st_fc (E := eIns) (Hp_same H id (some (.row ((L.set j ⟨k + 4 * j, xn, xi, xs⟩).flatMap eIns.cells) 4 true))) (by rw [List.length_set]; exact hjl) (f := 1) (by decide) (y := ⟨k + 4 * j, k + 4 * j + 1, xi, xs⟩) (c := .int .i64 (k + 4 * j + 1)) rfl (by rw [List.getElem_set_self]; rfl)
    rw [List.set_set, Hp_set_set] at t1
    have t2 := st_fc (E := eIns) (Hp_same H id (some (.row ((L.set j ⟨k + 4 * j, k + 4 * j + 1, xi, xs⟩).flatMap eIns.cells) 4 true))) (by rw [List.length_set]; exact hjl) (f := 2) (by decide) (y := ⟨k + 4 * j, k + 4 * j + 1, k + 4 * j + 2, xs⟩) (c := .int .i64 (k + 4 * j + 2)) rfl (by rw [List.getElem_set_self]; rfl)
    rw [List.set_set, Hp_set_set] at t2
    (((repeat (first | (with_reducible apply Wp.step; case h => ((try simp (disch := omega) only [↓reduceIte, ask_true, ↓X0, X1, Nat.reduceEqDiff, Int.reduceEq, Nat.reduceAdd, Nat.reduceSub, e0, e1, e5, hlti, hix, t0, w1, t1, w2, t2, w3]); with_reducible exact rfl)) | (apply Wp.andS) | (apply Wp.orS) | ((with_reducible first | apply Wp.gs | apply Wp.cs | apply Wp.cselX | apply Wp.askT | apply Wp.iteKT | apply Wp.ikb); case h => ((try simp (disch := omega) only [↓reduceIte, ask_true, ↓X0, X1, Nat.reduceEqDiff, Int.reduceEq, Nat.reduceAdd, Nat.reduceSub, e0, e1, e5, hlti, hix, t0, w1, t1, w2, t2, w3]); (with_reducible first | done | exact bT | exact bF))) | (with_reducible apply Wp.gu) | (simp only [↓X3]) | (with_reducible apply Wp.assoc))); try simp only [outOf_exit, outOf_ret]); try (with_reducible apply Wp.cargs; case h => ((try simp (disch := omega) only [↓reduceIte, ask_true, ↓X0, X1, Nat.reduceEqDiff, Int.reduceEq, Nat.reduceAdd, Nat.reduceSub, e0, e1, e5, hlti, hix, t0, w1, t1, w2, t2, w3]); with_reducible exact rfl)))
    refine Wp.rt (k107 (k + 4 * j + 3) (by omega) _ _) ?_
    intro H1 n1 q1 s1
    have hH1 : H1 id = some (.row ((L.set j ⟨k + 4 * j, k + 4 * j + 1, k + 4 * j + 2, xs⟩).flatMap eIns.cells) 4 true) := by simp (disch := omega) only [s1, Hp_same]
    have t3 := st_fc (E := eIns) hH1 (by rw [List.length_set]; exact hjl) (f := 3) (by decide) (y := iMark k j) (c := .string (mText (k + 4 * j + 3))) rfl (by rw [List.getElem_set_self]; rfl)
    rw [List.set_set, hset] at t3
    (((repeat (first | (with_reducible apply Wp.step; case h => ((try simp (disch := omega) only [↓reduceIte, ask_true, ↓X0, X1, Nat.reduceEqDiff, Int.reduceEq, Nat.reduceAdd, Nat.reduceSub, e0, e1, e5, hix, t3, w4, hw]); with_reducible exact rfl)) | (apply Wp.andS) | (apply Wp.orS) | ((with_reducible first | apply Wp.gs | apply Wp.cs | apply Wp.cselX | apply Wp.askT | apply Wp.iteKT | apply Wp.ikb); case h => ((try simp (disch := omega) only [↓reduceIte, ask_true, ↓X0, X1, Nat.reduceEqDiff, Int.reduceEq, Nat.reduceAdd, Nat.reduceSub, e0, e1, e5, hix, t3, w4, hw]); (with_reducible first | done | exact bT | exact bF))) | (with_reducible apply Wp.gu) | (simp only [↓X3]) | (with_reducible apply Wp.assoc))); try simp only [outOf_exit, outOf_ret]); try (with_reducible apply Wp.cargs; case h => ((try simp (disch := omega) only [↓reduceIte, ask_true, ↓X0, X1, Nat.reduceEqDiff, Int.reduceEq, Nat.reduceAdd, Nat.reduceSub, e0, e1, e5, hix, t3, w4, hw]); with_reducible exact rfl)))
    exact Wp.pure (Nxt.go (d - 1) (by omega) ⟨j + 1, by omega, by omega, (by intros; first | with_reducible rfl | simp (disch := omega) only [Hp_ne, Hp_same, s1, s0]), by simp [put_at, e0], by simp [put_at], by simp [put_at], Hp_same _ _ _⟩)
  · have hlti : ¬ (j : Int) < l.length := by omega
    (((repeat (first | (with_reducible apply Wp.step; case h => ((try simp (disch := omega) only [↓reduceIte, ask_true, ↓X0, X1, Nat.reduceEqDiff, Int.reduceEq, Nat.reduceAdd, Nat.reduceSub, e0, e1, e5, hlti]); with_reducible exact rfl)) | (apply Wp.andS) | (apply Wp.orS) | ((with_reducible first | apply Wp.gs | apply Wp.cs | apply Wp.cselX | apply Wp.askT | apply Wp.iteKT | apply Wp.ikb); case h => ((try simp (disch := omega) only [↓reduceIte, ask_true, ↓X0, X1, Nat.reduceEqDiff, Int.reduceEq, Nat.reduceAdd, Nat.reduceSub, e0, e1, e5, hlti]); (with_reducible first | done | exact bT | exact bF))) | (with_reducible apply Wp.gu) | (simp only [↓X3]) | (with_reducible apply Wp.assoc))); try simp only [outOf_exit, outOf_ret]); try (with_reducible apply Wp.cargs; case h => ((try simp (disch := omega) only [↓reduceIte, ask_true, ↓X0, X1, Nat.reduceEqDiff, Int.reduceEq, Nat.reduceAdd, Nat.reduceSub, e0, e1, e5, hlti]); with_reducible exact rfl)))
    have hjl : j = l.length := by omega
    subst hjl
    exact Wp.pure (Nxt.exit ⟨Nat.le_trans hn (Nat.le_add_right _ _), s0, rfl, by simp [put_at, e1], by simpa using hH⟩)
theorem k61 {id n : Nat} {H : Hp} {v : Value} {l : List Ins} (h : At eIns id H v l) (hid : id < n) (k : Int) (hk : 0 ≤ k ∧ k ≤ 100000000) (hl : l.length ≤ 10000000) : RtM Try.prog 61 [v, .int .i64 k] id H n (.int .i64 (k + 4 * l.length)) (fun H' n' => At eIns id H' v (fam (iMark k) l.length)) := by
  apply RtM.of
  rw [c61]; unfold S61
  rcases h with ⟨rfl, rfl⟩ | ⟨rfl, h⟩
  · rw [Loop_eq]
    unfold S61L0
    simp (disch := omega) only [↓reduceIte, ask_true, ↓X0, X1, Nat.reduceEqDiff, Int.reduceEq, Nat.reduceAdd, Nat.reduceSub, thenO]
    exact Wp.pure ⟨by simp only; omega, fun _ _ _ => rfl, by simp [put_at, argsT_at], .inl ⟨rfl, rfl⟩⟩
  · refine Wp.bind (l61 hk hl hid h _ _ (by omega) (by simp [put_at, argsT_at]) (by simp [put_at, argsT_at]) (by simp [put_at])) ?_
    rintro ⟨oe, ot, oH, on⟩ ⟨f1, f2, rfl, f4, f5⟩
    simp only at f1 f2 f4 f5
    simp (disch := omega) only [↓reduceIte, ask_true, ↓X0, X1, Nat.reduceEqDiff, Int.reduceEq, Nat.reduceAdd, Nat.reduceSub, f4]
    exact Wp.pure ⟨by simp only; omega, f2, rfl, .inr ⟨by rw [fam_len], f5⟩⟩
theorem l62 {id n0 : Nat} {H0 : Hp} {l : List Df} {k : Int} (hk : 0 ≤ k ∧ k ≤ 100000000) (hl : l.length ≤ 10000000) (hid : id < n0) (h : H0 id = some (.row (l.flatMap eDef.cells) 3 true)) : ∀ t n, n0 ≤ n → t 0 = sl id 0 l.length → t 1 = .int .i64 k → t 5 = .int .i64 0 →
    Wp (Loop (S62L0 (Call Try.prog) Loop) t H0 n) (fun o => n ≤ o.n ∧ (∀ i, i < n0 → i ≠ id → o.H i = H0 i) ∧ o.e = .exit 0 ∧ o.t 1 = .int .i64 (k + 3 * l.length) ∧ o.H id = some (.row ((fam (dMark k) l.length).flatMap eDef.cells) 3 true)) := by
  intro t n hn0 e0 e1 e5
  refine Loop_rule (fun d t H n' => ∃ (j : Nat), j + d = l.length ∧ n ≤ n' ∧ (∀ i, i < n0 → i ≠ id → H i = H0 i) ∧ t 0 = sl id 0 l.length ∧ t 1 = .int .i64 (k + 3 * j) ∧ t 5 = .int .i64 j ∧ H id = some (.row ((fam (dMark k) j ++ l.drop j).flatMap eDef.cells) 3 true)) _ ?_ l.length t H0 n ⟨0, by omega, by omega, fun _ _ _ => rfl, e0, by simpa using e1, e5, by simpa [fam] using h⟩
  rintro d t H n' ⟨j, hj, hn, s0, e0, e1, e5, hH⟩
  unfold S62L0
  by_cases hlt : j < l.length
  · have hlti : (j : Int) < l.length := by omega
    have hw := wj (j := j) (len := l.length) hlt (by omega)
    have w1 : IntKind.i64.wrap (k + 3 * (j : Int) + 1) = k + 3 * j + 1 := w64 (by omega)
    have w2 : IntKind.i64.wrap (k + 3 * (j : Int) + 1 + 1) = k + 3 * j + 2 := by rw [w64 (by omega)]; omega
    have w4 : IntKind.i64.wrap (k + 3 * (j : Int) + 2 + 1) = k + 3 * ((j + 1 : Nat) : Int) := by rw [w64 (by omega)]; omega
    have hset := fam_set (dMark k) hlt
    have hjl : j < (fam (dMark k) j ++ l.drop j).length := by rw [fam_drop_len _ (by omega)]; exact hlt
    generalize hL : fam (dMark k) j ++ l.drop j = L at *
    have hix := idx_sl (sz := 3) (id := id) (k := .i64) hlt
    rcases hx : L[j] with ⟨xs, xa, xr⟩
    (((repeat (first | (with_reducible apply Wp.step; case h => ((try simp (disch := omega) only [↓reduceIte, ask_true, ↓X0, X1, Nat.reduceEqDiff, Int.reduceEq, Nat.reduceAdd, Nat.reduceSub, e0, e1, e5, hlti]); with_reducible exact rfl)) | (apply Wp.andS) | (apply Wp.orS) | ((with_reducible first | apply Wp.gs | apply Wp.cs | apply Wp.cselX | apply Wp.askT | apply Wp.iteKT | apply Wp.ikb); case h => ((try simp (disch := omega) only [↓reduceIte, ask_true, ↓X0, X1, Nat.reduceEqDiff, Int.reduceEq, Nat.reduceAdd, Nat.reduceSub, e0, e1, e5, hlti]); (with_reducible first | done | exact bT | exact bF))) | (with_reducible apply Wp.gu) | (simp only [↓X3]) | (with_reducible apply Wp.assoc))); try simp only [outOf_exit, outOf_ret]); try (with_reducible apply Wp.cargs; case h => ((try simp (disch := omega) only [↓reduceIte, ask_true, ↓X0, X1, Nat.reduceEqDiff, Int.reduceEq, Nat.reduceAdd, Nat.reduceSub, e0, e1, e5, hlti]); with_reducible exact rfl)))
    refine Wp.rt (k107 (k + 3 * j) (by omega) _ _) ?_
    intro H1 n1 q1 s1
    have hH1 : H1 id = some (.row (L.flatMap eDef.cells) 3 true) := by simp (disch := omega) only [s1, hH]
    have t0 : st false 1 (ptr id (j * 3)) (.string (mText (k + 3 * j))) H1 = some (H1.set id (some (.row ((L.set j ⟨mText (k + 3 * j), xa, xr⟩).flatMap eDef.cells) 3 true))) := st_fc (E := eDef) hH1 hjl (f := 0) (by decide) (y := ⟨mText (k + 3 * j), xa, xr⟩) (c := .string (mText (k + 3 * j))) rfl (by rw [hx]; rfl)
    have t1 := st_fc (E := eDef) (Hp_same H1 id (some (.row ((L.set j ⟨mText (k + 3 * j), xa, xr⟩).flatMap eDef.cells) 3 true))) (by rw [List.length_set]; exact hjl) (f := 1) (by decide) (y := ⟨mText (k + 3 * j), k + 3 * j + 1, xr⟩) (c := .int .i64 (k + 3 * j + 1)) rfl (by rw [List.getElem_set_self]; rfl)
    rw [List.set_set, Hp_set_set] at t1
    have t2 := st_fc (E := eDef) (Hp_same H1 id (some (.row ((L.set j ⟨mText (k + 3 * j), k + 3 * j + 1, xr⟩).flatMap eDef.cells) 3 true))) (by rw [List.length_set]; exact hjl) (f := 2) (by decide) (y := dMark k j) (c := .int .i64 (k + 3 * j + 2)) rfl (by rw [List.getElem_set_self]; rfl)
    rw [List.set_set, Hp_set_set, hset] at t2
    (((repeat (first | (with_reducible apply Wp.step; case h => ((try simp (disch := omega) only [↓reduceIte, ask_true, ↓X0, X1, Nat.reduceEqDiff, Int.reduceEq, Nat.reduceAdd, Nat.reduceSub, e0, e1, e5, hix, t0, w1, t1, w2, t2, w4, hw]); with_reducible exact rfl)) | (apply Wp.andS) | (apply Wp.orS) | ((with_reducible first | apply Wp.gs | apply Wp.cs | apply Wp.cselX | apply Wp.askT | apply Wp.iteKT | apply Wp.ikb); case h => ((try simp (disch := omega) only [↓reduceIte, ask_true, ↓X0, X1, Nat.reduceEqDiff, Int.reduceEq, Nat.reduceAdd, Nat.reduceSub, e0, e1, e5, hix, t0, w1, t1, w2, t2, w4, hw]); (with_reducible first | done | exact bT | exact bF))) | (with_reducible apply Wp.gu) | (simp only [↓X3]) | (with_reducible apply Wp.assoc))); try simp only [outOf_exit, outOf_ret]); try (with_reducible apply Wp.cargs; case h => ((try simp (disch := omega) only [↓reduceIte, ask_true, ↓X0, X1, Nat.reduceEqDiff, Int.reduceEq, Nat.reduceAdd, Nat.reduceSub, e0, e1, e5, hix, t0, w1, t1, w2, t2, w4, hw]); with_reducible exact rfl)))
    exact Wp.pure (Nxt.go (d - 1) (by omega) ⟨j + 1, by omega, by omega, (by intros; first | with_reducible rfl | simp (disch := omega) only [Hp_ne, Hp_same, s1, s0]), by simp [put_at, e0], by simp [put_at], by simp [put_at], Hp_same _ _ _⟩)
  · have hlti : ¬ (j : Int) < l.length := by omega
    (((repeat (first | (with_reducible apply Wp.step; case h => ((try simp (disch := omega) only [↓reduceIte, ask_true, ↓X0, X1, Nat.reduceEqDiff, Int.reduceEq, Nat.reduceAdd, Nat.reduceSub, e0, e1, e5, hlti]); with_reducible exact rfl)) | (apply Wp.andS) | (apply Wp.orS) | ((with_reducible first | apply Wp.gs | apply Wp.cs | apply Wp.cselX | apply Wp.askT | apply Wp.iteKT | apply Wp.ikb); case h => ((try simp (disch := omega) only [↓reduceIte, ask_true, ↓X0, X1, Nat.reduceEqDiff, Int.reduceEq, Nat.reduceAdd, Nat.reduceSub, e0, e1, e5, hlti]); (with_reducible first | done | exact bT | exact bF))) | (with_reducible apply Wp.gu) | (simp only [↓X3]) | (with_reducible apply Wp.assoc))); try simp only [outOf_exit, outOf_ret]); try (with_reducible apply Wp.cargs; case h => ((try simp (disch := omega) only [↓reduceIte, ask_true, ↓X0, X1, Nat.reduceEqDiff, Int.reduceEq, Nat.reduceAdd, Nat.reduceSub, e0, e1, e5, hlti]); with_reducible exact rfl)))
    have hjl : j = l.length := by omega
    subst hjl
    exact Wp.pure (Nxt.exit ⟨Nat.le_trans hn (Nat.le_add_right _ _), s0, rfl, by simp [put_at, e1], by simpa using hH⟩)
theorem k62 {id n : Nat} {H : Hp} {v : Value} {l : List Df} (h : At eDef id H v l) (hid : id < n) (k : Int) (hk : 0 ≤ k ∧ k ≤ 100000000) (hl : l.length ≤ 10000000) : RtM Try.prog 62 [v, .int .i64 k] id H n (.int .i64 (k + 3 * l.length)) (fun H' n' => At eDef id H' v (fam (dMark k) l.length)) := by
  apply RtM.of
  rw [c62]; unfold S62
  rcases h with ⟨rfl, rfl⟩ | ⟨rfl, h⟩
  · rw [Loop_eq]
    unfold S62L0
    simp (disch := omega) only [↓reduceIte, ask_true, ↓X0, X1, Nat.reduceEqDiff, Int.reduceEq, Nat.reduceAdd, Nat.reduceSub, thenO]
    exact Wp.pure ⟨by simp only; omega, fun _ _ _ => rfl, by simp [put_at, argsT_at], .inl ⟨rfl, rfl⟩⟩
  · refine Wp.bind (l62 hk hl hid h _ _ (by omega) (by simp [put_at, argsT_at]) (by simp [put_at, argsT_at]) (by simp [put_at])) ?_
    rintro ⟨oe, ot, oH, on⟩ ⟨f1, f2, rfl, f4, f5⟩
    simp only at f1 f2 f4 f5
    simp (disch := omega) only [↓reduceIte, ask_true, ↓X0, X1, Nat.reduceEqDiff, Int.reduceEq, Nat.reduceAdd, Nat.reduceSub, f4]
    exact Wp.pure ⟨by simp only; omega, f2, rfl, .inr ⟨by rw [fam_len], f5⟩⟩
abbrev RtM3 (P : Program) (f : Nat) (args : List Value) (a b c : Nat) (H : Hp) (n : Nat) (v : Value) (R : Hp → Nat → Prop) : Prop := ∃ H' n', n ≤ n' ∧ (∀ i, i < n → i ≠ a → i ≠ b → i ≠ c → H' i = H i) ∧ Call P f args H n = some (v, H', n') ∧ R H' n'
theorem Wp.rtm3 {P : Program} {f : Nat} {args : List Value} {H : Hp} {n a b c : Nat} {β : Type} {g : Value × Hp × Nat → Option β} {Q : β → Prop} {v : Value} {R : Hp → Nat → Prop} (h : RtM3 P f args a b c H n v R) (k : ∀ H' n', n ≤ n' → (∀ i, i < n → i ≠ a → i ≠ b → i ≠ c → H' i = H i) → R H' n' → Wp (g (v, H', n')) Q) : Wp ((Call P f args H n).bind g) Q := by
  obtain ⟨H', n', h1, h2, h3, h4⟩ := h
  rw [h3]; exact k H' n' h1 h2 h4
theorem RtM3.of {P : Program} {f : Nat} {args : List Value} {a b c : Nat} {H : Hp} {n : Nat} {v : Value} {R : Hp → Nat → Prop} (h : Wp (Call P f args H n) fun q => n ≤ q.2.2 ∧ (∀ i, i < n → i ≠ a → i ≠ b → i ≠ c → q.2.1 i = H i) ∧ q.1 = v ∧ R q.2.1 q.2.2) : RtM3 P f args a b c H n v R := by
  obtain ⟨⟨w, H', n'⟩, h1, h2, h3, h4, h5⟩ := h
  simp only at h2 h3 h4 h5
  subst h4; exact ⟨H', n', h2, h3, h1, h5⟩
theorem k17 {a b c n : Nat} {H : Hp} {v vl vd : Value} {l : List Nd} {li : List Ins} {ld : List Df} (h : At eNode a H v l) (ha : a < n) (h2 : At eIns b H vl li) (hb : b < n) (h3 : At eDef c H vd ld) (hc : c < n) (hab : a ≠ b) (hac : a ≠ c) (hbc : b ≠ c) (k : Int) (hk : 0 ≤ k ∧ k ≤ 10000000) (hl : l.length ≤ 1048576) (hll : li.length ≤ 1048576) (hld : ld.length ≤ 1048576) :
    RtM3 Try.prog 17 [.agg ⟨[v, vl, vd]⟩, .int .i64 k] a b c H n (.int .i64 (k + 5 * l.length + 4 * li.length + 3 * ld.length)) (fun H' n' => At eNode a H' v (fam (nMark k) l.length) ∧ At eIns b H' vl (fam (iMark (k + 5 * l.length)) li.length) ∧ At eDef c H' vd (fam (dMark (k + 5 * l.length + 4 * li.length)) ld.length)) := by
  apply RtM3.of
  rw [c17]; unfold S17
  (((repeat (first | (with_reducible apply Wp.step; case h => ((try simp (disch := omega) only [↓reduceIte, ask_true, ↓X0, X1, Nat.reduceEqDiff, Int.reduceEq, Nat.reduceAdd, Nat.reduceSub, X2, Hp_ne, Nat.reduceLeDiff]); with_reducible exact rfl)) | (apply Wp.andS) | (apply Wp.orS) | ((with_reducible first | apply Wp.gs | apply Wp.cs | apply Wp.cselX | apply Wp.askT | apply Wp.iteKT | apply Wp.ikb); case h => ((try simp (disch := omega) only [↓reduceIte, ask_true, ↓X0, X1, Nat.reduceEqDiff, Int.reduceEq, Nat.reduceAdd, Nat.reduceSub, X2, Hp_ne, Nat.reduceLeDiff]); (with_reducible first | done | exact bT | exact bF))) | (with_reducible apply Wp.gu) | (simp only [↓X3]) | (with_reducible apply Wp.assoc))); try simp only [outOf_exit, outOf_ret]); try (with_reducible apply Wp.cargs; case h => ((try simp (disch := omega) only [↓reduceIte, ask_true, ↓X0, X1, Nat.reduceEqDiff, Int.reduceEq, Nat.reduceAdd, Nat.reduceSub, X2, Hp_ne, Nat.reduceLeDiff]); with_reducible exact rfl)))
  refine Wp.rtm (k18 (h.mv (by intros; first | with_reducible rfl | simp (disch := omega) only [Hp_ne, Hp_same])) (by omega) k (by omega) (by omega)) ?_
  intro H1 n1 q1 s1 o1
  (((repeat (first | (with_reducible apply Wp.step; case h => ((try simp (disch := omega) only [↓reduceIte, ask_true, ↓X0, X1, Nat.reduceEqDiff, Int.reduceEq, Nat.reduceAdd, Nat.reduceSub, X2, Hp_ne, Nat.reduceLeDiff, s1]); with_reducible exact rfl)) | (apply Wp.andS) | (apply Wp.orS) | ((with_reducible first | apply Wp.gs | apply Wp.cs | apply Wp.cselX | apply Wp.askT | apply Wp.iteKT | apply Wp.ikb); case h => ((try simp (disch := omega) only [↓reduceIte, ask_true, ↓X0, X1, Nat.reduceEqDiff, Int.reduceEq, Nat.reduceAdd, Nat.reduceSub, X2, Hp_ne, Nat.reduceLeDiff, s1]); (with_reducible first | done | exact bT | exact bF))) | (with_reducible apply Wp.gu) | (simp only [↓X3]) | (with_reducible apply Wp.assoc))); try simp only [outOf_exit, outOf_ret]); try (with_reducible apply Wp.cargs; case h => ((try simp (disch := omega) only [↓reduceIte, ask_true, ↓X0, X1, Nat.reduceEqDiff, Int.reduceEq, Nat.reduceAdd, Nat.reduceSub, X2, Hp_ne, Nat.reduceLeDiff, s1]); with_reducible exact rfl)))
  refine Wp.rtm (k61 (h2.mv (by intros; first | with_reducible rfl | simp (disch := omega) only [Hp_ne, Hp_same, s1])) (by omega) (k + 5 * l.length) (by omega) (by omega)) ?_
  intro H2 n2 q2 s2 o2
  (((repeat (first | (with_reducible apply Wp.step; case h => ((try simp (disch := omega) only [↓reduceIte, ask_true, ↓X0, X1, Nat.reduceEqDiff, Int.reduceEq, Nat.reduceAdd, Nat.reduceSub, X2, Hp_ne, Nat.reduceLeDiff, s2, s1]); with_reducible exact rfl)) | (apply Wp.andS) | (apply Wp.orS) | ((with_reducible first | apply Wp.gs | apply Wp.cs | apply Wp.cselX | apply Wp.askT | apply Wp.iteKT | apply Wp.ikb); case h => ((try simp (disch := omega) only [↓reduceIte, ask_true, ↓X0, X1, Nat.reduceEqDiff, Int.reduceEq, Nat.reduceAdd, Nat.reduceSub, X2, Hp_ne, Nat.reduceLeDiff, s2, s1]); (with_reducible first | done | exact bT | exact bF))) | (with_reducible apply Wp.gu) | (simp only [↓X3]) | (with_reducible apply Wp.assoc))); try simp only [outOf_exit, outOf_ret]); try (with_reducible apply Wp.cargs; case h => ((try simp (disch := omega) only [↓reduceIte, ask_true, ↓X0, X1, Nat.reduceEqDiff, Int.reduceEq, Nat.reduceAdd, Nat.reduceSub, X2, Hp_ne, Nat.reduceLeDiff, s2, s1]); with_reducible exact rfl)))
  refine Wp.rtm (k62 (h3.mv (by intros; first | with_reducible rfl | simp (disch := omega) only [Hp_ne, Hp_same, s2, s1])) (by omega) (k + 5 * l.length + 4 * li.length) (by omega) (by omega)) ?_
  intro H3 n3 q3 s3 o3
  (((repeat (first | (with_reducible apply Wp.step; case h => ((try simp (disch := omega) only [↓reduceIte, ask_true, ↓X0, X1, Nat.reduceEqDiff, Int.reduceEq, Nat.reduceAdd, Nat.reduceSub, X2, Hp_ne, Nat.reduceLeDiff, s3, s2, s1]); with_reducible exact rfl)) | (apply Wp.andS) | (apply Wp.orS) | ((with_reducible first | apply Wp.gs | apply Wp.cs | apply Wp.cselX | apply Wp.askT | apply Wp.iteKT | apply Wp.ikb); case h => ((try simp (disch := omega) only [↓reduceIte, ask_true, ↓X0, X1, Nat.reduceEqDiff, Int.reduceEq, Nat.reduceAdd, Nat.reduceSub, X2, Hp_ne, Nat.reduceLeDiff, s3, s2, s1]); (with_reducible first | done | exact bT | exact bF))) | (with_reducible apply Wp.gu) | (simp only [↓X3]) | (with_reducible apply Wp.assoc))); try simp only [outOf_exit, outOf_ret]); try (with_reducible apply Wp.cargs; case h => ((try simp (disch := omega) only [↓reduceIte, ask_true, ↓X0, X1, Nat.reduceEqDiff, Int.reduceEq, Nat.reduceAdd, Nat.reduceSub, X2, Hp_ne, Nat.reduceLeDiff, s3, s2, s1]); with_reducible exact rfl)))
  exact Wp.pure ⟨by simp only; omega, (by intros; first | with_reducible rfl | simp (disch := omega) only [Hp_ne, Hp_same, s3, s2, s1]), rfl, o1.mv (by intros; first | with_reducible rfl | simp (disch := omega) only [Hp_ne, Hp_same, s3, s2]), o2.mv (by intros; first | with_reducible rfl | simp (disch := omega) only [Hp_ne, Hp_same, s3]), o3⟩
end Go.Proofs.Ytjbfdaemgpmgjaa.Ax
