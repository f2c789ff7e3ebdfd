/- . -/
import Derived.Test.YtjbfdaemgpmgjaaAy7
import Derived.Test.YtjbfdaemgpmgjaaK12
set_option linter.unusedVariables false
set_option linter.unusedSimpArgs false
namespace Go.Proofs.Ytjbfdaemgpmgjaa.Ax
open Go
def nMark (k : Int) (i : Nat) : Nd := ⟨k + 5 * i, k + 5 * i + 1, mText (k + 5 * i + 2), k + 5 * i + 3, k + 5 * i + 4⟩
theorem st_fc {α : Type} {E : Enc α} {id : Nat} {H : Hp} {l : List α} (h : H id = some (.row (l.flatMap E.cells) E.sz true)) {j f : Nat} (hj : j < l.length) (hf : f < E.sz) {y : α} {c : Value} (h1 : cell1 c = true) (hy : E.cells y = setAt (E.cells l[j]) f [c]) : st false 1 (ptr id (j * E.sz + f)) c H = some (H.set id (some (.row ((l.set j y).flatMap E.cells) E.sz true))) := by
  rw [st_c h1]; exact st_fld h hj hf hy
theorem l63 {id n0 : Nat} {H0 : Hp} {l : List Nd} {k : Int} (hk : 0 ≤ k ∧ k ≤ 100000000) (hl : l.length ≤ 10000000) (hid : id < n0) (h : H0 id = some (.row (l.flatMap eNode.cells) 5 true)) : ∀ t n, n0 ≤ n → t 0 = sl id 0 l.length → t 1 = .int .i64 k → t 5 = .int .i64 0 →
    Wp (Loop (S63L0 (Call Try.prog) Loop) t H0 n) (fun o => n ≤ o.n ∧ (∀ i, i < n0 → i ≠ id → o.H i = H0 i) ∧ o.e = .exit 0 ∧ o.t 1 = .int .i64 (k + 5 * l.length) ∧ o.H id = some (.row ((fam (nMark k) l.length).flatMap eNode.cells) 5 true)) := by
  intro t n hn0 e0 e1 e5
  refine Loop_rule (fun d t H n' => ∃ (j : Nat), j + d = l.length ∧ n ≤ n' ∧ (∀ i, i < n0 → i ≠ id → H i = H0 i) ∧ t 0 = sl id 0 l.length ∧ t 1 = .int .i64 (k + 5 * j) ∧ t 5 = .int .i64 j ∧ H id = some (.row ((fam (nMark k) j ++ l.drop j).flatMap eNode.cells) 5 true)) _ ?_ l.length t H0 n ⟨0, by omega, by omega, fun _ _ _ => rfl, e0, by simpa using e1, e5, by simpa [fam] using h⟩
  rintro d t H n' ⟨j, hj, hn, s0, e0, e1, e5, hH⟩
  unfold S63L0
  by_cases hlt : j < l.length
  · have hlti : (j : Int) < l.length := by omega
    have hw := wj (j := j) (len := l.length) hlt (by omega)
    have w1 : IntKind.i64.wrap (k + 5 * (j : Int) + 1) = k + 5 * j + 1 := w64 (by omega)
    have w2 : IntKind.i64.wrap (k + 5 * (j : Int) + 1 + 1) = k + 5 * j + 2 := by rw [w64 (by omega)]; omega
    have w3 : IntKind.i64.wrap (k + 5 * (j : Int) + 2 + 1) = k + 5 * j + 3 := by rw [w64 (by omega)]; omega
    have w4 : IntKind.i64.wrap (k + 5 * (j : Int) + 3 + 1) = k + 5 * j + 4 := by rw [w64 (by omega)]; omega
    have w5 : IntKind.i64.wrap (k + 5 * (j : Int) + 4 + 1) = k + 5 * ((j + 1 : Nat) : Int) := by rw [w64 (by omega)]; omega
    have hset := fam_set (nMark k) hlt
    have hjl : j < (fam (nMark k) j ++ l.drop j).length := by rw [fam_drop_len _ (by omega)]; exact hlt
    generalize hL : fam (nMark k) j ++ l.drop j = L at *
    have hix := idx_sl (sz := 5) (id := id) (k := .i64) hlt
    rcases hx : L[j] with ⟨xk, xn, xs, xa, xb⟩
    have t0 : st false 1 (ptr id (j * 5)) (.int .i64 (k + 5 * j)) H = some (H.set id (some (.row ((L.set j ⟨k + 5 * j, xn, xs, xa, xb⟩).flatMap eNode.cells) 5 true))) := st_fc (E := eNode) hH hjl (f := 0) (by decide) (y := ⟨k + 5 * j, xn, xs, xa, xb⟩) (c := .int .i64 (k + 5 * j)) rfl (by rw [hx]; rfl)
    have t1 := st_fc (E := eNode) (Hp_same H id (some (.row ((L.set j ⟨k + 5 * j, xn, xs, xa, xb⟩).flatMap eNode.cells) 5 true))) (by rw [List.length_set]; exact hjl) (f := 1) (by decide) (y := ⟨k + 5 * j, k + 5 * j + 1, xs, xa, xb⟩) (c := .int .i64 (k + 5 * j + 1)) rfl (by rw [List.getElem_set_self]; rfl)
    rw [List.set_set, Hp_set_set] at t1
    (((repeat (first | (with_reducible apply Wp.step; case h => ((try simp (disch := omega) only [↓reduceIte, ask_true, ↓X0, X1, Nat.reduceEqDiff, Int.reduceEq, Nat.reduceAdd, Nat.reduceSub, e0, e1, e5, hlti, hix, t0, w1, t1, w2]); with_reducible exact rfl)) | (apply Wp.andS) | (apply Wp.orS) | ((with_reducible first | apply Wp.gs | apply Wp.cs | apply Wp.cselX | apply Wp.askT | apply Wp.iteKT | apply Wp.ikb); case h => ((try simp (disch := omega) only [↓reduceIte, ask_true, ↓X0, X1, Nat.reduceEqDiff, Int.reduceEq, Nat.reduceAdd, Nat.reduceSub, e0, e1, e5, hlti, hix, t0, w1, t1, w2]); (with_reducible first | done | exact bT | exact bF))) | (with_reducible apply Wp.gu) | (simp only [↓X3]) | (with_reducible apply Wp.assoc))); try simp only [outOf_exit, outOf_ret]); try (with_reducible apply Wp.cargs; case h => ((try simp (disch := omega) only [↓reduceIte, ask_true, ↓X0, X1, Nat.reduceEqDiff, Int.reduceEq, Nat.reduceAdd, Nat.reduceSub, e0, e1, e5, hlti, hix, t0, w1, t1, w2]); with_reducible exact rfl)))
    refine Wp.rt (k107 (k + 5 * j + 2) (by omega) _ _) ?_
    intro H1 n1 q1 s1
    have hH1 : H1 id = some (.row ((L.set j ⟨k + 5 * j, k + 5 * j + 1, xs, xa, xb⟩).flatMap eNode.cells) 5 true) := by simp (disch := omega) only [s1, Hp_same]
    have t2 := st_fc (E := eNode) hH1 (by rw [List.length_set]; exact hjl) (f := 2) (by decide) (y := ⟨k + 5 * j, k + 5 * j + 1, mText (k + 5 * j + 2), xa, xb⟩) (c := .string (mText (k + 5 * j + 2))) rfl (by rw [List.getElem_set_self]; rfl)
    rw [List.set_set] at t2
    have t3 := st_fc (E := eNode) (Hp_same H1 id (some (.row ((L.set j ⟨k + 5 * j, k + 5 * j + 1, mText (k + 5 * j + 2), xa, xb⟩).flatMap eNode.cells) 5 true))) (by rw [List.length_set]; exact hjl) (f := 3) (by decide) (y := ⟨k + 5 * j, k + 5 * j + 1, mText (k + 5 * j + 2), k + 5 * j + 3, xb⟩) (c := .int .i64 (k + 5 * j + 3)) rfl (by rw [List.getElem_set_self]; rfl)
    rw [List.set_set, Hp_set_set] at t3
    have t4 := st_fc (E := eNode) (Hp_same H1 id (some (.row ((L.set j ⟨k + 5 * j, k + 5 * j + 1, mText (k + 5 * j + 2), k + 5 * j + 3, xb⟩).flatMap eNode.cells) 5 true))) (by rw [List.length_set]; exact hjl) (f := 4) (by decide) (y := nMark k j) (c := .int .i64 (k + 5 * j + 4)) rfl (by rw [List.getElem_set_self]; rfl)
    rw [List.set_set, Hp_set_set, hset] at t4
    (((repeat (first | (with_reducible apply Wp.step; case h => ((try simp (disch := omega) only [↓reduceIte, ask_true, ↓X0, X1, Nat.reduceEqDiff, Int.reduceEq, Nat.reduceAdd, Nat.reduceSub, e0, e1, e5, hix, t2, w3, t3, w4, t4, w5, hw]); with_reducible exact rfl)) | (apply Wp.andS) | (apply Wp.orS) | ((with_reducible first | apply Wp.gs | apply Wp.cs | apply Wp.cselX | apply Wp.askT | apply Wp.iteKT | apply Wp.ikb); case h => ((try simp (disch := omega) only [↓reduceIte, ask_true, ↓X0, X1, Nat.reduceEqDiff, Int.reduceEq, Nat.reduceAdd, Nat.reduceSub, e0, e1, e5, hix, t2, w3, t3, w4, t4, w5, hw]); (with_reducible first | done | exact bT | exact bF))) | (with_reducible apply Wp.gu) | (simp only [↓X3]) | (with_reducible apply Wp.assoc))); try simp only [outOf_exit, outOf_ret]); try (with_reducible apply Wp.cargs; case h => ((try simp (disch := omega) only [↓reduceIte, ask_true, ↓X0, X1, Nat.reduceEqDiff, Int.reduceEq, Nat.reduceAdd, Nat.reduceSub, e0, e1, e5, hix, t2, w3, t3, w4, t4, w5, hw]); with_reducible exact rfl)))
    exact Wp.pure (Nxt.go (d - 1) (by omega) ⟨j + 1, by omega, by omega, (by intros; first | with_reducible rfl | simp (disch := omega) only [Hp_ne, Hp_same, s1, s0]), by simp [put_at, e0], by simp [put_at], by simp [put_at], Hp_same _ _ _⟩)
  · have hlti : ¬ (j : Int) < l.length := by omega
    (((repeat (first | (with_reducible apply Wp.step; case h => ((try simp (disch := omega) only [↓reduceIte, ask_true, ↓X0, X1, Nat.reduceEqDiff, Int.reduceEq, Nat.reduceAdd, Nat.reduceSub, e0, e1, e5, hlti]); with_reducible exact rfl)) | (apply Wp.andS) | (apply Wp.orS) | ((with_reducible first | apply Wp.gs | apply Wp.cs | apply Wp.cselX | apply Wp.askT | apply Wp.iteKT | apply Wp.ikb); case h => ((try simp (disch := omega) only [↓reduceIte, ask_true, ↓X0, X1, Nat.reduceEqDiff, Int.reduceEq, Nat.reduceAdd, Nat.reduceSub, e0, e1, e5, hlti]); (with_reducible first | done | exact bT | exact bF))) | (with_reducible apply Wp.gu) | (simp only [↓X3]) | (with_reducible apply Wp.assoc))); try simp only [outOf_exit, outOf_ret]); try (with_reducible apply Wp.cargs; case h => ((try simp (disch := omega) only [↓reduceIte, ask_true, ↓X0, X1, Nat.reduceEqDiff, Int.reduceEq, Nat.reduceAdd, Nat.reduceSub, e0, e1, e5, hlti]); with_reducible exact rfl)))
    have hjl : j = l.length := by omega
    subst hjl
    exact Wp.pure (Nxt.exit ⟨Nat.le_trans hn (Nat.le_add_right _ _), s0, rfl, by simp [put_at, e1], by simpa using hH⟩)
theorem k63 {id n : Nat} {H : Hp} {v : Value} {l : List Nd} (h : At eNode id H v l) (hid : id < n) (k : Int) (hk : 0 ≤ k ∧ k ≤ 100000000) (hl : l.length ≤ 10000000) : RtM Try.prog 63 [v, .int .i64 k] id H n (.int .i64 (k + 5 * l.length)) (fun H' n' => At eNode id H' v (fam (nMark k) l.length)) := by
  apply RtM.of
  rw [c63]; unfold S63
  rcases h with ⟨rfl, rfl⟩ | ⟨rfl, h⟩
  · rw [Loop_eq]
    unfold S63L0
    simp (disch := omega) only [↓reduceIte, ask_true, ↓X0, X1, Nat.reduceEqDiff, Int.reduceEq, Nat.reduceAdd, Nat.reduceSub, thenO]
    exact Wp.pure ⟨by simp only; omega, fun _ _ _ => rfl, by simp [put_at, argsT_at], .inl ⟨rfl, rfl⟩⟩
  · refine Wp.bind (l63 hk hl hid h _ _ (by omega) (by simp [put_at, argsT_at]) (by simp [put_at, argsT_at]) (by simp [put_at])) ?_
    rintro ⟨oe, ot, oH, on⟩ ⟨f1, f2, rfl, f4, f5⟩
    simp only at f1 f2 f4 f5
    simp (disch := omega) only [↓reduceIte, ask_true, ↓X0, X1, Nat.reduceEqDiff, Int.reduceEq, Nat.reduceAdd, Nat.reduceSub, f4]
    exact Wp.pure ⟨by simp only; omega, f2, rfl, .inr ⟨by rw [fam_len], f5⟩⟩
theorem k18 {id n : Nat} {H : Hp} {v : Value} {l : List Nd} (h : At eNode id H v l) (hid : id < n) (k : Int) (hk : 0 ≤ k ∧ k ≤ 100000000) (hl : l.length ≤ 10000000) : RtM Try.prog 18 [.agg ⟨[v]⟩, .int .i64 k] id H n (.int .i64 (k + 5 * l.length)) (fun H' n' => At eNode id H' v (fam (nMark k) l.length)) := by
  apply RtM.of
  rw [c18]; unfold S18
  (((repeat (first | (with_reducible apply Wp.step; case h => ((try simp (disch := omega) only [↓reduceIte, ask_true, ↓X0, X1, Nat.reduceEqDiff, Int.reduceEq, Nat.reduceAdd, Nat.reduceSub, X2, Hp_ne, Nat.reduceLeDiff]); with_reducible exact rfl)) | (apply Wp.andS) | (apply Wp.orS) | ((with_reducible first | apply Wp.gs | apply Wp.cs | apply Wp.cselX | apply Wp.askT | apply Wp.iteKT | apply Wp.ikb); case h => ((try simp (disch := omega) only [↓reduceIte, ask_true, ↓X0, X1, Nat.reduceEqDiff, Int.reduceEq, Nat.reduceAdd, Nat.reduceSub, X2, Hp_ne, Nat.reduceLeDiff]); (with_reducible first | done | exact bT | exact bF))) | (with_reducible apply Wp.gu) | (simp only [↓X3]) | (with_reducible apply Wp.assoc))); try simp only [outOf_exit, outOf_ret]); try (with_reducible apply Wp.cargs; case h => ((try simp (disch := omega) only [↓reduceIte, ask_true, ↓X0, X1, Nat.reduceEqDiff, Int.reduceEq, Nat.reduceAdd, Nat.reduceSub, X2, Hp_ne, Nat.reduceLeDiff]); with_reducible exact rfl)))
  refine Wp.rtm (k63 (h.mv (by intros; first | with_reducible rfl | simp (disch := omega) only [Hp_ne, Hp_same])) (by omega) k hk hl) ?_
  intro H1 n1 q1 s1 a1
  (((repeat (first | (with_reducible apply Wp.step; case h => ((try simp (disch := omega) only [↓reduceIte, ask_true, ↓X0, X1, Nat.reduceEqDiff, Int.reduceEq, Nat.reduceAdd, Nat.reduceSub]); with_reducible exact rfl)) | (apply Wp.andS) | (apply Wp.orS) | ((with_reducible first | apply Wp.gs | apply Wp.cs | apply Wp.cselX | apply Wp.askT | apply Wp.iteKT | apply Wp.ikb); case h => ((try simp (disch := omega) only [↓reduceIte, ask_true, ↓X0, X1, Nat.reduceEqDiff, Int.reduceEq, Nat.reduceAdd, Nat.reduceSub]); (with_reducible first | done | exact bT | exact bF))) | (with_reducible apply Wp.gu) | (simp only [↓X3]) | (with_reducible apply Wp.assoc))); try simp only [outOf_exit, outOf_ret]); try (with_reducible apply Wp.cargs; case h => ((try simp (disch := omega) only [↓reduceIte, ask_true, ↓X0, X1, Nat.reduceEqDiff, Int.reduceEq, Nat.reduceAdd, Nat.reduceSub]); with_reducible exact rfl)))
  exact Wp.pure ⟨by simp only; omega, (by intros; first | with_reducible rfl | simp (disch := omega) only [Hp_ne, Hp_same, s1]), rfl, a1⟩
theorem k108 {n : Nat} {H : Hp} {v : Value} {m : Nat} {k : Int} (hv : Li eNode n H v (fam (nMark k) m)) (hk : 0 ≤ k ∧ k ≤ 100000000) (hl : m ≤ 10000000) : Rt Try.prog 108 [v, .int .i64 k] H n (.int .i64 (k + 5 * m)) := by
  apply Rt.mk
  rw [c108]; unfold S108
  refine Wp.bind (Loop_rule (fun d t H' n' => ∃ (j : Nat), j + d = m ∧ n + 2 ≤ n' ∧ (∀ i, i < n → H' i = H i) ∧ t 0 = v ∧ t 1 = .int .i64 (k + 5 * j) ∧ t 5 = .int .i64 j) (fun o => n ≤ o.n ∧ (∀ i, i < n → o.H i = H i) ∧ o.e = .exit 0 ∧ o.t 1 = .int .i64 (k + 5 * m)) ?_ m _ H _ ⟨0, by omega, by omega, fun _ _ => rfl, by simp [put_at, argsT_at], by simp [put_at, argsT_at], by simp [put_at]⟩) ?_
  · rintro d t H' n' ⟨j, hj, hn, s0, e0, e1, e5⟩
    unfold S108L0
    have hlen := hv.len
    rw [fam_len] at hlen
    by_cases hlt : j < m
    · have hlti : (j : Int) < m := by omega
      have hw := wj (j := j) (len := m) hlt (by omega)
      have w1 : IntKind.i64.wrap (k + 5 * (j : Int) + 1) = k + 5 * j + 1 := w64 (by omega)
      have w2 : IntKind.i64.wrap (k + 5 * (j : Int) + 1 + 1) = k + 5 * j + 2 := by rw [w64 (by omega)]; omega
      have w3 : IntKind.i64.wrap (k + 5 * (j : Int) + 2 + 1) = k + 5 * j + 3 := by rw [w64 (by omega)]; omega
      have w4 : IntKind.i64.wrap (k + 5 * (j : Int) + 3 + 1) = k + 5 * j + 4 := by rw [w64 (by omega)]; omega
      have w5 : IntKind.i64.wrap (k + 5 * (j : Int) + 4 + 1) = k + 5 * ((j + 1 : Nat) : Int) := by rw [w64 (by omega)]; omega
      have g := (hv.mv (m := n) (H' := H') (by omega) s0).nAll (i := (j : Int)) (by omega) (by rw [fam_len]; exact hlti)
      rw [fam_gi _ hlt] at g
      simp only [nMark] at g
      (((repeat (first | (with_reducible apply Wp.step; case h => ((try simp (disch := omega) only [↓reduceIte, ask_true, ↓X0, X1, Nat.reduceEqDiff, Int.reduceEq, Nat.reduceAdd, Nat.reduceSub, e0, e1, e5, hlen, hlti, g, w1, w2]); with_reducible exact rfl)) | (apply Wp.andS) | (apply Wp.orS) | ((with_reducible first | apply Wp.gs | apply Wp.cs | apply Wp.cselX | apply Wp.askT | apply Wp.iteKT | apply Wp.ikb); case h => ((try simp (disch := omega) only [↓reduceIte, ask_true, ↓X0, X1, Nat.reduceEqDiff, Int.reduceEq, Nat.reduceAdd, Nat.reduceSub, e0, e1, e5, hlen, hlti, g, w1, w2]); (with_reducible first | done | exact bT | exact bF))) | (with_reducible apply Wp.gu) | (simp only [↓X3]) | (with_reducible apply Wp.assoc))); try simp only [outOf_exit, outOf_ret]); try (with_reducible apply Wp.cargs; case h => ((try simp (disch := omega) only [↓reduceIte, ask_true, ↓X0, X1, Nat.reduceEqDiff, Int.reduceEq, Nat.reduceAdd, Nat.reduceSub, e0, e1, e5, hlen, hlti, g, w1, w2]); with_reducible exact rfl)))
      refine Wp.rt (k107 (k + 5 * j + 2) (by omega) _ _) ?_
      intro H1 n1 q1 s1
      have g := (hv.mv (m := n) (H' := H1) (by omega) (by intros; first | with_reducible rfl | simp (disch := omega) only [Hp_ne, Hp_same, s1, s0])).nAll (i := (j : Int)) (by omega) (by rw [fam_len]; exact hlti)
      rw [fam_gi _ hlt] at g
      simp only [nMark] at g
      (((repeat (first | (with_reducible apply Wp.step; case h => ((try simp (disch := omega) only [↓reduceIte, ask_true, ↓X0, X1, Nat.reduceEqDiff, Int.reduceEq, Nat.reduceAdd, Nat.reduceSub, e0, e1, e5, hlen, hlti, g, w3, w4, w5, hw]); with_reducible exact rfl)) | (apply Wp.andS) | (apply Wp.orS) | ((with_reducible first | apply Wp.gs | apply Wp.cs | apply Wp.cselX | apply Wp.askT | apply Wp.iteKT | apply Wp.ikb); case h => ((try simp (disch := omega) only [↓reduceIte, ask_true, ↓X0, X1, Nat.reduceEqDiff, Int.reduceEq, Nat.reduceAdd, Nat.reduceSub, e0, e1, e5, hlen, hlti, g, w3, w4, w5, hw]); (with_reducible first | done | exact bT | exact bF))) | (with_reducible apply Wp.gu) | (simp only [↓X3]) | (with_reducible apply Wp.assoc))); try simp only [outOf_exit, outOf_ret]); try (with_reducible apply Wp.cargs; case h => ((try simp (disch := omega) only [↓reduceIte, ask_true, ↓X0, X1, Nat.reduceEqDiff, Int.reduceEq, Nat.reduceAdd, Nat.reduceSub, e0, e1, e5, hlen, hlti, g, w3, w4, w5, hw]); with_reducible exact rfl)))
      exact Wp.pure (Nxt.go (d - 1) (by omega) ⟨j + 1, by omega, by omega, (by intros; first | with_reducible rfl | simp (disch := omega) only [Hp_ne, Hp_same, s1, s0]), by simp [put_at, e0], by simp [put_at], by simp [put_at]⟩)
    · have hlti : ¬ (j : Int) < m := by omega
      (((repeat (first | (with_reducible apply Wp.step; case h => ((try simp (disch := omega) only [↓reduceIte, ask_true, ↓X0, X1, Nat.reduceEqDiff, Int.reduceEq, Nat.reduceAdd, Nat.reduceSub, e0, e1, e5, hlen, hlti]); with_reducible exact rfl)) | (apply Wp.andS) | (apply Wp.orS) | ((with_reducible first | apply Wp.gs | apply Wp.cs | apply Wp.cselX | apply Wp.askT | apply Wp.iteKT | apply Wp.ikb); case h => ((try simp (disch := omega) only [↓reduceIte, ask_true, ↓X0, X1, Nat.reduceEqDiff, Int.reduceEq, Nat.reduceAdd, Nat.reduceSub, e0, e1, e5, hlen, hlti]); (with_reducible first | done | exact bT | exact bF))) | (with_reducible apply Wp.gu) | (simp only [↓X3]) | (with_reducible apply Wp.assoc))); try simp only [outOf_exit, outOf_ret]); try (with_reducible apply Wp.cargs; case h => ((try simp (disch := omega) only [↓reduceIte, ask_true, ↓X0, X1, Nat.reduceEqDiff, Int.reduceEq, Nat.reduceAdd, Nat.reduceSub, e0, e1, e5, hlen, hlti]); with_reducible exact rfl)))
      have hjl : j = m := by omega
      subst hjl
      exact Wp.pure (Nxt.exit ⟨by simp only; omega, s0, rfl, by simp [put_at, e1]⟩)
  · rintro ⟨oe, ot, oH, on⟩ ⟨f1, f2, rfl, f4⟩
    simp only at f1 f2 f4
    simp (disch := omega) only [↓reduceIte, ask_true, ↓X0, X1, Nat.reduceEqDiff, Int.reduceEq, Nat.reduceAdd, Nat.reduceSub, f4]
    exact Wp.pure ⟨by simp only; omega, f2, rfl⟩
theorem k64 {n : Nat} {H : Hp} {v : Value} {m : Nat} {k : Int} (hv : Li eNode n H v (fam (nMark k) m)) (hk : 0 ≤ k ∧ k ≤ 100000000) (hl : m ≤ 10000000) : Rt Try.prog 64 [.agg ⟨[v]⟩, .int .i64 k] H n (.int .i64 (k + 5 * m)) := by
  apply Rt.mk
  rw [c64]; unfold S64
  (((repeat (first | (with_reducible apply Wp.step; case h => ((try simp (disch := omega) only [↓reduceIte, ask_true, ↓X0, X1, Nat.reduceEqDiff, Int.reduceEq, Nat.reduceAdd, Nat.reduceSub, X2, Hp_ne, Nat.reduceLeDiff]); with_reducible exact rfl)) | (apply Wp.andS) | (apply Wp.orS) | ((with_reducible first | apply Wp.gs | apply Wp.cs | apply Wp.cselX | apply Wp.askT | apply Wp.iteKT | apply Wp.ikb); case h => ((try simp (disch := omega) only [↓reduceIte, ask_true, ↓X0, X1, Nat.reduceEqDiff, Int.reduceEq, Nat.reduceAdd, Nat.reduceSub, X2, Hp_ne, Nat.reduceLeDiff]); (with_reducible first | done | exact bT | exact bF))) | (with_reducible apply Wp.gu) | (simp only [↓X3]) | (with_reducible apply Wp.assoc))); try simp only [outOf_exit, outOf_ret]); try (with_reducible apply Wp.cargs; case h => ((try simp (disch := omega) only [↓reduceIte, ask_true, ↓X0, X1, Nat.reduceEqDiff, Int.reduceEq, Nat.reduceAdd, Nat.reduceSub, X2, Hp_ne, Nat.reduceLeDiff]); with_reducible exact rfl)))
  refine Wp.rt (k108 (hv.mv (by omega) (by intros; first | with_reducible rfl | simp (disch := omega) only [Hp_ne, Hp_same])) hk hl) ?_
  intro H1 n1 q1 s1
  (((repeat (first | (with_reducible apply Wp.step; case h => ((try simp (disch := omega) only [↓reduceIte, ask_true, ↓X0, X1, Nat.reduceEqDiff, Int.reduceEq, Nat.reduceAdd, Nat.reduceSub, show ¬ k + 5 * (m : Int) < 0 by omega]); with_reducible exact rfl)) | (apply Wp.andS) | (apply Wp.orS) | ((with_reducible first | apply Wp.gs | apply Wp.cs | apply Wp.cselX | apply Wp.askT | apply Wp.iteKT | apply Wp.ikb); case h => ((try simp (disch := omega) only [↓reduceIte, ask_true, ↓X0, X1, Nat.reduceEqDiff, Int.reduceEq, Nat.reduceAdd, Nat.reduceSub, show ¬ k + 5 * (m : Int) < 0 by omega]); (with_reducible first | done | exact bT | exact bF))) | (with_reducible apply Wp.gu) | (simp only [↓X3]) | (with_reducible apply Wp.assoc))); try simp only [outOf_exit, outOf_ret]); try (with_reducible apply Wp.cargs; case h => ((try simp (disch := omega) only [↓reduceIte, ask_true, ↓X0, X1, Nat.reduceEqDiff, Int.reduceEq, Nat.reduceAdd, Nat.reduceSub, show ¬ k + 5 * (m : Int) < 0 by omega]); with_reducible exact rfl)))
  exact Wp.pure ⟨by simp only; omega, (by intros; first | with_reducible rfl | simp (disch := omega) only [Hp_ne, Hp_same, s1]), rfl⟩
end Go.Proofs.Ytjbfdaemgpmgjaa.Ax
