/- Contracts: values copied and kept. -/
import Derived.Test.YtdnokdgkccnbnaaK20
set_option linter.unusedVariables false
set_option linter.unusedSimpArgs false
set_option maxHeartbeats 4000000
namespace Go.Proofs.Ytdnokdgkccnbnaa.Ax
open Go
def cpRun (p q : List Nd) (v : Int) : List Nd × List Int := inRun (reachM q [v]) (-1) p q
theorem one_root {v : Int} {q : List Nd} (h : 0 ≤ v ∧ v < (q.length : Int)) : ∀ r ∈ [v], 0 ≤ r ∧ r < (q.length : Int) := by
  intro r hr; simp at hr; rw [hr]; exact h
theorem cp_gi {p q : List Nd} (hp : PoolOk q) {x : Int} (hx : 0 ≤ x ∧ x < (q.length : Int)) : (inRun (reachM q [x]) 0 p q).1 = (cpRun p q x).1 ∧ gi (inRun (reachM q [x]) 0 p q).2 x = gi (cpRun p q x).2 x := by
  have h := inRun_zz (p := p) hp [x] 0 (-1)
  exact ⟨h.1, h.2 x hx.1 hx.2 (reachM_in hp (one_root hx) (by simp))⟩
/-! ### Copy -/
def copyAns (p q : List Nd) (v : Int) : List Nd × Int := if PoolOk p then (if PoolOk q ∧ 0 ≤ v ∧ v < (q.length : Int) then (if (cpRun p q v).1.length ≤ 3000 then ((cpRun p q v).1, gi (cpRun p q v).2 v) else (p, -1)) else (p, -1)) else ([], -1)
theorem copyAns_no {p q : List Nd} {v : Int} (h : ¬ PoolOk p) : copyAns p q v = ([], -1) := by unfold copyAns; rw [if_neg h]
theorem copyAns_bad {p q : List Nd} {v : Int} (h : PoolOk p) (h2 : ¬ (PoolOk q ∧ 0 ≤ v ∧ v < (q.length : Int))) : copyAns p q v = (p, -1) := by unfold copyAns; rw [if_pos h, if_neg h2]
theorem copyAns_full {p q : List Nd} {v : Int} (h : PoolOk p) (h2 : PoolOk q ∧ 0 ≤ v ∧ v < (q.length : Int)) (h3 : ¬ (cpRun p q v).1.length ≤ 3000) : copyAns p q v = (p, -1) := by unfold copyAns; rw [if_pos h, if_pos h2, if_neg h3]
theorem copyAns_ok {p q : List Nd} {v : Int} (h : PoolOk p) (h2 : PoolOk q ∧ 0 ≤ v ∧ v < (q.length : Int)) (h3 : (cpRun p q v).1.length ≤ 3000) : copyAns p q v = ((cpRun p q v).1, gi (cpRun p q v).2 v) := by unfold copyAns; rw [if_pos h, if_pos h2, if_pos h3]
theorem copyAns_len (p q : List Nd) (v : Int) : (copyAns p q v).1.length ≤ 3000 := by
  unfold copyAns
  split
  · rename_i h
    split
    · split
      · rename_i h3; exact h3
      · exact h.2
    · exact h.2
  · simp
/-! ### Keep -/
def keepM (l : List Nd) (roots : List Int) : List Nd × List Int := ((inRun (reachM l roots) (-1) [] l).1, roots.map (gi (inRun (reachM l roots) (-1) [] l).2))
/-- A pool and numbers, in new and different objects. -/
def New2 (lo n : Nat) (H : Hp) (u w : Value) (l : List Nd) (m : List Int) : Prop := ∃ i j, lo ≤ i ∧ i < n ∧ lo ≤ j ∧ j < n ∧ i ≠ j ∧ At eNode i H u l ∧ At eInt j H w m
theorem map_take_next {f : Int → Int} {roots : List Int} {j : Nat} (h : j < roots.length) : (roots.take (j + 1)).map f = (roots.take j).map f ++ [f roots[j]] := by
  rw [take_next h, List.map_append]; rfl
theorem k34 {n : Nat} {H : Hp} {v w : Value} {l : List Nd} {roots : List Int} (hv : Li eNode n H v l) (hp : PoolOk l) (hw : Li eInt n H w roots) (hr : ∀ r ∈ roots, 0 ≤ r ∧ r < (l.length : Int)) (hrl : roots.length ≤ 1048576) : RtN Try.prog 34 [.agg ⟨[v]⟩, w] H n (fun r H' n' => ∃ u x, r = .tuple ⟨[.agg ⟨[u]⟩, x]⟩ ∧ New2 n n' H' u x (keepM l roots).1 (keepM l roots).2) := by
  apply RtN.mk
  rw [c34]; unfold S34
  have hl2 := hp.2
  (((repeat (first | (with_reducible apply Wp.step; case h => ((try simp (disch := omega) only [↓reduceIte, ask_true, ↓X0, X1, Nat.reduceEqDiff, Int.reduceEq, Nat.reduceAdd, Nat.reduceSub, X2, Hp_ne, Nat.reduceLeDiff, argsT_at]); with_reducible exact rfl)) | (apply Wp.andS) | (apply Wp.orS) | ((with_reducible first | apply Wp.gs | apply Wp.cs | apply Wp.cselX | apply Wp.askT | apply Wp.iteKT | apply Wp.ikb | apply Wp.askb); case h => ((try simp (disch := omega) only [↓reduceIte, ask_true, ↓X0, X1, Nat.reduceEqDiff, Int.reduceEq, Nat.reduceAdd, Nat.reduceSub, X2, Hp_ne, Nat.reduceLeDiff, argsT_at]); (with_reducible first | done | exact bT | exact bF))) | (with_reducible apply Wp.gu) | (simp only [↓X3]) | (with_reducible apply Wp.assoc))); try simp only [outOf_exit, outOf_ret]); try (with_reducible apply Wp.cargs; case h => ((try simp (disch := omega) only [↓reduceIte, ask_true, ↓X0, X1, Nat.reduceEqDiff, Int.reduceEq, Nat.reduceAdd, Nat.reduceSub, X2, Hp_ne, Nat.reduceLeDiff, argsT_at]); with_reducible exact rfl)))
  refine Wp.rta (k63 (c := n + 4) (o := 0) (id := n + 5) (p := []) (cs := [nilS]) (e := 0) (v := nilS) ⟨Hp_same _ _ _, rfl, At.nil, by omega, by omega, by omega⟩ (hv.mv (by omega) (by intros; first | with_reducible rfl | simp (disch := omega) only [Hp_ne, Hp_same])) (hv.off (by omega)) (hv.off (by omega)) hp (hw.mv (by omega) (by intros; first | with_reducible rfl | simp (disch := omega) only [Hp_ne, Hp_same])) hr hrl (by simp)) ?_
  rintro _ H1 n1 q1 s1 ⟨ida, u, id1, i1, i2, rfl, i3, i4, i5, i6⟩
  have hb := i6.hc
  have hid1 := i6.idn
  have hn1 : n + 4 < n1 := i6.cn
  have ha1 := i6.at_
  simp only [List.set_cons_zero] at hb
  have hlw := (hw.mv (H' := H1) (Nat.le_refl _) (by intros; first | with_reducible rfl | simp (disch := omega) only [Hp_ne, Hp_same, s1])).len
  have hlen2 := inRun_len (reachM l roots) (-1) [] l
  unfold keepM
  generalize hA : inRun (reachM l roots) (-1) [] l = A at *
  (((repeat (first | (with_reducible apply Wp.step; case h => ((try simp (disch := omega) only [↓reduceIte, ask_true, ↓X0, X1, Nat.reduceEqDiff, Int.reduceEq, Nat.reduceAdd, Nat.reduceSub, bsl_zero, argsT_at, hw.len]); with_reducible exact rfl)) | (apply Wp.andS) | (apply Wp.orS) | ((with_reducible first | apply Wp.gs | apply Wp.cs | apply Wp.cselX | apply Wp.askT | apply Wp.iteKT | apply Wp.ikb | apply Wp.askb); case h => ((try simp (disch := omega) only [↓reduceIte, ask_true, ↓X0, X1, Nat.reduceEqDiff, Int.reduceEq, Nat.reduceAdd, Nat.reduceSub, bsl_zero, argsT_at, hw.len]); (with_reducible first | done | exact bT | exact bF))) | (with_reducible apply Wp.gu) | (simp only [↓X3]) | (with_reducible apply Wp.assoc))); try simp only [outOf_exit, outOf_ret]); try (with_reducible apply Wp.cargs; case h => ((try simp (disch := omega) only [↓reduceIte, ask_true, ↓X0, X1, Nat.reduceEqDiff, Int.reduceEq, Nat.reduceAdd, Nat.reduceSub, bsl_zero, argsT_at, hw.len]); with_reducible exact rfl)))
  refine Wp.bind (Loop_rule (fun d T H' n' => ∃ (j idk : Nat), j + d = roots.length ∧ n1 + 5 ≤ n' ∧ (∀ i, i < n1 → H' i = H1 i) ∧ T 4 = ptr (n + 1) 0 ∧ T 6 = ptr (n + 4) 0 ∧ T 7 = sl ida 0 l.length ∧ T 16 = w ∧ T 17 = .int .i64 roots.length ∧ T 18 = .int .i64 j ∧ n1 ≤ idk ∧ idk < n' ∧ T 8 = sl idk 0 ((roots.take j).map (gi A.2)).length ∧ H' idk = some (.row (((roots.take j).map (gi A.2)).flatMap eInt.cells) 1 true)) (fun o => n1 ≤ o.n ∧ (∀ i, i < n1 → o.H i = H1 i) ∧ o.e = .exit 0 ∧ o.t 4 = ptr (n + 1) 0 ∧ o.t 6 = ptr (n + 4) 0 ∧ ∃ idk, n1 ≤ idk ∧ idk < o.n ∧ o.t 8 = sl idk 0 (roots.map (gi A.2)).length ∧ o.H idk = some (.row ((roots.map (gi A.2)).flatMap eInt.cells) 1 true)) ?_ roots.length _ (H1.set n1 (some (.row [] 1 true))) _ ⟨0, n1, by omega, by omega, (by intros; first | with_reducible rfl | simp (disch := omega) only [Hp_ne, Hp_same]), by simp [put_at], by simp [put_at], by simp [put_at], by simp [put_at, argsT_at], by simp [put_at], by simp [put_at], by omega, by omega, by simp [put_at], Hp_same _ _ _⟩) ?_
  · rintro d T H' n' ⟨j, idk, hj, hn, s2, e4, e6, e7, e16, e17, e18, k1, k2, e8, hK⟩
    unfold S34L0
    by_cases hlt : j < roots.length
    · have hlti : (j : Int) < roots.length := by omega
      have hws := wj (j := j) (len := roots.length) hlt (by omega)
      have g := (hw.mv (H' := H') (Nat.le_refl _) (by intros; first | with_reducible rfl | simp (disch := omega) only [Hp_ne, Hp_same, s2, s1])).iAll (i := (j : Int)) (by omega) hlti
      rw [gi_nat hlt] at g
      have hrj := hr _ (List.getElem_mem hlt)
      have hix := idx1 (id := ida) (k := .i64) (m := l.length) hrj.1 hrj.2
      have hfl := flat_i (l := A.2) hrj.1 (by rw [hlen2]; exact hrj.2)
      have hAm : H' ida = some (.row (A.2.flatMap eInt.cells) 1 true) := by rw [s2 ida (by omega)]; exact i3
      (((repeat (first | (with_reducible apply Wp.step; case h => ((try simp (disch := omega) only [↓reduceIte, ask_true, ↓X0, X1, Nat.reduceEqDiff, Int.reduceEq, Nat.reduceAdd, Nat.reduceSub, X2, Hp_ne, Nat.reduceLeDiff, e4, e6, e7, e16, e17, e18, hlti, g, hix, hAm, hfl, bsl_i]); with_reducible exact rfl)) | (apply Wp.andS) | (apply Wp.orS) | ((with_reducible first | apply Wp.gs | apply Wp.cs | apply Wp.cselX | apply Wp.askT | apply Wp.iteKT | apply Wp.ikb | apply Wp.askb); case h => ((try simp (disch := omega) only [↓reduceIte, ask_true, ↓X0, X1, Nat.reduceEqDiff, Int.reduceEq, Nat.reduceAdd, Nat.reduceSub, X2, Hp_ne, Nat.reduceLeDiff, e4, e6, e7, e16, e17, e18, hlti, g, hix, hAm, hfl, bsl_i]); (with_reducible first | done | exact bT | exact bF))) | (with_reducible apply Wp.gu) | (simp only [↓X3]) | (with_reducible apply Wp.assoc))); try simp only [outOf_exit, outOf_ret]); try (with_reducible apply Wp.cargs; case h => ((try simp (disch := omega) only [↓reduceIte, ask_true, ↓X0, X1, Nat.reduceEqDiff, Int.reduceEq, Nat.reduceAdd, Nat.reduceSub, X2, Hp_ne, Nat.reduceLeDiff, e4, e6, e7, e16, e17, e18, hlti, g, hix, hAm, hfl, bsl_i]); with_reducible exact rfl)))
      refine Wp.app1 (E := eInt) (gi A.2 roots[j]) (l := (roots.take j).map (gi A.2)) (id := idk) (.inr ⟨e8, hK⟩) (by omega) (by decide) (by simp; omega) ?_
      intro H4 r1 r2
      (((repeat (first | (with_reducible apply Wp.step; case h => ((try simp (disch := omega) only [↓reduceIte, ask_true, ↓X0, X1, Nat.reduceEqDiff, Int.reduceEq, Nat.reduceAdd, Nat.reduceSub, e18, hws]); with_reducible exact rfl)) | (apply Wp.andS) | (apply Wp.orS) | ((with_reducible first | apply Wp.gs | apply Wp.cs | apply Wp.cselX | apply Wp.askT | apply Wp.iteKT | apply Wp.ikb | apply Wp.askb); case h => ((try simp (disch := omega) only [↓reduceIte, ask_true, ↓X0, X1, Nat.reduceEqDiff, Int.reduceEq, Nat.reduceAdd, Nat.reduceSub, e18, hws]); (with_reducible first | done | exact bT | exact bF))) | (with_reducible apply Wp.gu) | (simp only [↓X3]) | (with_reducible apply Wp.assoc))); try simp only [outOf_exit, outOf_ret]); try (with_reducible apply Wp.cargs; case h => ((try simp (disch := omega) only [↓reduceIte, ask_true, ↓X0, X1, Nat.reduceEqDiff, Int.reduceEq, Nat.reduceAdd, Nat.reduceSub, e18, hws]); with_reducible exact rfl)))
      rw [← map_take_next hlt] at r1
      exact Wp.pure (Nxt.go (d - 1) (by omega) ⟨j + 1, n' + 10, by omega, by omega, (by intros; first | with_reducible rfl | simp (disch := omega) only [Hp_ne, Hp_same, r2, s2]), by simp [put_at, e4], by simp [put_at, e6], by simp [put_at, e7], by simp [put_at, e16], by simp [put_at, e17], by simp [put_at], by omega, by omega, by simp only [map_take_next hlt]; simp [put_at], r1⟩)
    · have hlti : ¬ (j : Int) < roots.length := by omega
      (((repeat (first | (with_reducible apply Wp.step; case h => ((try simp (disch := omega) only [↓reduceIte, ask_true, ↓X0, X1, Nat.reduceEqDiff, Int.reduceEq, Nat.reduceAdd, Nat.reduceSub, e17, e18, hlti]); with_reducible exact rfl)) | (apply Wp.andS) | (apply Wp.orS) | ((with_reducible first | apply Wp.gs | apply Wp.cs | apply Wp.cselX | apply Wp.askT | apply Wp.iteKT | apply Wp.ikb | apply Wp.askb); case h => ((try simp (disch := omega) only [↓reduceIte, ask_true, ↓X0, X1, Nat.reduceEqDiff, Int.reduceEq, Nat.reduceAdd, Nat.reduceSub, e17, e18, hlti]); (with_reducible first | done | exact bT | exact bF))) | (with_reducible apply Wp.gu) | (simp only [↓X3]) | (with_reducible apply Wp.assoc))); try simp only [outOf_exit, outOf_ret]); try (with_reducible apply Wp.cargs; case h => ((try simp (disch := omega) only [↓reduceIte, ask_true, ↓X0, X1, Nat.reduceEqDiff, Int.reduceEq, Nat.reduceAdd, Nat.reduceSub, e17, e18, hlti]); with_reducible exact rfl)))
      rw [List.take_of_length_le (by omega)] at e8 hK
      exact Wp.pure (Nxt.exit ⟨by simp only; omega, s2, rfl, by simp [put_at, e4], by simp [put_at, e6], idk, k1, by simp only; omega, by simp [put_at, e8], hK⟩)
  · rintro ⟨oe, ot, oH, on⟩ ⟨f1, f2, rfl, f4, f6, idk, f7, f8, f9, f10⟩
    simp only at f1 f2 f4 f6 f7 f8 f9 f10
    (((repeat (first | (with_reducible apply Wp.step; case h => ((try simp (disch := omega) only [↓reduceIte, ask_true, ↓X0, X1, Nat.reduceEqDiff, Int.reduceEq, Nat.reduceAdd, Nat.reduceSub, X2, Hp_ne, Nat.reduceLeDiff, f4, f6, f9, f2, hb, s1]); with_reducible exact rfl)) | (apply Wp.andS) | (apply Wp.orS) | ((with_reducible first | apply Wp.gs | apply Wp.cs | apply Wp.cselX | apply Wp.askT | apply Wp.iteKT | apply Wp.ikb | apply Wp.askb); case h => ((try simp (disch := omega) only [↓reduceIte, ask_true, ↓X0, X1, Nat.reduceEqDiff, Int.reduceEq, Nat.reduceAdd, Nat.reduceSub, X2, Hp_ne, Nat.reduceLeDiff, f4, f6, f9, f2, hb, s1]); (with_reducible first | done | exact bT | exact bF))) | (with_reducible apply Wp.gu) | (simp only [↓X3]) | (with_reducible apply Wp.assoc))); try simp only [outOf_exit, outOf_ret]); try (with_reducible apply Wp.cargs; case h => ((try simp (disch := omega) only [↓reduceIte, ask_true, ↓X0, X1, Nat.reduceEqDiff, Int.reduceEq, Nat.reduceAdd, Nat.reduceSub, X2, Hp_ne, Nat.reduceLeDiff, f4, f6, f9, f2, hb, s1]); with_reducible exact rfl)))
    exact Wp.pure ⟨by simp only; omega, (by intros; first | with_reducible rfl | simp (disch := omega) only [Hp_ne, Hp_same, f2, s1]), u, _, rfl, id1, idk, by omega, by simp only; omega, by omega, by simp only; omega, by omega, ha1.mv (by intros; first | with_reducible rfl | simp (disch := omega) only [Hp_ne, Hp_same, f2]), .inr ⟨f9, by simp (disch := omega) only [Hp_ne, f10]⟩⟩
theorem k32 {n : Nat} {H : Hp} {v w : Value} {l : List Nd} {roots : List Int} (hv : Li eNode n H v l) (hp : PoolOk l) (hw : Li eInt n H w roots) (hr : ∀ r ∈ roots, 0 ≤ r ∧ r < (l.length : Int)) (hrl : roots.length ≤ 1048576) : RtN Try.prog 32 [.agg ⟨[v]⟩, w] H n (fun r H' n' => ∃ u x, r = .tuple ⟨[.agg ⟨[u]⟩, x]⟩ ∧ New2 n n' H' u x (keepM l roots).1 (keepM l roots).2) := by
  apply RtN.mk
  rw [c32]; unfold S32
  have hl2 := hp.2
  (((repeat (first | (with_reducible apply Wp.step; case h => ((try simp (disch := omega) only [↓reduceIte, ask_true, ↓X0, X1, Nat.reduceEqDiff, Int.reduceEq, Nat.reduceAdd, Nat.reduceSub, X2, Hp_ne, Nat.reduceLeDiff, argsT_at]); with_reducible exact rfl)) | (apply Wp.andS) | (apply Wp.orS) | ((with_reducible first | apply Wp.gs | apply Wp.cs | apply Wp.cselX | apply Wp.askT | apply Wp.iteKT | apply Wp.ikb | apply Wp.askb); case h => ((try simp (disch := omega) only [↓reduceIte, ask_true, ↓X0, X1, Nat.reduceEqDiff, Int.reduceEq, Nat.reduceAdd, Nat.reduceSub, X2, Hp_ne, Nat.reduceLeDiff, argsT_at]); (with_reducible first | done | exact bT | exact bF))) | (with_reducible apply Wp.gu) | (simp only [↓X3]) | (with_reducible apply Wp.assoc))); try simp only [outOf_exit, outOf_ret]); try (with_reducible apply Wp.cargs; case h => ((try simp (disch := omega) only [↓reduceIte, ask_true, ↓X0, X1, Nat.reduceEqDiff, Int.reduceEq, Nat.reduceAdd, Nat.reduceSub, X2, Hp_ne, Nat.reduceLeDiff, argsT_at]); with_reducible exact rfl)))
  refine Wp.rtn (k60 (hv.mv (by omega) (by intros; first | with_reducible rfl | simp (disch := omega) only [Hp_ne, Hp_same])) hp (hw.mv (by omega) (by intros; first | with_reducible rfl | simp (disch := omega) only [Hp_ne, Hp_same])) hr hrl) ?_
  rintro _ H0 n0 q0 s0 ⟨idt, t1, t2, rfl, t3⟩
  (((repeat (first | (with_reducible apply Wp.step; case h => ((try simp (disch := omega) only [↓reduceIte, ask_true, ↓X0, X1, Nat.reduceEqDiff, Int.reduceEq, Nat.reduceAdd, Nat.reduceSub, X2, Hp_ne, Nat.reduceLeDiff, s0]); with_reducible exact rfl)) | (apply Wp.andS) | (apply Wp.orS) | ((with_reducible first | apply Wp.gs | apply Wp.cs | apply Wp.cselX | apply Wp.askT | apply Wp.iteKT | apply Wp.ikb | apply Wp.askb); case h => ((try simp (disch := omega) only [↓reduceIte, ask_true, ↓X0, X1, Nat.reduceEqDiff, Int.reduceEq, Nat.reduceAdd, Nat.reduceSub, X2, Hp_ne, Nat.reduceLeDiff, s0]); (with_reducible first | done | exact bT | exact bF))) | (with_reducible apply Wp.gu) | (simp only [↓X3]) | (with_reducible apply Wp.assoc))); try simp only [outOf_exit, outOf_ret]); try (with_reducible apply Wp.cargs; case h => ((try simp (disch := omega) only [↓reduceIte, ask_true, ↓X0, X1, Nat.reduceEqDiff, Int.reduceEq, Nat.reduceAdd, Nat.reduceSub, X2, Hp_ne, Nat.reduceLeDiff, s0]); with_reducible exact rfl)))
  refine Wp.rta (k59 (c := n + 4) (o := 0) (id := n + 5) (p := []) (cs := [nilS]) (e := 0) (v := nilS) (told := reachM l roots) ⟨by simp (disch := omega) only [s0, Hp_same], rfl, At.nil, by omega, by omega, by omega⟩ (hv.mv (by omega) (by intros; first | with_reducible rfl | simp (disch := omega) only [Hp_ne, Hp_same, s0])) (hv.off (by omega)) (hv.off (by omega)) hp t3 (reachM_len _ _) t2 (by omega) (by omega) (by simp)) ?_
  rintro _ H1 n1 q1 s1 ⟨ida, u, id1, i1, i2, rfl, i3, i4, i5, i6⟩
  have hb := i6.hc
  have hid1 := i6.idn
  have hn1 : n + 4 < n1 := i6.cn
  have ha1 := i6.at_
  simp only [List.set_cons_zero] at hb
  have hlw := (hw.mv (H' := H1) (Nat.le_refl _) (by intros; first | with_reducible rfl | simp (disch := omega) only [Hp_ne, Hp_same, s1, s0])).len
  have hlen2 := inRun_len (reachM l roots) 0 [] l
  have hz := inRun_zz (p := []) hp roots 0 (-1)
  have hk : keepM l roots = ((inRun (reachM l roots) 0 [] l).1, roots.map (gi (inRun (reachM l roots) 0 [] l).2)) := by
    unfold keepM
    rw [hz.1]
    congr 1
    apply List.map_congr_left
    intro r hrr
    exact (hz.2 r (hr r hrr).1 (hr r hrr).2 (reachM_in hp hr hrr)).symm
  rw [hk]
  clear hk hz
  generalize hA : inRun (reachM l roots) 0 [] l = A at *
  (((repeat (first | (with_reducible apply Wp.step; case h => ((try simp (disch := omega) only [↓reduceIte, ask_true, ↓X0, X1, Nat.reduceEqDiff, Int.reduceEq, Nat.reduceAdd, Nat.reduceSub, bsl_zero, argsT_at]); with_reducible exact rfl)) | (apply Wp.andS) | (apply Wp.orS) | ((with_reducible first | apply Wp.gs | apply Wp.cs | apply Wp.cselX | apply Wp.askT | apply Wp.iteKT | apply Wp.ikb | apply Wp.askb); case h => ((try simp (disch := omega) only [↓reduceIte, ask_true, ↓X0, X1, Nat.reduceEqDiff, Int.reduceEq, Nat.reduceAdd, Nat.reduceSub, bsl_zero, argsT_at]); (with_reducible first | done | exact bT | exact bF))) | (with_reducible apply Wp.gu) | (simp only [↓X3]) | (with_reducible apply Wp.assoc))); try simp only [outOf_exit, outOf_ret]); try (with_reducible apply Wp.cargs; case h => ((try simp (disch := omega) only [↓reduceIte, ask_true, ↓X0, X1, Nat.reduceEqDiff, Int.reduceEq, Nat.reduceAdd, Nat.reduceSub, bsl_zero, argsT_at]); with_reducible exact rfl)))
  refine Wp.bind (Loop_rule (fun d T H' n' => ∃ (j idk : Nat), j + d = roots.length ∧ n1 + 3 ≤ n' ∧ (∀ i, i < n1 → H' i = H1 i) ∧ T 4 = ptr (n + 1) 0 ∧ T 6 = ptr (n + 4) 0 ∧ T 7 = sl ida 0 l.length ∧ T 1 = w ∧ T 9 = .int .i64 j ∧ n1 ≤ idk ∧ idk < n' ∧ T 8 = sl idk 0 ((roots.take j).map (gi A.2)).length ∧ H' idk = some (.row (((roots.take j).map (gi A.2)).flatMap eInt.cells) 1 true)) (fun o => n1 ≤ o.n ∧ (∀ i, i < n1 → o.H i = H1 i) ∧ o.e = .exit 0 ∧ o.t 4 = ptr (n + 1) 0 ∧ o.t 6 = ptr (n + 4) 0 ∧ ∃ idk, n1 ≤ idk ∧ idk < o.n ∧ o.t 8 = sl idk 0 (roots.map (gi A.2)).length ∧ o.H idk = some (.row ((roots.map (gi A.2)).flatMap eInt.cells) 1 true)) ?_ roots.length _ (H1.set n1 (some (.row [] 1 true))) _ ⟨0, n1, by omega, by omega, (by intros; first | with_reducible rfl | simp (disch := omega) only [Hp_ne, Hp_same]), by simp [put_at], by simp [put_at], by simp [put_at], by simp [put_at, argsT_at], by simp [put_at], by omega, by omega, by simp [put_at], Hp_same _ _ _⟩) ?_
  · rintro d T H' n' ⟨j, idk, hj, hn, s2, e4, e6, e7, e1, e9, k1, k2, e8, hK⟩
    unfold S32L0
    by_cases hlt : j < roots.length
    · have hlti : (j : Int) < roots.length := by omega
      have hlw2 := (hw.mv (H' := H') (Nat.le_refl _) (by intros; first | with_reducible rfl | simp (disch := omega) only [Hp_ne, Hp_same, s2, s1, s0])).len
      have hws := wj (j := j) (len := roots.length) hlt (by omega)
      have g := (hw.mv (H' := H') (Nat.le_refl _) (by intros; first | with_reducible rfl | simp (disch := omega) only [Hp_ne, Hp_same, s2, s1, s0])).iAll (i := (j : Int)) (by omega) hlti
      rw [gi_nat hlt] at g
      have hrj := hr _ (List.getElem_mem hlt)
      have hix := idx1 (id := ida) (k := .i64) (m := l.length) hrj.1 hrj.2
      have hfl := flat_i (l := A.2) hrj.1 (by rw [hlen2]; exact hrj.2)
      have hAm : H' ida = some (.row (A.2.flatMap eInt.cells) 1 true) := by rw [s2 ida (by omega)]; exact i3
      (((repeat (first | (with_reducible apply Wp.step; case h => ((try simp (disch := omega) only [↓reduceIte, ask_true, ↓X0, X1, Nat.reduceEqDiff, Int.reduceEq, Nat.reduceAdd, Nat.reduceSub, X2, Hp_ne, Nat.reduceLeDiff, e4, e6, e7, e1, e9, hlw2, hlti, g, hix, hAm, hfl, bsl_i]); with_reducible exact rfl)) | (apply Wp.andS) | (apply Wp.orS) | ((with_reducible first | apply Wp.gs | apply Wp.cs | apply Wp.cselX | apply Wp.askT | apply Wp.iteKT | apply Wp.ikb | apply Wp.askb); case h => ((try simp (disch := omega) only [↓reduceIte, ask_true, ↓X0, X1, Nat.reduceEqDiff, Int.reduceEq, Nat.reduceAdd, Nat.reduceSub, X2, Hp_ne, Nat.reduceLeDiff, e4, e6, e7, e1, e9, hlw2, hlti, g, hix, hAm, hfl, bsl_i]); (with_reducible first | done | exact bT | exact bF))) | (with_reducible apply Wp.gu) | (simp only [↓X3]) | (with_reducible apply Wp.assoc))); try simp only [outOf_exit, outOf_ret]); try (with_reducible apply Wp.cargs; case h => ((try simp (disch := omega) only [↓reduceIte, ask_true, ↓X0, X1, Nat.reduceEqDiff, Int.reduceEq, Nat.reduceAdd, Nat.reduceSub, X2, Hp_ne, Nat.reduceLeDiff, e4, e6, e7, e1, e9, hlw2, hlti, g, hix, hAm, hfl, bsl_i]); with_reducible exact rfl)))
      refine Wp.app1 (E := eInt) (gi A.2 roots[j]) (l := (roots.take j).map (gi A.2)) (id := idk) (.inr ⟨e8, hK⟩) (by omega) (by decide) (by simp; omega) ?_
      intro H4 r1 r2
      (((repeat (first | (with_reducible apply Wp.step; case h => ((try simp (disch := omega) only [↓reduceIte, ask_true, ↓X0, X1, Nat.reduceEqDiff, Int.reduceEq, Nat.reduceAdd, Nat.reduceSub, e9, hws]); with_reducible exact rfl)) | (apply Wp.andS) | (apply Wp.orS) | ((with_reducible first | apply Wp.gs | apply Wp.cs | apply Wp.cselX | apply Wp.askT | apply Wp.iteKT | apply Wp.ikb | apply Wp.askb); case h => ((try simp (disch := omega) only [↓reduceIte, ask_true, ↓X0, X1, Nat.reduceEqDiff, Int.reduceEq, Nat.reduceAdd, Nat.reduceSub, e9, hws]); (with_reducible first | done | exact bT | exact bF))) | (with_reducible apply Wp.gu) | (simp only [↓X3]) | (with_reducible apply Wp.assoc))); try simp only [outOf_exit, outOf_ret]); try (with_reducible apply Wp.cargs; case h => ((try simp (disch := omega) only [↓reduceIte, ask_true, ↓X0, X1, Nat.reduceEqDiff, Int.reduceEq, Nat.reduceAdd, Nat.reduceSub, e9, hws]); with_reducible exact rfl)))
      rw [← map_take_next hlt] at r1
      exact Wp.pure (Nxt.go (d - 1) (by omega) ⟨j + 1, n' + 13, by omega, by omega, (by intros; first | with_reducible rfl | simp (disch := omega) only [Hp_ne, Hp_same, r2, s2]), by simp [put_at, e4], by simp [put_at, e6], by simp [put_at, e7], by simp [put_at, e1], by simp [put_at], by omega, by omega, by simp only [map_take_next hlt]; simp [put_at], r1⟩)
    · have hlti : ¬ (j : Int) < roots.length := by omega
      have hlw2 := (hw.mv (H' := H') (Nat.le_refl _) (by intros; first | with_reducible rfl | simp (disch := omega) only [Hp_ne, Hp_same, s2, s1, s0])).len
      (((repeat (first | (with_reducible apply Wp.step; case h => ((try simp (disch := omega) only [↓reduceIte, ask_true, ↓X0, X1, Nat.reduceEqDiff, Int.reduceEq, Nat.reduceAdd, Nat.reduceSub, e1, e9, hlw2, hlti]); with_reducible exact rfl)) | (apply Wp.andS) | (apply Wp.orS) | ((with_reducible first | apply Wp.gs | apply Wp.cs | apply Wp.cselX | apply Wp.askT | apply Wp.iteKT | apply Wp.ikb | apply Wp.askb); case h => ((try simp (disch := omega) only [↓reduceIte, ask_true, ↓X0, X1, Nat.reduceEqDiff, Int.reduceEq, Nat.reduceAdd, Nat.reduceSub, e1, e9, hlw2, hlti]); (with_reducible first | done | exact bT | exact bF))) | (with_reducible apply Wp.gu) | (simp only [↓X3]) | (with_reducible apply Wp.assoc))); try simp only [outOf_exit, outOf_ret]); try (with_reducible apply Wp.cargs; case h => ((try simp (disch := omega) only [↓reduceIte, ask_true, ↓X0, X1, Nat.reduceEqDiff, Int.reduceEq, Nat.reduceAdd, Nat.reduceSub, e1, e9, hlw2, hlti]); with_reducible exact rfl)))
      rw [List.take_of_length_le (by omega)] at e8 hK
      exact Wp.pure (Nxt.exit ⟨by simp only; omega, s2, rfl, by simp [put_at, e4], by simp [put_at, e6], idk, k1, by simp only; omega, by simp [put_at, e8], hK⟩)
  · rintro ⟨oe, ot, oH, on⟩ ⟨f1, f2, rfl, f4, f6, idk, f7, f8, f9, f10⟩
    simp only at f1 f2 f4 f6 f7 f8 f9 f10
    (((repeat (first | (with_reducible apply Wp.step; case h => ((try simp (disch := omega) only [↓reduceIte, ask_true, ↓X0, X1, Nat.reduceEqDiff, Int.reduceEq, Nat.reduceAdd, Nat.reduceSub, X2, Hp_ne, Nat.reduceLeDiff, f4, f6, f9, f2, hb, s1, s0]); with_reducible exact rfl)) | (apply Wp.andS) | (apply Wp.orS) | ((with_reducible first | apply Wp.gs | apply Wp.cs | apply Wp.cselX | apply Wp.askT | apply Wp.iteKT | apply Wp.ikb | apply Wp.askb); case h => ((try simp (disch := omega) only [↓reduceIte, ask_true, ↓X0, X1, Nat.reduceEqDiff, Int.reduceEq, Nat.reduceAdd, Nat.reduceSub, X2, Hp_ne, Nat.reduceLeDiff, f4, f6, f9, f2, hb, s1, s0]); (with_reducible first | done | exact bT | exact bF))) | (with_reducible apply Wp.gu) | (simp only [↓X3]) | (with_reducible apply Wp.assoc))); try simp only [outOf_exit, outOf_ret]); try (with_reducible apply Wp.cargs; case h => ((try simp (disch := omega) only [↓reduceIte, ask_true, ↓X0, X1, Nat.reduceEqDiff, Int.reduceEq, Nat.reduceAdd, Nat.reduceSub, X2, Hp_ne, Nat.reduceLeDiff, f4, f6, f9, f2, hb, s1, s0]); with_reducible exact rfl)))
    exact Wp.pure ⟨by simp only; omega, (by intros; first | with_reducible rfl | simp (disch := omega) only [Hp_ne, Hp_same, f2, s1, s0]), u, _, rfl, id1, idk, by omega, by simp only; omega, by omega, by simp only; omega, by omega, ha1.mv (by intros; first | with_reducible rfl | simp (disch := omega) only [Hp_ne, Hp_same, f2]), .inr ⟨f9, by simp (disch := omega) only [Hp_ne, f10]⟩⟩
def keepAns (l : List Nd) (roots : List Int) : List Nd × List Int := if rootsB l roots = true then keepM l roots else ([], [])
theorem keepAns_len (l : List Nd) (roots : List Int) (hl : l.length ≤ 1048576) : (keepAns l roots).1.length ≤ 1048576 ∧ (keepAns l roots).2.length ≤ roots.length := by
  unfold keepAns
  split
  · unfold keepM
    have := (inRun_le (reachM l roots) (-1) [] l).2
    simp at this ⊢; omega
  · simp
/-! ### Reach -/
def reachAns (l : List Nd) (roots : List Int) : List Bool := if rootsB l roots = true then reachM l roots else []
theorem reachAns_len (l : List Nd) (roots : List Int) (hl : l.length ≤ 1048576) : (reachAns l roots).length ≤ 1048576 := by
  unfold reachAns
  split
  · rw [reachM_len]; exact hl
  · simp
end Go.Proofs.Ytdnokdgkccnbnaa.Ax
