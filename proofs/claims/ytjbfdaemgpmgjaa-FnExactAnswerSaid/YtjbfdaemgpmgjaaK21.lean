/- . -/
import Derived.Test.YtjbfdaemgpmgjaaK20
set_option linter.unusedVariables false
set_option linter.unusedSimpArgs false
set_option maxHeartbeats 4000000
namespace Go.Proofs.Ytjbfdaemgpmgjaa.Ax
open Go
def cpRun (p q : List Nd) (v : Int) : List Nd × List Int := inRun (reachM q [v]) (-1) p q
theorem one_root {v : Int} {q : List Nd} (h : 0 ≤ v ∧ v < (q.length : Int)) : ∀ r ∈ [v], 0 ≤ r ∧ r < (q.length : Int) := by
  intro r hr; simp at hr; rw [hr]; exact h
theorem k83 {c o id n : Nat} {H : Hp} {cs : List Value} {e : Nat} {v : Value} {p q : List Nd} {vq : Value} (h : PC c o id n H cs e v p) (hq : Li eNode n H vq q) (hqc : Off c vq) (hqi : Off id vq) (hp : PoolOk q) (x : Int) (hx : 0 ≤ x ∧ x < (q.length : Int)) (hpl : p.length ≤ 1000000) :
    RtA Try.prog 83 [ptr c o, .agg ⟨[vq]⟩, .int .i64 x] c id H n (fun r H' n' => r = .int .i64 (gi (cpRun p q x).2 x) ∧ ∃ v' id', (id' = id ∨ n ≤ id') ∧ PC c o id' n' H' (cs.set o v') e v' (cpRun p q x).1) := by
  apply RtA.of
  rw [c83]; unfold S83
  have hcn := h.cn
  have hid := h.idn
  have hR : At eInt (n + 5) ((H.set n (some (.row [vq] 0 true))).set (n + 5) (some (.row [.int .i64 x] 1 true))) (sl (n + 5) 0 1) [x] := .inr ⟨rfl, Hp_same _ _ _⟩
  (((repeat (first | (with_reducible apply Wp.step; case h => ((try simp (disch := omega) only [↓reduceIte, ask_true, ↓X0, X1, Nat.reduceEqDiff, Int.reduceEq, Nat.reduceAdd, Nat.reduceSub, X2, Hp_ne, Nat.reduceLeDiff, argsT_at, bsl_i]); with_reducible exact rfl)) | (apply Wp.andS) | (apply Wp.orS) | ((with_reducible first | apply Wp.gs | apply Wp.cs | apply Wp.cselX | apply Wp.askT | apply Wp.iteKT | apply Wp.ikb); case h => ((try simp (disch := omega) only [↓reduceIte, ask_true, ↓X0, X1, Nat.reduceEqDiff, Int.reduceEq, Nat.reduceAdd, Nat.reduceSub, X2, Hp_ne, Nat.reduceLeDiff, argsT_at, bsl_i]); (with_reducible first | done | exact bT | exact bF))) | (with_reducible apply Wp.gu) | (simp only [↓X3]) | (with_reducible apply Wp.assoc))); try simp only [outOf_exit, outOf_ret]); try (with_reducible apply Wp.cargs; case h => ((try simp (disch := omega) only [↓reduceIte, ask_true, ↓X0, X1, Nat.reduceEqDiff, Int.reduceEq, Nat.reduceAdd, Nat.reduceSub, X2, Hp_ne, Nat.reduceLeDiff, argsT_at, bsl_i]); with_reducible exact rfl)))
  refine Wp.rta (k114 (roots := [x]) (h.mv (by omega) (by intros; first | with_reducible rfl | simp (disch := omega) only [Hp_ne, Hp_same]) (by intros; first | with_reducible rfl | simp (disch := omega) only [Hp_ne, Hp_same])) (hq.mv (by omega) (by intros; first | with_reducible rfl | simp (disch := omega) only [Hp_ne, Hp_same])) hqc hqi hp (hR.lst (by omega)) (one_root hx) (by simp) hpl) ?_
  rintro _ H1 n1 q1 s1 ⟨ida, v', id', i1, i2, rfl, i3, i4, i5, i6⟩
  have hix := idx1 (id := ida) (k := .i64) (m := q.length) hx.1 hx.2
  have hfl := flat_i (l := (inRun (reachM q [x]) (-1) p q).2) hx.1 (by rw [inRun_len]; exact hx.2)
  (((repeat (first | (with_reducible apply Wp.step; case h => ((try simp (disch := omega) only [↓reduceIte, ask_true, ↓X0, X1, Nat.reduceEqDiff, Int.reduceEq, Nat.reduceAdd, Nat.reduceSub, X2, Hp_ne, Nat.reduceLeDiff, argsT_at, hix, i3, hfl]); with_reducible exact rfl)) | (apply Wp.andS) | (apply Wp.orS) | ((with_reducible first | apply Wp.gs | apply Wp.cs | apply Wp.cselX | apply Wp.askT | apply Wp.iteKT | apply Wp.ikb); case h => ((try simp (disch := omega) only [↓reduceIte, ask_true, ↓X0, X1, Nat.reduceEqDiff, Int.reduceEq, Nat.reduceAdd, Nat.reduceSub, X2, Hp_ne, Nat.reduceLeDiff, argsT_at, hix, i3, hfl]); (with_reducible first | done | exact bT | exact bF))) | (with_reducible apply Wp.gu) | (simp only [↓X3]) | (with_reducible apply Wp.assoc))); try simp only [outOf_exit, outOf_ret]); try (with_reducible apply Wp.cargs; case h => ((try simp (disch := omega) only [↓reduceIte, ask_true, ↓X0, X1, Nat.reduceEqDiff, Int.reduceEq, Nat.reduceAdd, Nat.reduceSub, X2, Hp_ne, Nat.reduceLeDiff, argsT_at, hix, i3, hfl]); with_reducible exact rfl)))
  exact Wp.pure ⟨by simp only; omega, (by intros; first | with_reducible rfl | simp (disch := omega) only [Hp_ne, Hp_same, s1]), rfl, v', id', by omega, i6⟩
theorem cp_gi {p q : List Nd} (hp : PoolOk q) {x : Int} (hx : 0 ≤ x ∧ x < (q.length : Int)) : (inRun (reachM q [x]) 0 p q).1 = (cpRun p q x).1 ∧ gi (inRun (reachM q [x]) 0 p q).2 x = gi (cpRun p q x).2 x := by
  have h := inRun_zz (p := p) hp [x] 0 (-1)
  exact ⟨h.1, h.2 x hx.1 hx.2 (reachM_in hp (one_root hx) (by simp))⟩
theorem k79 {c o id n : Nat} {H : Hp} {cs : List Value} {e : Nat} {v : Value} {p q : List Nd} {vq : Value} (h : PC c o id n H cs e v p) (hq : Li eNode n H vq q) (hqc : Off c vq) (hqi : Off id vq) (hp : PoolOk q) (x : Int) (hx : 0 ≤ x ∧ x < (q.length : Int)) (hpl : p.length ≤ 1000000) :
    RtA Try.prog 79 [ptr c o, .agg ⟨[vq]⟩, .int .i64 x] c id H n (fun r H' n' => r = .int .i64 (gi (cpRun p q x).2 x) ∧ ∃ v' id', (id' = id ∨ n ≤ id') ∧ PC c o id' n' H' (cs.set o v') e v' (cpRun p q x).1) := by
  apply RtA.of
  rw [c79]; unfold S79
  have hcn := h.cn
  have hid := h.idn
  have hR : At eInt (n + 6) ((H.set n (some (.row [vq] 0 true))).set (n + 6) (some (.row [.int .i64 x] 1 true))) (sl (n + 6) 0 1) [x] := .inr ⟨rfl, Hp_same _ _ _⟩
  (((repeat (first | (with_reducible apply Wp.step; case h => ((try simp (disch := omega) only [↓reduceIte, ask_true, ↓X0, X1, Nat.reduceEqDiff, Int.reduceEq, Nat.reduceAdd, Nat.reduceSub, X2, Hp_ne, Nat.reduceLeDiff, argsT_at, bsl_i]); with_reducible exact rfl)) | (apply Wp.andS) | (apply Wp.orS) | ((with_reducible first | apply Wp.gs | apply Wp.cs | apply Wp.cselX | apply Wp.askT | apply Wp.iteKT | apply Wp.ikb); case h => ((try simp (disch := omega) only [↓reduceIte, ask_true, ↓X0, X1, Nat.reduceEqDiff, Int.reduceEq, Nat.reduceAdd, Nat.reduceSub, X2, Hp_ne, Nat.reduceLeDiff, argsT_at, bsl_i]); (with_reducible first | done | exact bT | exact bF))) | (with_reducible apply Wp.gu) | (simp only [↓X3]) | (with_reducible apply Wp.assoc))); try simp only [outOf_exit, outOf_ret]); try (with_reducible apply Wp.cargs; case h => ((try simp (disch := omega) only [↓reduceIte, ask_true, ↓X0, X1, Nat.reduceEqDiff, Int.reduceEq, Nat.reduceAdd, Nat.reduceSub, X2, Hp_ne, Nat.reduceLeDiff, argsT_at, bsl_i]); with_reducible exact rfl)))
  refine Wp.rtn (k113 (roots := [x]) (hq.mv (by omega) (by intros; first | with_reducible rfl | simp (disch := omega) only [Hp_ne, Hp_same])) hp (hR.lst (by omega)) (one_root hx) (by simp)) ?_
  rintro _ H1 n1 q1 s1 ⟨idt, i1, i2, rfl, i3⟩
  (((repeat (first | (with_reducible apply Wp.step; case h => ((try simp (disch := omega) only [↓reduceIte, ask_true, ↓X0, X1, Nat.reduceEqDiff, Int.reduceEq, Nat.reduceAdd, Nat.reduceSub, X2, Hp_ne, Nat.reduceLeDiff, argsT_at, s1]); with_reducible exact rfl)) | (apply Wp.andS) | (apply Wp.orS) | ((with_reducible first | apply Wp.gs | apply Wp.cs | apply Wp.cselX | apply Wp.askT | apply Wp.iteKT | apply Wp.ikb); case h => ((try simp (disch := omega) only [↓reduceIte, ask_true, ↓X0, X1, Nat.reduceEqDiff, Int.reduceEq, Nat.reduceAdd, Nat.reduceSub, X2, Hp_ne, Nat.reduceLeDiff, argsT_at, s1]); (with_reducible first | done | exact bT | exact bF))) | (with_reducible apply Wp.gu) | (simp only [↓X3]) | (with_reducible apply Wp.assoc))); try simp only [outOf_exit, outOf_ret]); try (with_reducible apply Wp.cargs; case h => ((try simp (disch := omega) only [↓reduceIte, ask_true, ↓X0, X1, Nat.reduceEqDiff, Int.reduceEq, Nat.reduceAdd, Nat.reduceSub, X2, Hp_ne, Nat.reduceLeDiff, argsT_at, s1]); with_reducible exact rfl)))
  refine Wp.rta (k112 (told := reachM q [x]) (h.mv (by omega) (by intros; first | with_reducible rfl | simp (disch := omega) only [Hp_ne, Hp_same, s1]) (by intros; first | with_reducible rfl | simp (disch := omega) only [Hp_ne, Hp_same, s1])) (hq.mv (by omega) (by intros; first | with_reducible rfl | simp (disch := omega) only [Hp_ne, Hp_same, s1])) hqc hqi hp i3 (reachM_len _ _) i2 (by omega) (by omega) hpl) ?_
  rintro _ H2 n2 q2 s2 ⟨ida, v', id', j1, j2, rfl, j3, j4, j5, j6⟩
  have hix := idx1 (id := ida) (k := .i64) (m := q.length) hx.1 hx.2
  have hfl := flat_i (l := (inRun (reachM q [x]) 0 p q).2) hx.1 (by rw [inRun_len]; exact hx.2)
  have hz := cp_gi (p := p) hp hx
  rw [hz.2] at hfl
  rw [hz.1] at j6
  (((repeat (first | (with_reducible apply Wp.step; case h => ((try simp (disch := omega) only [↓reduceIte, ask_true, ↓X0, X1, Nat.reduceEqDiff, Int.reduceEq, Nat.reduceAdd, Nat.reduceSub, X2, Hp_ne, Nat.reduceLeDiff, argsT_at, hix, j3, hfl]); with_reducible exact rfl)) | (apply Wp.andS) | (apply Wp.orS) | ((with_reducible first | apply Wp.gs | apply Wp.cs | apply Wp.cselX | apply Wp.askT | apply Wp.iteKT | apply Wp.ikb); case h => ((try simp (disch := omega) only [↓reduceIte, ask_true, ↓X0, X1, Nat.reduceEqDiff, Int.reduceEq, Nat.reduceAdd, Nat.reduceSub, X2, Hp_ne, Nat.reduceLeDiff, argsT_at, hix, j3, hfl]); (with_reducible first | done | exact bT | exact bF))) | (with_reducible apply Wp.gu) | (simp only [↓X3]) | (with_reducible apply Wp.assoc))); try simp only [outOf_exit, outOf_ret]); try (with_reducible apply Wp.cargs; case h => ((try simp (disch := omega) only [↓reduceIte, ask_true, ↓X0, X1, Nat.reduceEqDiff, Int.reduceEq, Nat.reduceAdd, Nat.reduceSub, X2, Hp_ne, Nat.reduceLeDiff, argsT_at, hix, j3, hfl]); with_reducible exact rfl)))
  exact Wp.pure ⟨by simp only; omega, (by intros; first | with_reducible rfl | simp (disch := omega) only [Hp_ne, Hp_same, s2, s1]), rfl, v', id', by omega, j6⟩
def copyAns (p q : List Nd) (v : Int) : List Nd × Int := if PoolOk p then (if PoolOk q ∧ 0 ≤ v ∧ v < (q.length : Int) then (if (cpRun p q v).1.length ≤ 3000 then ((cpRun p q v).1, gi (cpRun p q v).2 v) else (p, -1)) else (p, -1)) else ([], -1)
theorem copyAns_no {p q : List Nd} {v : Int} (h : ¬ PoolOk p) : copyAns p q v = ([], -1) := by unfold copyAns; rw [if_neg h]
theorem copyAns_bad {p q : List Nd} {v : Int} (h : PoolOk p) (h2 : ¬ (PoolOk q ∧ 0 ≤ v ∧ v < (q.length : Int))) : copyAns p q v = (p, -1) := by unfold copyAns; rw [if_pos h, if_neg h2]
theorem copyAns_full {p q : List Nd} {v : Int} (h : PoolOk p) (h2 : PoolOk q ∧ 0 ≤ v ∧ v < (q.length : Int)) (h3 : ¬ (cpRun p q v).1.length ≤ 3000) : copyAns p q v = (p, -1) := by unfold copyAns; rw [if_pos h, if_pos h2, if_neg h3]
theorem copyAns_ok {p q : List Nd} {v : Int} (h : PoolOk p) (h2 : PoolOk q ∧ 0 ≤ v ∧ v < (q.length : Int)) (h3 : (cpRun p q v).1.length ≤ 3000) : copyAns p q v = ((cpRun p q v).1, gi (cpRun p q v).2 v) := by unfold copyAns; rw [if_pos h, if_pos h2, if_pos h3]
theorem copyAns_len (p q : List Nd) (v : Int) : (copyAns p q v).1.length ≤ 3000 := by
  unfold copyAns
  split
  · rename_i h
    split
    · split
      · rename_i h3; exact h3
      · exact h.2
    · exact h.2
  · simp
def keepM (l : List Nd) (roots : List Int) : List Nd × List Int := ((inRun (reachM l roots) (-1) [] l).1, roots.map (gi (inRun (reachM l roots) (-1) [] l).2))
def New2 (lo n : Nat) (H : Hp) (u w : Value) (l : List Nd) (m : List Int) : Prop := ∃ i j, lo ≤ i ∧ i < n ∧ lo ≤ j ∧ j < n ∧ i ≠ j ∧ At eNode i H u l ∧ At eInt j H w m
theorem map_take_next {f : Int → Int} {roots : List Int} {j : Nat} (h : j < roots.length) : (roots.take (j + 1)).map f = (roots.take j).map f ++ [f roots[j]] := by
  rw [take_next h, List.map_append]; rfl
def keepAns (l : List Nd) (roots : List Int) : List Nd × List Int := if rootsB l roots = true then keepM l roots else ([], [])
theorem keepAns_len (l : List Nd) (roots : List Int) (hl : l.length ≤ 1048576) : (keepAns l roots).1.length ≤ 1048576 ∧ (keepAns l roots).2.length ≤ roots.length := by
  unfold keepAns
  split
  · unfold keepM
    have := (inRun_le (reachM l roots) (-1) [] l).2
    simp at this ⊢; omega
  · simp
def reachAns (l : List Nd) (roots : List Int) : List Bool := if rootsB l roots = true then reachM l roots else []
theorem reachAns_len (l : List Nd) (roots : List Int) (hl : l.length ≤ 1048576) : (reachAns l roots).length ≤ 1048576 := by
  unfold reachAns
  split
  · rw [reachM_len]; exact hl
  · simp
end Go.Proofs.Ytjbfdaemgpmgjaa.Ax
