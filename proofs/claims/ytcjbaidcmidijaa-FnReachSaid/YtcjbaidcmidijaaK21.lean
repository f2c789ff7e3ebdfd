/- Contracts: values copied and kept. -/
import Derived.Test.YtcjbaidcmidijaaK20
set_option linter.unusedVariables false
set_option linter.unusedSimpArgs false
set_option maxHeartbeats 4000000
namespace Go.Proofs.Ytcjbaidcmidijaa.Ax
open Go
def cpRun (p q : List Nd) (v : Int) : List Nd × List Int := inRun (reachM q [v]) (-1) p q
theorem one_root {v : Int} {q : List Nd} (h : 0 ≤ v ∧ v < (q.length : Int)) : ∀ r ∈ [v], 0 ≤ r ∧ r < (q.length : Int) := by
  intro r hr; simp at hr; rw [hr]; exact h
theorem cp_gi {p q : List Nd} (hp : PoolOk q) {x : Int} (hx : 0 ≤ x ∧ x < (q.length : Int)) : (inRun (reachM q [x]) 0 p q).1 = (cpRun p q x).1 ∧ gi (inRun (reachM q [x]) 0 p q).2 x = gi (cpRun p q x).2 x := by
  have h := inRun_zz (p := p) hp [x] 0 (-1)
  exact ⟨h.1, h.2 x hx.1 hx.2 (reachM_in hp (one_root hx) (by simp))⟩
/-! ### Copy -/
def copyAns (p q : List Nd) (v : Int) : List Nd × Int := if PoolOk p then (if PoolOk q ∧ 0 ≤ v ∧ v < (q.length : Int) then (if (cpRun p q v).1.length ≤ 3000 then ((cpRun p q v).1, gi (cpRun p q v).2 v) else (p, -1)) else (p, -1)) else ([], -1)
theorem copyAns_no {p q : List Nd} {v : Int} (h : ¬ PoolOk p) : copyAns p q v = ([], -1) := by unfold copyAns; rw [if_neg h]
theorem copyAns_bad {p q : List Nd} {v : Int} (h : PoolOk p) (h2 : ¬ (PoolOk q ∧ 0 ≤ v ∧ v < (q.length : Int))) : copyAns p q v = (p, -1) := by unfold copyAns; rw [if_pos h, if_neg h2]
theorem copyAns_full {p q : List Nd} {v : Int} (h : PoolOk p) (h2 : PoolOk q ∧ 0 ≤ v ∧ v < (q.length : Int)) (h3 : ¬ (cpRun p q v).1.length ≤ 3000) : copyAns p q v = (p, -1) := by unfold copyAns; rw [if_pos h, if_pos h2, if_neg h3]
theorem copyAns_ok {p q : List Nd} {v : Int} (h : PoolOk p) (h2 : PoolOk q ∧ 0 ≤ v ∧ v < (q.length : Int)) (h3 : (cpRun p q v).1.length ≤ 3000) : copyAns p q v = ((cpRun p q v).1, gi (cpRun p q v).2 v) := by unfold copyAns; rw [if_pos h, if_pos h2, if_pos h3]
theorem copyAns_len (p q : List Nd) (v : Int) : (copyAns p q v).1.length ≤ 3000 := by
  unfold copyAns
  split
  · rename_i h
    split
    · split
      · rename_i h3; exact h3
      · exact h.2
    · exact h.2
  · simp
/-! ### Keep -/
def keepM (l : List Nd) (roots : List Int) : List Nd × List Int := ((inRun (reachM l roots) (-1) [] l).1, roots.map (gi (inRun (reachM l roots) (-1) [] l).2))
/-- A pool and numbers, in new and different objects. -/
def New2 (lo n : Nat) (H : Hp) (u w : Value) (l : List Nd) (m : List Int) : Prop := ∃ i j, lo ≤ i ∧ i < n ∧ lo ≤ j ∧ j < n ∧ i ≠ j ∧ At eNode i H u l ∧ At eInt j H w m
theorem map_take_next {f : Int → Int} {roots : List Int} {j : Nat} (h : j < roots.length) : (roots.take (j + 1)).map f = (roots.take j).map f ++ [f roots[j]] := by
  rw [take_next h, List.map_append]; rfl
def keepAns (l : List Nd) (roots : List Int) : List Nd × List Int := if rootsB l roots = true then keepM l roots else ([], [])
theorem keepAns_len (l : List Nd) (roots : List Int) (hl : l.length ≤ 1048576) : (keepAns l roots).1.length ≤ 1048576 ∧ (keepAns l roots).2.length ≤ roots.length := by
  unfold keepAns
  split
  · unfold keepM
    have := (inRun_le (reachM l roots) (-1) [] l).2
    simp at this ⊢; omega
  · simp
/-! ### Reach -/
def reachAns (l : List Nd) (roots : List Int) : List Bool := if rootsB l roots = true then reachM l roots else []
theorem reachAns_len (l : List Nd) (roots : List Int) (hl : l.length ≤ 1048576) : (reachAns l roots).length ≤ 1048576 := by
  unfold reachAns
  split
  · rw [reachM_len]; exact hl
  · simp
theorem k25 {n : Nat} {H : Hp} {v w : Value} {l : List Nd} {roots : List Int} (hv : Li eNode n H v l) (hs : ∀ x ∈ l, x.s.size ≤ 1048576) (hl : l.length ≤ 1048576) (hw : Li eInt n H w roots) (hrl : roots.length ≤ 1048576) : RtN Try.prog 25 [.agg ⟨[v]⟩, w] H n (fun r H' n' => New eBool n n' H' r (reachAns l roots)) := by
  apply RtN.mk
  rw [c25]; unfold S25 reachAns
  (((repeat (first | (with_reducible apply Wp.step; case h => ((try simp (disch := omega) only [↓reduceIte, ask_true, ↓X0, X1, Nat.reduceEqDiff, Int.reduceEq, Nat.reduceAdd, Nat.reduceSub, X2, Hp_ne, Nat.reduceLeDiff, argsT_at]); with_reducible exact rfl)) | (apply Wp.andS) | (apply Wp.orS) | ((first | with_reducible apply Wp.gs | with_reducible apply Wp.cs | with_reducible apply Wp.cselX | with_reducible apply Wp.askT | with_reducible apply Wp.iteKT | with_reducible apply Wp.ikb | with_reducible apply Wp.askb); case h => ((try simp (disch := omega) only [↓reduceIte, ask_true, ↓X0, X1, Nat.reduceEqDiff, Int.reduceEq, Nat.reduceAdd, Nat.reduceSub, X2, Hp_ne, Nat.reduceLeDiff, argsT_at]); (first | done | with_reducible exact bT | with_reducible exact bF))) | (with_reducible apply Wp.gu) | (simp only [↓X3]) | (with_reducible apply Wp.assoc))); try simp only [outOf_exit, outOf_ret]); try (with_reducible apply Wp.cargs; case h => ((try simp (disch := omega) only [↓reduceIte, ask_true, ↓X0, X1, Nat.reduceEqDiff, Int.reduceEq, Nat.reduceAdd, Nat.reduceSub, X2, Hp_ne, Nat.reduceLeDiff, argsT_at]); with_reducible exact rfl)))
  refine Wp.rt (k56 (hv.mv (by omega) (by intros; simp (disch := omega) only [Hp_ne, Hp_same])) hs hl (hw.mv (by omega) (by intros; simp (disch := omega) only [Hp_ne, Hp_same])) hrl) ?_
  intro H1 n1 q1 s1
  by_cases hb : rootsB l roots = true
  · obtain ⟨hp, hr⟩ := (rootsB_iff l roots).1 hb
    (((repeat (first | (with_reducible apply Wp.step; case h => ((try simp (disch := omega) only [↓reduceIte, ask_true, ↓X0, X1, Nat.reduceEqDiff, Int.reduceEq, Nat.reduceAdd, Nat.reduceSub, X2, Hp_ne, Nat.reduceLeDiff, argsT_at, hb, s1]); with_reducible exact rfl)) | (apply Wp.andS) | (apply Wp.orS) | ((first | with_reducible apply Wp.gs | with_reducible apply Wp.cs | with_reducible apply Wp.cselX | with_reducible apply Wp.askT | with_reducible apply Wp.iteKT | with_reducible apply Wp.ikb | with_reducible apply Wp.askb); case h => ((try simp (disch := omega) only [↓reduceIte, ask_true, ↓X0, X1, Nat.reduceEqDiff, Int.reduceEq, Nat.reduceAdd, Nat.reduceSub, X2, Hp_ne, Nat.reduceLeDiff, argsT_at, hb, s1]); (first | done | with_reducible exact bT | with_reducible exact bF))) | (with_reducible apply Wp.gu) | (simp only [↓X3]) | (with_reducible apply Wp.assoc))); try simp only [outOf_exit, outOf_ret]); try (with_reducible apply Wp.cargs; case h => ((try simp (disch := omega) only [↓reduceIte, ask_true, ↓X0, X1, Nat.reduceEqDiff, Int.reduceEq, Nat.reduceAdd, Nat.reduceSub, X2, Hp_ne, Nat.reduceLeDiff, argsT_at, hb, s1]); with_reducible exact rfl)))
    refine Wp.rtn (k57 (hv.mv (by omega) (by intros; simp (disch := omega) only [Hp_ne, Hp_same, s1])) hp (hw.mv (by omega) (by intros; simp (disch := omega) only [Hp_ne, Hp_same, s1])) hr hrl) ?_
    rintro _ H2 n2 q2 s2 ⟨id, i1, i2, rfl, i3⟩
    (((repeat (first | (with_reducible apply Wp.step; case h => ((try simp (disch := omega) only [↓reduceIte, ask_true, ↓X0, X1, Nat.reduceEqDiff, Int.reduceEq, Nat.reduceAdd, Nat.reduceSub, X2, Hp_ne, Nat.reduceLeDiff]); with_reducible exact rfl)) | (apply Wp.andS) | (apply Wp.orS) | ((first | with_reducible apply Wp.gs | with_reducible apply Wp.cs | with_reducible apply Wp.cselX | with_reducible apply Wp.askT | with_reducible apply Wp.iteKT | with_reducible apply Wp.ikb | with_reducible apply Wp.askb); case h => ((try simp (disch := omega) only [↓reduceIte, ask_true, ↓X0, X1, Nat.reduceEqDiff, Int.reduceEq, Nat.reduceAdd, Nat.reduceSub, X2, Hp_ne, Nat.reduceLeDiff]); (first | done | with_reducible exact bT | with_reducible exact bF))) | (with_reducible apply Wp.gu) | (simp only [↓X3]) | (with_reducible apply Wp.assoc))); try simp only [outOf_exit, outOf_ret]); try (with_reducible apply Wp.cargs; case h => ((try simp (disch := omega) only [↓reduceIte, ask_true, ↓X0, X1, Nat.reduceEqDiff, Int.reduceEq, Nat.reduceAdd, Nat.reduceSub, X2, Hp_ne, Nat.reduceLeDiff]); with_reducible exact rfl)))
    exact Wp.pure ⟨by simp only; omega, (by intros; simp (disch := omega) only [Hp_ne, Hp_same, s2, s1]), id, by omega, by simp only; omega, by simp only [hb, if_true]; exact .inr ⟨by rw [reachM_len], i3⟩⟩
  · have hb' : rootsB l roots = false := by simpa using hb
    (((repeat (first | (with_reducible apply Wp.step; case h => ((try simp (disch := omega) only [↓reduceIte, ask_true, ↓X0, X1, Nat.reduceEqDiff, Int.reduceEq, Nat.reduceAdd, Nat.reduceSub, X2, Hp_ne, Nat.reduceLeDiff, hb', s1]); with_reducible exact rfl)) | (apply Wp.andS) | (apply Wp.orS) | ((first | with_reducible apply Wp.gs | with_reducible apply Wp.cs | with_reducible apply Wp.cselX | with_reducible apply Wp.askT | with_reducible apply Wp.iteKT | with_reducible apply Wp.ikb | with_reducible apply Wp.askb); case h => ((try simp (disch := omega) only [↓reduceIte, ask_true, ↓X0, X1, Nat.reduceEqDiff, Int.reduceEq, Nat.reduceAdd, Nat.reduceSub, X2, Hp_ne, Nat.reduceLeDiff, hb', s1]); (first | done | with_reducible exact bT | with_reducible exact bF))) | (with_reducible apply Wp.gu) | (simp only [↓X3]) | (with_reducible apply Wp.assoc))); try simp only [outOf_exit, outOf_ret]); try (with_reducible apply Wp.cargs; case h => ((try simp (disch := omega) only [↓reduceIte, ask_true, ↓X0, X1, Nat.reduceEqDiff, Int.reduceEq, Nat.reduceAdd, Nat.reduceSub, X2, Hp_ne, Nat.reduceLeDiff, hb', s1]); with_reducible exact rfl)))
    exact Wp.pure ⟨by simp only; omega, (by intros; simp (disch := omega) only [Hp_ne, Hp_same, s1]), n, by omega, by simp only; omega, by simp only [hb', if_false]; exact At.nil⟩
theorem k26 {n : Nat} {H : Hp} {v w : Value} {l : List Nd} {roots : List Int} (hv : Li eNode n H v l) (hs : ∀ x ∈ l, x.s.size ≤ 1048576) (hl : l.length ≤ 1048576) (hw : Li eInt n H w roots) (hrl : roots.length ≤ 1048576) : RtN Try.prog 26 [.agg ⟨[v]⟩, w] H n (fun r H' n' => New eBool n n' H' r (reachAns l roots)) := by
  apply RtN.mk
  rw [c26]; unfold S26 reachAns
  (((repeat (first | (with_reducible apply Wp.step; case h => ((try simp (disch := omega) only [↓reduceIte, ask_true, ↓X0, X1, Nat.reduceEqDiff, Int.reduceEq, Nat.reduceAdd, Nat.reduceSub, X2, Hp_ne, Nat.reduceLeDiff, argsT_at]); with_reducible exact rfl)) | (apply Wp.andS) | (apply Wp.orS) | ((first | with_reducible apply Wp.gs | with_reducible apply Wp.cs | with_reducible apply Wp.cselX | with_reducible apply Wp.askT | with_reducible apply Wp.iteKT | with_reducible apply Wp.ikb | with_reducible apply Wp.askb); case h => ((try simp (disch := omega) only [↓reduceIte, ask_true, ↓X0, X1, Nat.reduceEqDiff, Int.reduceEq, Nat.reduceAdd, Nat.reduceSub, X2, Hp_ne, Nat.reduceLeDiff, argsT_at]); (first | done | with_reducible exact bT | with_reducible exact bF))) | (with_reducible apply Wp.gu) | (simp only [↓X3]) | (with_reducible apply Wp.assoc))); try simp only [outOf_exit, outOf_ret]); try (with_reducible apply Wp.cargs; case h => ((try simp (disch := omega) only [↓reduceIte, ask_true, ↓X0, X1, Nat.reduceEqDiff, Int.reduceEq, Nat.reduceAdd, Nat.reduceSub, X2, Hp_ne, Nat.reduceLeDiff, argsT_at]); with_reducible exact rfl)))
  refine Wp.rt (k58 (hv.mv (by omega) (by intros; simp (disch := omega) only [Hp_ne, Hp_same])) hs hl (hw.mv (by omega) (by intros; simp (disch := omega) only [Hp_ne, Hp_same])) hrl) ?_
  intro H1 n1 q1 s1
  by_cases hb : rootsB l roots = true
  · obtain ⟨hp, hr⟩ := (rootsB_iff l roots).1 hb
    (((repeat (first | (with_reducible apply Wp.step; case h => ((try simp (disch := omega) only [↓reduceIte, ask_true, ↓X0, X1, Nat.reduceEqDiff, Int.reduceEq, Nat.reduceAdd, Nat.reduceSub, X2, Hp_ne, Nat.reduceLeDiff, argsT_at, hb, s1]); with_reducible exact rfl)) | (apply Wp.andS) | (apply Wp.orS) | ((first | with_reducible apply Wp.gs | with_reducible apply Wp.cs | with_reducible apply Wp.cselX | with_reducible apply Wp.askT | with_reducible apply Wp.iteKT | with_reducible apply Wp.ikb | with_reducible apply Wp.askb); case h => ((try simp (disch := omega) only [↓reduceIte, ask_true, ↓X0, X1, Nat.reduceEqDiff, Int.reduceEq, Nat.reduceAdd, Nat.reduceSub, X2, Hp_ne, Nat.reduceLeDiff, argsT_at, hb, s1]); (first | done | with_reducible exact bT | with_reducible exact bF))) | (with_reducible apply Wp.gu) | (simp only [↓X3]) | (with_reducible apply Wp.assoc))); try simp only [outOf_exit, outOf_ret]); try (with_reducible apply Wp.cargs; case h => ((try simp (disch := omega) only [↓reduceIte, ask_true, ↓X0, X1, Nat.reduceEqDiff, Int.reduceEq, Nat.reduceAdd, Nat.reduceSub, X2, Hp_ne, Nat.reduceLeDiff, argsT_at, hb, s1]); with_reducible exact rfl)))
    refine Wp.rtn (k59 (hv.mv (by omega) (by intros; simp (disch := omega) only [Hp_ne, Hp_same, s1])) hp (hw.mv (by omega) (by intros; simp (disch := omega) only [Hp_ne, Hp_same, s1])) hr hrl) ?_
    rintro _ H2 n2 q2 s2 ⟨id, i1, i2, rfl, i3⟩
    (((repeat (first | (with_reducible apply Wp.step; case h => ((try simp (disch := omega) only [↓reduceIte, ask_true, ↓X0, X1, Nat.reduceEqDiff, Int.reduceEq, Nat.reduceAdd, Nat.reduceSub, X2, Hp_ne, Nat.reduceLeDiff]); with_reducible exact rfl)) | (apply Wp.andS) | (apply Wp.orS) | ((first | with_reducible apply Wp.gs | with_reducible apply Wp.cs | with_reducible apply Wp.cselX | with_reducible apply Wp.askT | with_reducible apply Wp.iteKT | with_reducible apply Wp.ikb | with_reducible apply Wp.askb); case h => ((try simp (disch := omega) only [↓reduceIte, ask_true, ↓X0, X1, Nat.reduceEqDiff, Int.reduceEq, Nat.reduceAdd, Nat.reduceSub, X2, Hp_ne, Nat.reduceLeDiff]); (first | done | with_reducible exact bT | with_reducible exact bF))) | (with_reducible apply Wp.gu) | (simp only [↓X3]) | (with_reducible apply Wp.assoc))); try simp only [outOf_exit, outOf_ret]); try (with_reducible apply Wp.cargs; case h => ((try simp (disch := omega) only [↓reduceIte, ask_true, ↓X0, X1, Nat.reduceEqDiff, Int.reduceEq, Nat.reduceAdd, Nat.reduceSub, X2, Hp_ne, Nat.reduceLeDiff]); with_reducible exact rfl)))
    exact Wp.pure ⟨by simp only; omega, (by intros; simp (disch := omega) only [Hp_ne, Hp_same, s2, s1]), id, by omega, by simp only; omega, by simp only [hb, if_true]; exact .inr ⟨by rw [reachM_len], i3⟩⟩
  · have hb' : rootsB l roots = false := by simpa using hb
    (((repeat (first | (with_reducible apply Wp.step; case h => ((try simp (disch := omega) only [↓reduceIte, ask_true, ↓X0, X1, Nat.reduceEqDiff, Int.reduceEq, Nat.reduceAdd, Nat.reduceSub, X2, Hp_ne, Nat.reduceLeDiff, hb', s1, show ∀ (id : Nat) (H : Hp), bsl id 1 0 [.bool false] [] H = some (sl id 0 0, H.set id (some (.row [] 1 true))) from fun id H => bsl_zn _ _ _ _ rfl]); with_reducible exact rfl)) | (apply Wp.andS) | (apply Wp.orS) | ((first | with_reducible apply Wp.gs | with_reducible apply Wp.cs | with_reducible apply Wp.cselX | with_reducible apply Wp.askT | with_reducible apply Wp.iteKT | with_reducible apply Wp.ikb | with_reducible apply Wp.askb); case h => ((try simp (disch := omega) only [↓reduceIte, ask_true, ↓X0, X1, Nat.reduceEqDiff, Int.reduceEq, Nat.reduceAdd, Nat.reduceSub, X2, Hp_ne, Nat.reduceLeDiff, hb', s1, show ∀ (id : Nat) (H : Hp), bsl id 1 0 [.bool false] [] H = some (sl id 0 0, H.set id (some (.row [] 1 true))) from fun id H => bsl_zn _ _ _ _ rfl]); (first | done | with_reducible exact bT | with_reducible exact bF))) | (with_reducible apply Wp.gu) | (simp only [↓X3]) | (with_reducible apply Wp.assoc))); try simp only [outOf_exit, outOf_ret]); try (with_reducible apply Wp.cargs; case h => ((try simp (disch := omega) only [↓reduceIte, ask_true, ↓X0, X1, Nat.reduceEqDiff, Int.reduceEq, Nat.reduceAdd, Nat.reduceSub, X2, Hp_ne, Nat.reduceLeDiff, hb', s1, show ∀ (id : Nat) (H : Hp), bsl id 1 0 [.bool false] [] H = some (sl id 0 0, H.set id (some (.row [] 1 true))) from fun id H => bsl_zn _ _ _ _ rfl]); with_reducible exact rfl)))
    exact Wp.pure ⟨by simp only; omega, (by intros; simp (disch := omega) only [Hp_ne, Hp_same, s1]), n1, by omega, by simp only; omega, by rw [if_neg (by rw [hb']; decide)]; exact .inr ⟨rfl, Hp_same _ _ _⟩⟩
end Go.Proofs.Ytcjbaidcmidijaa.Ax
