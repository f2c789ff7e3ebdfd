/- FnExactSizeOf answers true. -/
import Derived.Test.YthpbfeibbjnloaaK10
set_option linter.unusedVariables false
set_option linter.unusedSimpArgs false
namespace Go.Proofs.Ythpbfeibbjnloaa.Ax
open Go
theorem law4 {v : Value} {l : List Nd} {H : Hp} {n : Nat} (hv : Li eNode n H v l) (hs : ∀ x ∈ l, x.s.size ≤ 9223372036854775807) (hl : l.length ≤ 9223372036854775807) (w : Int) (_ : (Lit.int .i64 w).wf = true) : ∃ H' n', Call Try.prog 4 [.agg ⟨[v]⟩, .int .i64 w] H n = some (.bool true, H', n') := by
  rw [c4]; unfold S4
  apply Wp.val
  have s1 : Same n H (H.set n (some (.row [v] 0 true))) := by (repeat (first | exact Same.refl _ _ | refine Same.set ?_ (by omega) _))
  have v1 : Li eNode n (H.set n (some (.row [v] 0 true))) v l := hv.keep s1 (Nat.le_refl _)
  obtain ⟨r, hr, H2, n2, a1, a2, a3⟩ := k9 (v1.up (show n ≤ n + 7 by omega)) hs hl 1048576 (by decide)
  by_cases hneg : r < 0
  · ((repeat (first | (apply Wp.step; case h => ((try simp (disch := omega) only [↓reduceIte, ask_true, ↓X0, X1, Nat.reduceEqDiff, Int.reduceEq, Nat.reduceAdd, Nat.reduceSub, X2, Hp_ne, Nat.reduceLeDiff, a3, hneg]); with_reducible exact rfl)) | (apply Wp.andS) | (apply Wp.orS) | ((first | apply Wp.cselX | apply Wp.askT | apply Wp.iteKT); case h => ((try simp (disch := omega) only [↓reduceIte, ask_true, ↓X0, X1, Nat.reduceEqDiff, Int.reduceEq, Nat.reduceAdd, Nat.reduceSub, X2, Hp_ne, Nat.reduceLeDiff, a3, hneg]); (first | done | with_reducible exact rfl))))); try simp only [outOf_exit, outOf_ret])
    exact Wp.pure rfl
  · obtain ⟨hl1, hs1⟩ := hr.2.2 (by omega)
    have hl2 : l.length ≤ 1048576 := by omega
    have hs2 : ∀ x ∈ l, x.s.size ≤ 1048576 := fun x hx => by have := hs1 x hx; omega
    have v2 : Li eNode n H2 v l := v1.keep a2 (by omega)
    have x2 : H2 n = some (.row [v] 0 true) := by rw [a2 n (by omega)]; exact Hp_same _ _ _
    obtain ⟨_, H3, n3, b1, b2, b3, u3, rfl, b4⟩ := k11 (v2.up (show n ≤ n2 + 7 by omega)) (by omega)
    obtain ⟨H4, n4, c1, c2, c3⟩ := k14 b4.lst hs2 hl2 w
    have v4 : Li eNode n H4 v l := (v2.keep b2 (by omega)).keep c2 (by omega)
    have x4 : H4 n = some (.row [v] 0 true) := by rw [c2 n (by omega), b2 n (by omega)]; exact x2
    obtain ⟨_, H5, n5, d1, d2, d3, u5, rfl, d4⟩ := k11 (v4.up (show n ≤ n4 + 4 by omega)) (by omega)
    have d4' := d4
    obtain ⟨id5, d5, d6, d7⟩ := d4'
    have s6 : Same (n4 + 2) H5 (H5.set (n4 + 2) (some (.row [u5] 0 true))) := by (repeat (first | exact Same.refl _ _ | refine Same.set ?_ (by omega) _))
    have u6 : Li eNode n5 (H5.set (n4 + 2) (some (.row [u5] 0 true))) u5 l := (d7.keep (Hp_ne _ _ (by omega))).lst (by omega)
    have x5 : H5 n = some (.row [v] 0 true) := by rw [d2 n (by omega)]; exact x4
    obtain ⟨H7, n7, e1, e2, e3⟩ := k15 (u6.up (show n5 ≤ n5 + 4 by omega)) hs2 hl2 w
    have v7 : Li eNode n H7 v l := ((v4.keep d2 (by omega)).keep s6 (by omega)).keep e2 (by omega)
    have x7 : H7 n = some (.row [v] 0 true) := by rw [e2 n (by omega), Hp_ne _ _ (by omega)]; exact x5
    have y7 : H7 (n4 + 2) = some (.row [u5] 0 true) := by rw [e2 _ (by omega)]; exact Hp_same _ _ _
    obtain ⟨_, H8, n8, f1, f2, f3, u8, rfl, f4⟩ := k11 (v7.up (show n ≤ n7 + 8 by omega)) (by omega)
    have y8 : H8 (n4 + 2) = some (.row [u5] 0 true) := by rw [f2 _ (by omega)]; exact y7
    obtain ⟨H9, n9, g1, g2, g3⟩ := k13 (((u6.keep e2 (by omega)).keep f2 (by omega)).up (show n5 ≤ n8 by omega)) f4.lst (by omega)
    rw [decide_eq_true rfl] at g3
    have hset : setAt [nilS] 0 [u5] = [u5] := rfl
    ((repeat (first | (apply Wp.step; case h => ((try simp (disch := omega) only [↓reduceIte, ask_true, ↓X0, X1, Nat.reduceEqDiff, Int.reduceEq, Nat.reduceAdd, Nat.reduceSub, X2, Hp_ne, Nat.reduceLeDiff, a3, hneg, x2, b3, c3, x4, d3, e3, x7, y7, f3, y8, g3]); with_reducible exact rfl)) | (apply Wp.andS) | (apply Wp.orS) | ((first | apply Wp.cselX | apply Wp.askT | apply Wp.iteKT); case h => ((try simp (disch := omega) only [↓reduceIte, ask_true, ↓X0, X1, Nat.reduceEqDiff, Int.reduceEq, Nat.reduceAdd, Nat.reduceSub, X2, Hp_ne, Nat.reduceLeDiff, a3, hneg, x2, b3, c3, x4, d3, e3, x7, y7, f3, y8, g3]); (first | done | with_reducible exact rfl))))); try simp only [outOf_exit, outOf_ret])
    exact Wp.pure rfl
end Go.Proofs.Ythpbfeibbjnloaa.Ax
