/- Contracts: what is reached. -/
import Derived.Test.YtdnokdgkccnbnaaK17
set_option linter.unusedVariables false
set_option linter.unusedSimpArgs false
set_option maxHeartbeats 4000000
namespace Go.Proofs.Ytdnokdgkccnbnaa.Ax
open Go
instance : Inhabited Bool := ⟨false⟩
def rMark (out : List Bool) (x : Nd) : List Bool := if x.k = 5 then (out.set x.a.toNat true).set x.b.toNat true else if x.k = 6 ∨ x.k = 7 then out.set x.a.toNat true else out
def rStep (l : List Nd) (out : List Bool) (i : Nat) : List Bool := if gi out (i : Int) = true then rMark out (gi l (i : Int)) else out
def rDown (l : List Nd) : Nat → List Bool → List Bool
  | 0, out => out
  | i + 1, out => rDown l i (rStep l out i)
def rRoots (m : Nat) (roots : List Int) : List Bool := roots.foldl (fun o r => o.set r.toNat true) (List.replicate m false)
/-- Which nodes are reached. -/
def reachM (l : List Nd) (roots : List Int) : List Bool := rDown l l.length (rRoots l.length roots)
theorem rMark_len (out : List Bool) (x : Nd) : (rMark out x).length = out.length := by
  unfold rMark
  split
  · simp
  · split <;> simp
theorem rStep_len (l : List Nd) (out : List Bool) (i : Nat) : (rStep l out i).length = out.length := by unfold rStep; split <;> simp [rMark_len]
theorem rDown_len (l : List Nd) : ∀ (i : Nat) (out : List Bool), (rDown l i out).length = out.length
  | 0, out => rfl
  | i + 1, out => by rw [rDown, rDown_len l i, rStep_len]
theorem rRoots_aux (roots : List Int) : ∀ o : List Bool, (roots.foldl (fun o r => o.set r.toNat true) o).length = o.length := by
  induction roots with
  | nil => intro o; rfl
  | cons r rs ih => intro o; rw [List.foldl_cons, ih]; simp
theorem rRoots_len (m : Nat) (roots : List Int) : (rRoots m roots).length = m := by unfold rRoots; rw [rRoots_aux]; simp
theorem reachM_len (l : List Nd) (roots : List Int) : (reachM l roots).length = l.length := by unfold reachM; rw [rDown_len, rRoots_len]
theorem rRoots_take {m : Nat} {roots : List Int} {j : Nat} (h : j < roots.length) : rRoots m (roots.take (j + 1)) = (rRoots m (roots.take j)).set roots[j].toNat true := by
  unfold rRoots; rw [take_next h, List.foldl_append]; rfl
theorem flat_o {l : List Bool} {i : Int} (h0 : 0 ≤ i) (h1 : i < l.length) : (l.flatMap eBool.cells)[i.toNat]? = some (.bool (gi l i)) := by
  have := flat_cell eBool (l := l) (j := i.toNat) (f := 0) (by omega) (by decide)
  rw [Nat.mul_one, Nat.add_zero] at this
  rw [this, gi_at h0 h1]; rfl
theorem idx1 {id m : Nat} {k : IntKind} {i : Int} (h0 : 0 ≤ i) (h : i < m) : idxA 1 (sl id 0 m) (.int k i) = some (ptr id i.toNat) := by
  have := idx_sli (sz := 1) (id := id) (k := k) h0 h
  rw [Nat.mul_one] at this; exact this
theorem st_o {id : Nat} {H : Hp} {l : List Bool} (h : H id = some (.row (l.flatMap eBool.cells) 1 true)) {i : Int} (h0 : 0 ≤ i) (h1 : i < l.length) (b : Bool) : st false 1 (ptr id i.toNat) (.bool b) H = some (H.set id (some (.row ((l.set i.toNat b).flatMap eBool.cells) 1 true))) :=
  st_el1 (E := eBool) h (j := i.toNat) (by omega) rfl rfl rfl
theorem st_ii {id : Nat} {H : Hp} {l : List Int} (h : H id = some (.row (l.flatMap eInt.cells) 1 true)) {i : Int} (h0 : 0 ≤ i) (h1 : i < l.length) (b : Int) : st false 1 (ptr id i.toNat) (.int .i64 b) H = some (H.set id (some (.row ((l.set i.toNat b).flatMap eInt.cells) 1 true))) :=
  st_el1 (E := eInt) h (j := i.toNat) (by omega) rfl rfl rfl
theorem l074 {n0 id : Nat} {H0 : Hp} {w : Value} {m : Nat} {roots : List Int} (hw : Li eInt n0 H0 w roots) (hid : n0 ≤ id) (hr : ∀ r ∈ roots, 0 ≤ r ∧ r < (m : Int)) (hl : roots.length ≤ 1048576) : ∀ t H n, id < n → (∀ i, i < n0 → H i = H0 i) → t 5 = sl id 0 m → t 14 = w → t 15 = .int .i64 roots.length → t 16 = .int .i64 0 → H id = some (.row ((List.replicate m false).flatMap eBool.cells) 1 true) →
    Wp (Loop (S74L0 (Call Try.prog) Loop) t H n) (fun o => n ≤ o.n ∧ (∀ i, i < n0 → o.H i = H0 i) ∧ o.e = .exit 0 ∧ o.t 2 = t 2 ∧ o.t 5 = sl id 0 m ∧ o.H id = some (.row ((rRoots m roots).flatMap eBool.cells) 1 true)) := by
  intro t H n hidn s0 e5 e14 e15 e16 hH
  refine Loop_rule (fun d T H' n' => ∃ j : Nat, j + d = roots.length ∧ n ≤ n' ∧ (∀ i, i < n0 → H' i = H0 i) ∧ T 2 = t 2 ∧ T 5 = sl id 0 m ∧ T 14 = w ∧ T 15 = .int .i64 roots.length ∧ T 16 = .int .i64 j ∧ H' id = some (.row ((rRoots m (roots.take j)).flatMap eBool.cells) 1 true)) _ ?_ roots.length t H n ⟨0, by omega, by omega, s0, rfl, e5, e14, e15, e16, by simpa [rRoots] using hH⟩
  rintro d T H' n' ⟨j, hj, hn, s1, e2, e5, e14, e15, e16, hH⟩
  unfold S74L0
  by_cases hlt : j < roots.length
  · have hlti : (j : Int) < roots.length := by omega
    have hws := wj (j := j) (len := roots.length) hlt (by omega)
    have g := (hw.mv (Nat.le_refl _) s1).iAll (i := (j : Int)) (by omega) hlti
    rw [gi_nat hlt] at g
    have hrj := hr _ (List.getElem_mem hlt)
    have hix := idx1 (id := id) (k := .i64) hrj.1 hrj.2
    have hst := st_o hH hrj.1 (by rw [rRoots_len]; exact hrj.2) true
    rw [← rRoots_take hlt] at hst
    (((repeat (first | (with_reducible apply Wp.step; case h => ((try simp (disch := omega) only [↓reduceIte, ask_true, ↓X0, X1, Nat.reduceEqDiff, Int.reduceEq, Nat.reduceAdd, Nat.reduceSub, e5, e14, e15, e16, hlti, g, hix, hst, hws]); with_reducible exact rfl)) | (apply Wp.andS) | (apply Wp.orS) | ((with_reducible first | apply Wp.gs | apply Wp.cs | apply Wp.cselX | apply Wp.askT | apply Wp.iteKT | apply Wp.ikb | apply Wp.askb); case h => ((try simp (disch := omega) only [↓reduceIte, ask_true, ↓X0, X1, Nat.reduceEqDiff, Int.reduceEq, Nat.reduceAdd, Nat.reduceSub, e5, e14, e15, e16, hlti, g, hix, hst, hws]); (with_reducible first | done | exact bT | exact bF))) | (with_reducible apply Wp.gu) | (simp only [↓X3]) | (simp (disch := decide) only [asks_nil, asks_in, asks_out, askB_nil, askB_in, askB_out]) | (with_reducible apply Wp.assoc))); try simp only [outOf_exit, outOf_ret]); try (with_reducible apply Wp.cargs; case h => ((try simp (disch := omega) only [↓reduceIte, ask_true, ↓X0, X1, Nat.reduceEqDiff, Int.reduceEq, Nat.reduceAdd, Nat.reduceSub, e5, e14, e15, e16, hlti, g, hix, hst, hws]); with_reducible exact rfl)))
    exact Wp.pure (Nxt.go (d - 1) (by omega) ⟨j + 1, by omega, by omega, (by intros; first | with_reducible rfl | simp (disch := omega) only [Hp_ne, Hp_same, s1]), by simp [put_at, e2], by simp [put_at, e5], by simp [put_at, e14], by simp [put_at, e15], by simp [put_at], Hp_same _ _ _⟩)
  · have hlti : ¬ (j : Int) < roots.length := by omega
    (((repeat (first | (with_reducible apply Wp.step; case h => ((try simp (disch := omega) only [↓reduceIte, ask_true, ↓X0, X1, Nat.reduceEqDiff, Int.reduceEq, Nat.reduceAdd, Nat.reduceSub, e15, e16, hlti]); with_reducible exact rfl)) | (apply Wp.andS) | (apply Wp.orS) | ((with_reducible first | apply Wp.gs | apply Wp.cs | apply Wp.cselX | apply Wp.askT | apply Wp.iteKT | apply Wp.ikb | apply Wp.askb); case h => ((try simp (disch := omega) only [↓reduceIte, ask_true, ↓X0, X1, Nat.reduceEqDiff, Int.reduceEq, Nat.reduceAdd, Nat.reduceSub, e15, e16, hlti]); (with_reducible first | done | exact bT | exact bF))) | (with_reducible apply Wp.gu) | (simp only [↓X3]) | (simp (disch := decide) only [asks_nil, asks_in, asks_out, askB_nil, askB_in, askB_out]) | (with_reducible apply Wp.assoc))); try simp only [outOf_exit, outOf_ret]); try (with_reducible apply Wp.cargs; case h => ((try simp (disch := omega) only [↓reduceIte, ask_true, ↓X0, X1, Nat.reduceEqDiff, Int.reduceEq, Nat.reduceAdd, Nat.reduceSub, e15, e16, hlti]); with_reducible exact rfl)))
    rw [List.take_of_length_le (by omega)] at hH
    exact Wp.pure (Nxt.exit ⟨by simp only; omega, s1, rfl, by simp [put_at, e2], by simp [put_at, e5], hH⟩)
theorem l174 {n0 b id : Nat} {H0 : Hp} {v : Value} {l : List Nd} (hv : Li eNode n0 H0 v l) (hp : PoolOk l) (hid : n0 ≤ id) (hb0 : b < n0) (hb : H0 b = some (.row [v] 0 true)) (out0 : List Bool) (ho : out0.length = l.length) : ∀ t H n, id < n → (∀ i, i < n0 → H i = H0 i) → t 2 = ptr b 0 → t 5 = sl id 0 l.length → t 8 = .int .i64 ((l.length : Int) - 1) → H id = some (.row (out0.flatMap eBool.cells) 1 true) →
    Wp (Loop (S74L1 (Call Try.prog) Loop) t H n) (fun o => n ≤ o.n ∧ (∀ i, i < n0 → o.H i = H0 i) ∧ o.e = .exit 2 ∧ o.t 5 = sl id 0 l.length ∧ o.H id = some (.row ((rDown l l.length out0).flatMap eBool.cells) 1 true)) := by
  intro t H n hidn s0 e2 e5 e8 hH
  have hl := hp.2
  refine Loop_rule (fun d T H' n' => ∃ cur : List Bool, d ≤ l.length ∧ n ≤ n' ∧ (∀ i, i < n0 → H' i = H0 i) ∧ T 2 = ptr b 0 ∧ T 5 = sl id 0 l.length ∧ T 8 = .int .i64 ((d : Int) - 1) ∧ cur.length = l.length ∧ rDown l d cur = rDown l l.length out0 ∧ H' id = some (.row (cur.flatMap eBool.cells) 1 true)) _ ?_ l.length t H n ⟨out0, by omega, by omega, s0, e2, e5, e8, ho, rfl, hH⟩
  rintro d T H' n' ⟨cur, hd, hn, s1, e2, e5, e8, hcl, hcd, hH⟩
  unfold S74L1
  by_cases hlt : 0 < d
  · obtain ⟨d, rfl⟩ : ∃ d', d = d' + 1 := ⟨d - 1, by omega⟩
    have hd1 : (((d + 1 : Nat) : Int) - 1) = (d : Int) := by omega
    have hge : (0 : Int) ≤ (d : Int) := by omega
    have hw : IntKind.i64.wrap ((d : Int) - 1) = (d : Int) - 1 := w64 (by omega)
    rw [hd1] at e8
    have hb' : H' b = some (.row [v] 0 true) := by rw [s1 b hb0]; exact hb
    have hix := idx1 (id := id) (k := .i64) (m := l.length) hge (by omega)
    have hfo := flat_o (l := cur) hge (by omega)
    have hok := hp.at (v := (d : Int)) (by omega) (by omega)
    have g := (hv.mv (Nat.le_refl _) s1).nAll (i := (d : Int)) (by omega) (by omega)
    rw [rDown, rStep] at hcd
    generalize hx : gi l (d : Int) = x at *
    by_cases ht : gi cur (d : Int) = true
    · rw [if_pos ht] at hcd
      have h5 : x.k = 5 → (0 ≤ x.a ∧ x.a < (cur.length : Int)) ∧ (0 ≤ x.b ∧ x.b < (cur.length : Int)) := fun h => by have := hok.pair h; omega
      have h6 : x.k = 6 ∨ x.k = 7 → 0 ≤ x.a ∧ x.a < (cur.length : Int) := fun h => by have := hok.one h; omega
      obtain ⟨xk, xn, xs, xa, xb⟩ := x
      simp only [Nd.cells] at g h5 h6
      have hH2 : (H'.set (n' + 12) (some (.row [.int .i64 xk, .int .i64 xn, .string xs, .int .i64 xa, .int .i64 xb] 0 true))) id = some (.row (cur.flatMap eBool.cells) 1 true) := by rw [Hp_ne _ _ (by omega)]; exact hH
      by_cases c5 : xk = 5
      · have ho5 := h5 c5
        have ia := idx1 (id := id) (k := .i64) (m := l.length) ho5.1.1 (by omega)
        have ib := idx1 (id := id) (k := .i64) (m := l.length) ho5.2.1 (by omega)
        have ta := st_o hH2 ho5.1.1 ho5.1.2 true
        have tb := st_o (Hp_same (H'.set (n' + 12) (some (.row [.int .i64 xk, .int .i64 xn, .string xs, .int .i64 xa, .int .i64 xb] 0 true))) id (some (.row ((cur.set xa.toNat true).flatMap eBool.cells) 1 true))) ho5.2.1 (by rw [List.length_set]; exact ho5.2.2) true
        rw [Hp_set_set] at tb
        subst c5
        (((repeat (first | (with_reducible apply Wp.step; case h => ((try simp (disch := omega) only [↓reduceIte, ask_true, ↓X0, X1, Nat.reduceEqDiff, Int.reduceEq, Nat.reduceAdd, Nat.reduceSub, X2, Hp_ne, Nat.reduceLeDiff, e2, e5, e8, hge, hix, hH, hfo, ht, hb', g, ia, ta, ib, tb, hw]); with_reducible exact rfl)) | (apply Wp.andS) | (apply Wp.orS) | ((with_reducible first | apply Wp.gs | apply Wp.cs | apply Wp.cselX | apply Wp.askT | apply Wp.iteKT | apply Wp.ikb | apply Wp.askb); case h => ((try simp (disch := omega) only [↓reduceIte, ask_true, ↓X0, X1, Nat.reduceEqDiff, Int.reduceEq, Nat.reduceAdd, Nat.reduceSub, X2, Hp_ne, Nat.reduceLeDiff, e2, e5, e8, hge, hix, hH, hfo, ht, hb', g, ia, ta, ib, tb, hw]); (with_reducible first | done | exact bT | exact bF))) | (with_reducible apply Wp.gu) | (simp only [↓X3]) | (simp (disch := decide) only [asks_nil, asks_in, asks_out, askB_nil, askB_in, askB_out]) | (with_reducible apply Wp.assoc))); try simp only [outOf_exit, outOf_ret]); try (with_reducible apply Wp.cargs; case h => ((try simp (disch := omega) only [↓reduceIte, ask_true, ↓X0, X1, Nat.reduceEqDiff, Int.reduceEq, Nat.reduceAdd, Nat.reduceSub, X2, Hp_ne, Nat.reduceLeDiff, e2, e5, e8, hge, hix, hH, hfo, ht, hb', g, ia, ta, ib, tb, hw]); with_reducible exact rfl)))
        refine Wp.pure (Nxt.go d (by omega) ⟨rMark cur ⟨5, xn, xs, xa, xb⟩, by omega, by omega, (by intros; first | with_reducible rfl | simp (disch := omega) only [Hp_ne, Hp_same, s1]), by simp [put_at, e2], by simp [put_at, e5], by simp [put_at], by rw [rMark_len]; exact hcl, hcd, ?_⟩)
        exact Hp_same _ _ _
      · by_cases c6 : xk = 6 ∨ xk = 7
        · have ho6 := h6 c6
          have ia := idx1 (id := id) (k := .i64) (m := l.length) ho6.1 (by omega)
          have ta := st_o hH2 ho6.1 ho6.2 true
          have hm : rMark cur ⟨xk, xn, xs, xa, xb⟩ = cur.set xa.toNat true := by unfold rMark; rw [if_neg c5, if_pos c6]
          rw [hm] at hcd
          rcases c6 with c6 | c6
          · subst c6
            (((repeat (first | (with_reducible apply Wp.step; case h => ((try simp (disch := omega) only [↓reduceIte, ask_true, ↓X0, X1, Nat.reduceEqDiff, Int.reduceEq, Nat.reduceAdd, Nat.reduceSub, X2, Hp_ne, Nat.reduceLeDiff, e2, e5, e8, hge, hix, hH, hfo, ht, hb', g, ia, ta, hw]); with_reducible exact rfl)) | (apply Wp.andS) | (apply Wp.orS) | ((with_reducible first | apply Wp.gs | apply Wp.cs | apply Wp.cselX | apply Wp.askT | apply Wp.iteKT | apply Wp.ikb | apply Wp.askb); case h => ((try simp (disch := omega) only [↓reduceIte, ask_true, ↓X0, X1, Nat.reduceEqDiff, Int.reduceEq, Nat.reduceAdd, Nat.reduceSub, X2, Hp_ne, Nat.reduceLeDiff, e2, e5, e8, hge, hix, hH, hfo, ht, hb', g, ia, ta, hw]); (with_reducible first | done | exact bT | exact bF))) | (with_reducible apply Wp.gu) | (simp only [↓X3]) | (simp (disch := decide) only [asks_nil, asks_in, asks_out, askB_nil, askB_in, askB_out]) | (with_reducible apply Wp.assoc))); try simp only [outOf_exit, outOf_ret]); try (with_reducible apply Wp.cargs; case h => ((try simp (disch := omega) only [↓reduceIte, ask_true, ↓X0, X1, Nat.reduceEqDiff, Int.reduceEq, Nat.reduceAdd, Nat.reduceSub, X2, Hp_ne, Nat.reduceLeDiff, e2, e5, e8, hge, hix, hH, hfo, ht, hb', g, ia, ta, hw]); with_reducible exact rfl)))
            exact Wp.pure (Nxt.go d (by omega) ⟨cur.set xa.toNat true, by omega, by omega, (by intros; first | with_reducible rfl | simp (disch := omega) only [Hp_ne, Hp_same, s1]), by simp [put_at, e2], by simp [put_at, e5], by simp [put_at], by rw [List.length_set]; exact hcl, hcd, Hp_same _ _ _⟩)
          · subst c6
            (((repeat (first | (with_reducible apply Wp.step; case h => ((try simp (disch := omega) only [↓reduceIte, ask_true, ↓X0, X1, Nat.reduceEqDiff, Int.reduceEq, Nat.reduceAdd, Nat.reduceSub, X2, Hp_ne, Nat.reduceLeDiff, e2, e5, e8, hge, hix, hH, hfo, ht, hb', g, ia, ta, hw]); with_reducible exact rfl)) | (apply Wp.andS) | (apply Wp.orS) | ((with_reducible first | apply Wp.gs | apply Wp.cs | apply Wp.cselX | apply Wp.askT | apply Wp.iteKT | apply Wp.ikb | apply Wp.askb); case h => ((try simp (disch := omega) only [↓reduceIte, ask_true, ↓X0, X1, Nat.reduceEqDiff, Int.reduceEq, Nat.reduceAdd, Nat.reduceSub, X2, Hp_ne, Nat.reduceLeDiff, e2, e5, e8, hge, hix, hH, hfo, ht, hb', g, ia, ta, hw]); (with_reducible first | done | exact bT | exact bF))) | (with_reducible apply Wp.gu) | (simp only [↓X3]) | (simp (disch := decide) only [asks_nil, asks_in, asks_out, askB_nil, askB_in, askB_out]) | (with_reducible apply Wp.assoc))); try simp only [outOf_exit, outOf_ret]); try (with_reducible apply Wp.cargs; case h => ((try simp (disch := omega) only [↓reduceIte, ask_true, ↓X0, X1, Nat.reduceEqDiff, Int.reduceEq, Nat.reduceAdd, Nat.reduceSub, X2, Hp_ne, Nat.reduceLeDiff, e2, e5, e8, hge, hix, hH, hfo, ht, hb', g, ia, ta, hw]); with_reducible exact rfl)))
            exact Wp.pure (Nxt.go d (by omega) ⟨cur.set xa.toNat true, by omega, by omega, (by intros; first | with_reducible rfl | simp (disch := omega) only [Hp_ne, Hp_same, s1]), by simp [put_at, e2], by simp [put_at, e5], by simp [put_at], by rw [List.length_set]; exact hcl, hcd, Hp_same _ _ _⟩)
        · have c6' : ¬ xk = 6 := fun h => c6 (.inl h)
          have c7' : ¬ xk = 7 := fun h => c6 (.inr h)
          have hm : rMark cur ⟨xk, xn, xs, xa, xb⟩ = cur := by unfold rMark; rw [if_neg c5, if_neg c6]
          rw [hm] at hcd
          (((repeat (first | (with_reducible apply Wp.step; case h => ((try simp (disch := omega) only [↓reduceIte, ask_true, ↓X0, X1, Nat.reduceEqDiff, Int.reduceEq, Nat.reduceAdd, Nat.reduceSub, X2, Hp_ne, Nat.reduceLeDiff, e2, e5, e8, hge, hix, hH, hfo, ht, hb', g, c5, c6', c7', hw]); with_reducible exact rfl)) | (apply Wp.andS) | (apply Wp.orS) | ((with_reducible first | apply Wp.gs | apply Wp.cs | apply Wp.cselX | apply Wp.askT | apply Wp.iteKT | apply Wp.ikb | apply Wp.askb); case h => ((try simp (disch := omega) only [↓reduceIte, ask_true, ↓X0, X1, Nat.reduceEqDiff, Int.reduceEq, Nat.reduceAdd, Nat.reduceSub, X2, Hp_ne, Nat.reduceLeDiff, e2, e5, e8, hge, hix, hH, hfo, ht, hb', g, c5, c6', c7', hw]); (with_reducible first | done | exact bT | exact bF))) | (with_reducible apply Wp.gu) | (simp only [↓X3]) | (simp (disch := decide) only [asks_nil, asks_in, asks_out, askB_nil, askB_in, askB_out]) | (with_reducible apply Wp.assoc))); try simp only [outOf_exit, outOf_ret]); try (with_reducible apply Wp.cargs; case h => ((try simp (disch := omega) only [↓reduceIte, ask_true, ↓X0, X1, Nat.reduceEqDiff, Int.reduceEq, Nat.reduceAdd, Nat.reduceSub, X2, Hp_ne, Nat.reduceLeDiff, e2, e5, e8, hge, hix, hH, hfo, ht, hb', g, c5, c6', c7', hw]); with_reducible exact rfl)))
          exact Wp.pure (Nxt.go d (by omega) ⟨cur, by omega, by omega, (by intros; first | with_reducible rfl | simp (disch := omega) only [Hp_ne, Hp_same, s1]), by simp [put_at, e2], by simp [put_at, e5], by simp [put_at], hcl, hcd, hH2⟩)
    · have ht' : gi cur (d : Int) = false := by simpa using ht
      rw [if_neg ht] at hcd
      (((repeat (first | (with_reducible apply Wp.step; case h => ((try simp (disch := omega) only [↓reduceIte, ask_true, ↓X0, X1, Nat.reduceEqDiff, Int.reduceEq, Nat.reduceAdd, Nat.reduceSub, X2, Hp_ne, Nat.reduceLeDiff, e2, e5, e8, hge, hix, hH, hfo, ht', hw]); with_reducible exact rfl)) | (apply Wp.andS) | (apply Wp.orS) | ((with_reducible first | apply Wp.gs | apply Wp.cs | apply Wp.cselX | apply Wp.askT | apply Wp.iteKT | apply Wp.ikb | apply Wp.askb); case h => ((try simp (disch := omega) only [↓reduceIte, ask_true, ↓X0, X1, Nat.reduceEqDiff, Int.reduceEq, Nat.reduceAdd, Nat.reduceSub, X2, Hp_ne, Nat.reduceLeDiff, e2, e5, e8, hge, hix, hH, hfo, ht', hw]); (with_reducible first | done | exact bT | exact bF))) | (with_reducible apply Wp.gu) | (simp only [↓X3]) | (simp (disch := decide) only [asks_nil, asks_in, asks_out, askB_nil, askB_in, askB_out]) | (with_reducible apply Wp.assoc))); try simp only [outOf_exit, outOf_ret]); try (with_reducible apply Wp.cargs; case h => ((try simp (disch := omega) only [↓reduceIte, ask_true, ↓X0, X1, Nat.reduceEqDiff, Int.reduceEq, Nat.reduceAdd, Nat.reduceSub, X2, Hp_ne, Nat.reduceLeDiff, e2, e5, e8, hge, hix, hH, hfo, ht', hw]); with_reducible exact rfl)))
      exact Wp.pure (Nxt.go d (by omega) ⟨cur, by omega, by omega, (by intros; first | with_reducible rfl | simp (disch := omega) only [Hp_ne, Hp_same, s1]), by simp [put_at, e2], by simp [put_at, e5], by simp [put_at], hcl, hcd, hH⟩)
  · have hd0 : d = 0 := by omega
    subst hd0
    (((repeat (first | (with_reducible apply Wp.step; case h => ((try simp (disch := omega) only [↓reduceIte, ask_true, ↓X0, X1, Nat.reduceEqDiff, Int.reduceEq, Nat.reduceAdd, Nat.reduceSub, e8, (show ¬ (0 : Int) ≤ ((0 : Nat) : Int) - 1 by omega)]); with_reducible exact rfl)) | (apply Wp.andS) | (apply Wp.orS) | ((with_reducible first | apply Wp.gs | apply Wp.cs | apply Wp.cselX | apply Wp.askT | apply Wp.iteKT | apply Wp.ikb | apply Wp.askb); case h => ((try simp (disch := omega) only [↓reduceIte, ask_true, ↓X0, X1, Nat.reduceEqDiff, Int.reduceEq, Nat.reduceAdd, Nat.reduceSub, e8, (show ¬ (0 : Int) ≤ ((0 : Nat) : Int) - 1 by omega)]); (with_reducible first | done | exact bT | exact bF))) | (with_reducible apply Wp.gu) | (simp only [↓X3]) | (simp (disch := decide) only [asks_nil, asks_in, asks_out, askB_nil, askB_in, askB_out]) | (with_reducible apply Wp.assoc))); try simp only [outOf_exit, outOf_ret]); try (with_reducible apply Wp.cargs; case h => ((try simp (disch := omega) only [↓reduceIte, ask_true, ↓X0, X1, Nat.reduceEqDiff, Int.reduceEq, Nat.reduceAdd, Nat.reduceSub, e8, (show ¬ (0 : Int) ≤ ((0 : Nat) : Int) - 1 by omega)]); with_reducible exact rfl)))
    rw [← hcd]
    exact Wp.pure (Nxt.exit ⟨by simp only; omega, s1, rfl, by simp [put_at, e5], hH⟩)
theorem k74 {n : Nat} {H : Hp} {v w : Value} {l : List Nd} {roots : List Int} (hv : Li eNode n H v l) (hp : PoolOk l) (hw : Li eInt n H w roots) (hr : ∀ r ∈ roots, 0 ≤ r ∧ r < (l.length : Int)) (hl : roots.length ≤ 1048576) : RtN Try.prog 74 [.agg ⟨[v]⟩, w] H n (fun r H' n' => ∃ id, n ≤ id ∧ id < n' ∧ r = sl id 0 l.length ∧ H' id = some (.row ((reachM l roots).flatMap eBool.cells) 1 true)) := by
  apply RtN.mk
  rw [c74]; unfold S74
  have hl2 := hp.2
  have hm : ∀ H : Hp, mks (n + 5) 1 1 [.bool false] (.int .i64 l.length) (.int .i64 l.length) H = some (sl (n + 5) 0 l.length, H.set (n + 5) (some (.row ((List.replicate l.length false).flatMap eBool.cells) 1 true))) := fun H => mks_new eBool false H (by decide) (by omega)
  (((repeat (first | (with_reducible apply Wp.step; case h => ((try simp (disch := omega) only [↓reduceIte, ask_true, ↓X0, X1, Nat.reduceEqDiff, Int.reduceEq, Nat.reduceAdd, Nat.reduceSub, X2, Hp_ne, Nat.reduceLeDiff, argsT_at, hv.len, hw.len, hm]); with_reducible exact rfl)) | (apply Wp.andS) | (apply Wp.orS) | ((with_reducible first | apply Wp.gs | apply Wp.cs | apply Wp.cselX | apply Wp.askT | apply Wp.iteKT | apply Wp.ikb | apply Wp.askb); case h => ((try simp (disch := omega) only [↓reduceIte, ask_true, ↓X0, X1, Nat.reduceEqDiff, Int.reduceEq, Nat.reduceAdd, Nat.reduceSub, X2, Hp_ne, Nat.reduceLeDiff, argsT_at, hv.len, hw.len, hm]); (with_reducible first | done | exact bT | exact bF))) | (with_reducible apply Wp.gu) | (simp only [↓X3]) | (simp (disch := decide) only [asks_nil, asks_in, asks_out, askB_nil, askB_in, askB_out]) | (with_reducible apply Wp.assoc))); try simp only [outOf_exit, outOf_ret]); try (with_reducible apply Wp.cargs; case h => ((try simp (disch := omega) only [↓reduceIte, ask_true, ↓X0, X1, Nat.reduceEqDiff, Int.reduceEq, Nat.reduceAdd, Nat.reduceSub, X2, Hp_ne, Nat.reduceLeDiff, argsT_at, hv.len, hw.len, hm]); with_reducible exact rfl)))
  refine Wp.bind (l074 (n0 := n + 1) (id := n + 5) (H0 := H.set n (some (.row [v] 0 true))) (hw.mv (by omega) (by intros; first | with_reducible rfl | simp (disch := omega) only [Hp_ne, Hp_same])) (by omega) hr hl _ _ _ (by omega) (by intros; first | with_reducible rfl | simp (disch := omega) only [Hp_ne, Hp_same]) (by simp [put_at]) (by simp [put_at, argsT_at]) (by simp [put_at]) (by simp [put_at]) (Hp_same _ _ _)) ?_
  rintro ⟨oe, ot, oH, on⟩ ⟨f1, f2, rfl, f3, f4, f5⟩
  simp only at f1 f2 f3 f4 f5
  simp only [put_at, Nat.reduceEqDiff, if_false, if_true] at f3
  have hbx : oH n = some (.row [v] 0 true) := by simp (disch := omega) only [f2, Hp_same]
  have hlv := (hv.mv (H' := oH) (Nat.le_refl _) (by intros; first | with_reducible rfl | simp (disch := omega) only [Hp_ne, Hp_same, f2])).len
  have hws : IntKind.i64.wrap ((l.length : Int) - 1) = (l.length : Int) - 1 := w64 (by omega)
  (((repeat (first | (with_reducible apply Wp.step; case h => ((try simp (disch := omega) only [↓reduceIte, ask_true, ↓X0, X1, Nat.reduceEqDiff, Int.reduceEq, Nat.reduceAdd, Nat.reduceSub, X2, Hp_ne, Nat.reduceLeDiff, f3, hbx, hlv, hws]); with_reducible exact rfl)) | (apply Wp.andS) | (apply Wp.orS) | ((with_reducible first | apply Wp.gs | apply Wp.cs | apply Wp.cselX | apply Wp.askT | apply Wp.iteKT | apply Wp.ikb | apply Wp.askb); case h => ((try simp (disch := omega) only [↓reduceIte, ask_true, ↓X0, X1, Nat.reduceEqDiff, Int.reduceEq, Nat.reduceAdd, Nat.reduceSub, X2, Hp_ne, Nat.reduceLeDiff, f3, hbx, hlv, hws]); (with_reducible first | done | exact bT | exact bF))) | (with_reducible apply Wp.gu) | (simp only [↓X3]) | (simp (disch := decide) only [asks_nil, asks_in, asks_out, askB_nil, askB_in, askB_out]) | (with_reducible apply Wp.assoc))); try simp only [outOf_exit, outOf_ret]); try (with_reducible apply Wp.cargs; case h => ((try simp (disch := omega) only [↓reduceIte, ask_true, ↓X0, X1, Nat.reduceEqDiff, Int.reduceEq, Nat.reduceAdd, Nat.reduceSub, X2, Hp_ne, Nat.reduceLeDiff, f3, hbx, hlv, hws]); with_reducible exact rfl)))
  refine Wp.bind (l174 (n0 := n + 1) (id := n + 5) (b := n) (H0 := H.set n (some (.row [v] 0 true))) (hv.mv (by omega) (by intros; first | with_reducible rfl | simp (disch := omega) only [Hp_ne, Hp_same])) hp (by omega) (by omega) (Hp_same _ _ _) (rRoots l.length roots) (rRoots_len _ _) _ _ _ (by omega) f2 (by simp [put_at, f3]) (by simp [put_at, f4]) (by simp [put_at]) f5) ?_
  rintro ⟨oe, ot, oH, on⟩ ⟨g1, g2, rfl, g3, g4⟩
  simp only at g1 g2 g3 g4
  (((repeat (first | (with_reducible apply Wp.step; case h => ((try simp (disch := omega) only [↓reduceIte, ask_true, ↓X0, X1, Nat.reduceEqDiff, Int.reduceEq, Nat.reduceAdd, Nat.reduceSub, g3]); with_reducible exact rfl)) | (apply Wp.andS) | (apply Wp.orS) | ((with_reducible first | apply Wp.gs | apply Wp.cs | apply Wp.cselX | apply Wp.askT | apply Wp.iteKT | apply Wp.ikb | apply Wp.askb); case h => ((try simp (disch := omega) only [↓reduceIte, ask_true, ↓X0, X1, Nat.reduceEqDiff, Int.reduceEq, Nat.reduceAdd, Nat.reduceSub, g3]); (with_reducible first | done | exact bT | exact bF))) | (with_reducible apply Wp.gu) | (simp only [↓X3]) | (simp (disch := decide) only [asks_nil, asks_in, asks_out, askB_nil, askB_in, askB_out]) | (with_reducible apply Wp.assoc))); try simp only [outOf_exit, outOf_ret]); try (with_reducible apply Wp.cargs; case h => ((try simp (disch := omega) only [↓reduceIte, ask_true, ↓X0, X1, Nat.reduceEqDiff, Int.reduceEq, Nat.reduceAdd, Nat.reduceSub, g3]); with_reducible exact rfl)))
  exact Wp.pure ⟨by simp only; omega, (by intros; first | with_reducible rfl | simp (disch := omega) only [Hp_ne, Hp_same, g2]), n + 5, by omega, by simp only; omega, g3, g4⟩
theorem l060 {n0 id : Nat} {H0 : Hp} {w : Value} {m : Nat} {roots : List Int} (hw : Li eInt n0 H0 w roots) (hid : n0 ≤ id) (hr : ∀ r ∈ roots, 0 ≤ r ∧ r < (m : Int)) (hl : roots.length ≤ 1048576) : ∀ t H n, id < n → (∀ i, i < n0 → H i = H0 i) → t 5 = sl id 0 m → t 1 = w → t 6 = .int .i64 0 → H id = some (.row ((List.replicate m false).flatMap eBool.cells) 1 true) →
    Wp (Loop (S60L0 (Call Try.prog) Loop) t H n) (fun o => n ≤ o.n ∧ (∀ i, i < n0 → o.H i = H0 i) ∧ o.e = .exit 0 ∧ o.t 2 = t 2 ∧ o.t 5 = sl id 0 m ∧ o.H id = some (.row ((rRoots m roots).flatMap eBool.cells) 1 true)) := by
  intro t H n hidn s0 e5 e1 e6 hH
  refine Loop_rule (fun d T H' n' => ∃ j : Nat, j + d = roots.length ∧ n ≤ n' ∧ (∀ i, i < n0 → H' i = H0 i) ∧ T 2 = t 2 ∧ T 5 = sl id 0 m ∧ T 1 = w ∧ T 6 = .int .i64 j ∧ H' id = some (.row ((rRoots m (roots.take j)).flatMap eBool.cells) 1 true)) _ ?_ roots.length t H n ⟨0, by omega, by omega, s0, rfl, e5, e1, e6, by simpa [rRoots] using hH⟩
  rintro d T H' n' ⟨j, hj, hn, s1, e2, e5, e1, e6, hH⟩
  unfold S60L0
  have hlw := (hw.mv (H' := H') (Nat.le_refl _) s1).len
  by_cases hlt : j < roots.length
  · have hlti : (j : Int) < roots.length := by omega
    have hws := wj (j := j) (len := roots.length) hlt (by omega)
    have g := (hw.mv (Nat.le_refl _) s1).iAll (i := (j : Int)) (by omega) hlti
    rw [gi_nat hlt] at g
    have hrj := hr _ (List.getElem_mem hlt)
    have hix := idx1 (id := id) (k := .i64) hrj.1 hrj.2
    have hst := st_o hH hrj.1 (by rw [rRoots_len]; exact hrj.2) true
    rw [← rRoots_take hlt] at hst
    (((repeat (first | (with_reducible apply Wp.step; case h => ((try simp (disch := omega) only [↓reduceIte, ask_true, ↓X0, X1, Nat.reduceEqDiff, Int.reduceEq, Nat.reduceAdd, Nat.reduceSub, e5, e1, e6, hlw, hlti, g, hix, hst, hws]); with_reducible exact rfl)) | (apply Wp.andS) | (apply Wp.orS) | ((with_reducible first | apply Wp.gs | apply Wp.cs | apply Wp.cselX | apply Wp.askT | apply Wp.iteKT | apply Wp.ikb | apply Wp.askb); case h => ((try simp (disch := omega) only [↓reduceIte, ask_true, ↓X0, X1, Nat.reduceEqDiff, Int.reduceEq, Nat.reduceAdd, Nat.reduceSub, e5, e1, e6, hlw, hlti, g, hix, hst, hws]); (with_reducible first | done | exact bT | exact bF))) | (with_reducible apply Wp.gu) | (simp only [↓X3]) | (simp (disch := decide) only [asks_nil, asks_in, asks_out, askB_nil, askB_in, askB_out]) | (with_reducible apply Wp.assoc))); try simp only [outOf_exit, outOf_ret]); try (with_reducible apply Wp.cargs; case h => ((try simp (disch := omega) only [↓reduceIte, ask_true, ↓X0, X1, Nat.reduceEqDiff, Int.reduceEq, Nat.reduceAdd, Nat.reduceSub, e5, e1, e6, hlw, hlti, g, hix, hst, hws]); with_reducible exact rfl)))
    exact Wp.pure (Nxt.go (d - 1) (by omega) ⟨j + 1, by omega, by omega, (by intros; first | with_reducible rfl | simp (disch := omega) only [Hp_ne, Hp_same, s1]), by simp [put_at, e2], by simp [put_at, e5], by simp [put_at, e1], by simp [put_at], Hp_same _ _ _⟩)
  · have hlti : ¬ (j : Int) < roots.length := by omega
    (((repeat (first | (with_reducible apply Wp.step; case h => ((try simp (disch := omega) only [↓reduceIte, ask_true, ↓X0, X1, Nat.reduceEqDiff, Int.reduceEq, Nat.reduceAdd, Nat.reduceSub, e1, e6, hlw, hlti]); with_reducible exact rfl)) | (apply Wp.andS) | (apply Wp.orS) | ((with_reducible first | apply Wp.gs | apply Wp.cs | apply Wp.cselX | apply Wp.askT | apply Wp.iteKT | apply Wp.ikb | apply Wp.askb); case h => ((try simp (disch := omega) only [↓reduceIte, ask_true, ↓X0, X1, Nat.reduceEqDiff, Int.reduceEq, Nat.reduceAdd, Nat.reduceSub, e1, e6, hlw, hlti]); (with_reducible first | done | exact bT | exact bF))) | (with_reducible apply Wp.gu) | (simp only [↓X3]) | (simp (disch := decide) only [asks_nil, asks_in, asks_out, askB_nil, askB_in, askB_out]) | (with_reducible apply Wp.assoc))); try simp only [outOf_exit, outOf_ret]); try (with_reducible apply Wp.cargs; case h => ((try simp (disch := omega) only [↓reduceIte, ask_true, ↓X0, X1, Nat.reduceEqDiff, Int.reduceEq, Nat.reduceAdd, Nat.reduceSub, e1, e6, hlw, hlti]); with_reducible exact rfl)))
    rw [List.take_of_length_le (by omega)] at hH
    exact Wp.pure (Nxt.exit ⟨by simp only; omega, s1, rfl, by simp [put_at, e2], by simp [put_at, e5], hH⟩)
theorem l160 {n0 b id : Nat} {H0 : Hp} {v : Value} {l : List Nd} (hv : Li eNode n0 H0 v l) (hp : PoolOk l) (hid : n0 ≤ id) (hb0 : b < n0) (hb : H0 b = some (.row [v] 0 true)) (out0 : List Bool) (ho : out0.length = l.length) : ∀ t H n, id < n → (∀ i, i < n0 → H i = H0 i) → t 2 = ptr b 0 → t 5 = sl id 0 l.length → t 7 = .int .i64 ((l.length : Int) - 1) → H id = some (.row (out0.flatMap eBool.cells) 1 true) →
    Wp (Loop (S60L1 (Call Try.prog) Loop) t H n) (fun o => n ≤ o.n ∧ (∀ i, i < n0 → o.H i = H0 i) ∧ o.e = .exit 2 ∧ o.t 5 = sl id 0 l.length ∧ o.H id = some (.row ((rDown l l.length out0).flatMap eBool.cells) 1 true)) := by
  intro t H n hidn s0 e2 e5 e8 hH
  have hl := hp.2
  refine Loop_rule (fun d T H' n' => ∃ cur : List Bool, d ≤ l.length ∧ n ≤ n' ∧ (∀ i, i < n0 → H' i = H0 i) ∧ T 2 = ptr b 0 ∧ T 5 = sl id 0 l.length ∧ T 7 = .int .i64 ((d : Int) - 1) ∧ cur.length = l.length ∧ rDown l d cur = rDown l l.length out0 ∧ H' id = some (.row (cur.flatMap eBool.cells) 1 true)) _ ?_ l.length t H n ⟨out0, by omega, by omega, s0, e2, e5, e8, ho, rfl, hH⟩
  rintro d T H' n' ⟨cur, hd, hn, s1, e2, e5, e8, hcl, hcd, hH⟩
  unfold S60L1
  by_cases hlt : 0 < d
  · obtain ⟨d, rfl⟩ : ∃ d', d = d' + 1 := ⟨d - 1, by omega⟩
    have hd1 : (((d + 1 : Nat) : Int) - 1) = (d : Int) := by omega
    have hge : (0 : Int) ≤ (d : Int) := by omega
    have hw : IntKind.i64.wrap ((d : Int) - 1) = (d : Int) - 1 := w64 (by omega)
    rw [hd1] at e8
    have hb' : H' b = some (.row [v] 0 true) := by rw [s1 b hb0]; exact hb
    have hix := idx1 (id := id) (k := .i64) (m := l.length) hge (by omega)
    have hfo := flat_o (l := cur) hge (by omega)
    have hok := hp.at (v := (d : Int)) (by omega) (by omega)
    have g := (hv.mv (Nat.le_refl _) s1).nAll (i := (d : Int)) (by omega) (by omega)
    rw [rDown, rStep] at hcd
    generalize hx : gi l (d : Int) = x at *
    by_cases ht : gi cur (d : Int) = true
    · rw [if_pos ht] at hcd
      have h5 : x.k = 5 → (0 ≤ x.a ∧ x.a < (cur.length : Int)) ∧ (0 ≤ x.b ∧ x.b < (cur.length : Int)) := fun h => by have := hok.pair h; omega
      have h6 : x.k = 6 ∨ x.k = 7 → 0 ≤ x.a ∧ x.a < (cur.length : Int) := fun h => by have := hok.one h; omega
      obtain ⟨xk, xn, xs, xa, xb⟩ := x
      simp only [Nd.cells] at g h5 h6
      have hH2 : (H'.set (n' + 7) (some (.row [.int .i64 xk, .int .i64 xn, .string xs, .int .i64 xa, .int .i64 xb] 0 true))) id = some (.row (cur.flatMap eBool.cells) 1 true) := by rw [Hp_ne _ _ (by omega)]; exact hH
      by_cases c5 : xk = 5
      · have ho5 := h5 c5
        have ia := idx1 (id := id) (k := .i64) (m := l.length) ho5.1.1 (by omega)
        have ib := idx1 (id := id) (k := .i64) (m := l.length) ho5.2.1 (by omega)
        have ta := st_o hH2 ho5.1.1 ho5.1.2 true
        have tb := st_o (Hp_same (H'.set (n' + 7) (some (.row [.int .i64 xk, .int .i64 xn, .string xs, .int .i64 xa, .int .i64 xb] 0 true))) id (some (.row ((cur.set xa.toNat true).flatMap eBool.cells) 1 true))) ho5.2.1 (by rw [List.length_set]; exact ho5.2.2) true
        rw [Hp_set_set] at tb
        subst c5
        (((repeat (first | (with_reducible apply Wp.step; case h => ((try simp (disch := omega) only [↓reduceIte, ask_true, ↓X0, X1, Nat.reduceEqDiff, Int.reduceEq, Nat.reduceAdd, Nat.reduceSub, X2, Hp_ne, Nat.reduceLeDiff, e2, e5, e8, hge, hix, hH, hfo, ht, hb', g, ia, ta, ib, tb, hw]); with_reducible exact rfl)) | (apply Wp.andS) | (apply Wp.orS) | ((with_reducible first | apply Wp.gs | apply Wp.cs | apply Wp.cselX | apply Wp.askT | apply Wp.iteKT | apply Wp.ikb | apply Wp.askb); case h => ((try simp (disch := omega) only [↓reduceIte, ask_true, ↓X0, X1, Nat.reduceEqDiff, Int.reduceEq, Nat.reduceAdd, Nat.reduceSub, X2, Hp_ne, Nat.reduceLeDiff, e2, e5, e8, hge, hix, hH, hfo, ht, hb', g, ia, ta, ib, tb, hw]); (with_reducible first | done | exact bT | exact bF))) | (with_reducible apply Wp.gu) | (simp only [↓X3]) | (simp (disch := decide) only [asks_nil, asks_in, asks_out, askB_nil, askB_in, askB_out]) | (with_reducible apply Wp.assoc))); try simp only [outOf_exit, outOf_ret]); try (with_reducible apply Wp.cargs; case h => ((try simp (disch := omega) only [↓reduceIte, ask_true, ↓X0, X1, Nat.reduceEqDiff, Int.reduceEq, Nat.reduceAdd, Nat.reduceSub, X2, Hp_ne, Nat.reduceLeDiff, e2, e5, e8, hge, hix, hH, hfo, ht, hb', g, ia, ta, ib, tb, hw]); with_reducible exact rfl)))
        refine Wp.pure (Nxt.go d (by omega) ⟨rMark cur ⟨5, xn, xs, xa, xb⟩, by omega, by omega, (by intros; first | with_reducible rfl | simp (disch := omega) only [Hp_ne, Hp_same, s1]), by simp [put_at, e2], by simp [put_at, e5], by simp [put_at], by rw [rMark_len]; exact hcl, hcd, ?_⟩)
        exact Hp_same _ _ _
      · by_cases c6 : xk = 6 ∨ xk = 7
        · have ho6 := h6 c6
          have ia := idx1 (id := id) (k := .i64) (m := l.length) ho6.1 (by omega)
          have ta := st_o hH2 ho6.1 ho6.2 true
          have hm : rMark cur ⟨xk, xn, xs, xa, xb⟩ = cur.set xa.toNat true := by unfold rMark; rw [if_neg c5, if_pos c6]
          rw [hm] at hcd
          rcases c6 with c6 | c6
          · subst c6
            (((repeat (first | (with_reducible apply Wp.step; case h => ((try simp (disch := omega) only [↓reduceIte, ask_true, ↓X0, X1, Nat.reduceEqDiff, Int.reduceEq, Nat.reduceAdd, Nat.reduceSub, X2, Hp_ne, Nat.reduceLeDiff, e2, e5, e8, hge, hix, hH, hfo, ht, hb', g, ia, ta, hw]); with_reducible exact rfl)) | (apply Wp.andS) | (apply Wp.orS) | ((with_reducible first | apply Wp.gs | apply Wp.cs | apply Wp.cselX | apply Wp.askT | apply Wp.iteKT | apply Wp.ikb | apply Wp.askb); case h => ((try simp (disch := omega) only [↓reduceIte, ask_true, ↓X0, X1, Nat.reduceEqDiff, Int.reduceEq, Nat.reduceAdd, Nat.reduceSub, X2, Hp_ne, Nat.reduceLeDiff, e2, e5, e8, hge, hix, hH, hfo, ht, hb', g, ia, ta, hw]); (with_reducible first | done | exact bT | exact bF))) | (with_reducible apply Wp.gu) | (simp only [↓X3]) | (simp (disch := decide) only [asks_nil, asks_in, asks_out, askB_nil, askB_in, askB_out]) | (with_reducible apply Wp.assoc))); try simp only [outOf_exit, outOf_ret]); try (with_reducible apply Wp.cargs; case h => ((try simp (disch := omega) only [↓reduceIte, ask_true, ↓X0, X1, Nat.reduceEqDiff, Int.reduceEq, Nat.reduceAdd, Nat.reduceSub, X2, Hp_ne, Nat.reduceLeDiff, e2, e5, e8, hge, hix, hH, hfo, ht, hb', g, ia, ta, hw]); with_reducible exact rfl)))
            exact Wp.pure (Nxt.go d (by omega) ⟨cur.set xa.toNat true, by omega, by omega, (by intros; first | with_reducible rfl | simp (disch := omega) only [Hp_ne, Hp_same, s1]), by simp [put_at, e2], by simp [put_at, e5], by simp [put_at], by rw [List.length_set]; exact hcl, hcd, Hp_same _ _ _⟩)
          · subst c6
            (((repeat (first | (with_reducible apply Wp.step; case h => ((try simp (disch := omega) only [↓reduceIte, ask_true, ↓X0, X1, Nat.reduceEqDiff, Int.reduceEq, Nat.reduceAdd, Nat.reduceSub, X2, Hp_ne, Nat.reduceLeDiff, e2, e5, e8, hge, hix, hH, hfo, ht, hb', g, ia, ta, hw]); with_reducible exact rfl)) | (apply Wp.andS) | (apply Wp.orS) | ((with_reducible first | apply Wp.gs | apply Wp.cs | apply Wp.cselX | apply Wp.askT | apply Wp.iteKT | apply Wp.ikb | apply Wp.askb); case h => ((try simp (disch := omega) only [↓reduceIte, ask_true, ↓X0, X1, Nat.reduceEqDiff, Int.reduceEq, Nat.reduceAdd, Nat.reduceSub, X2, Hp_ne, Nat.reduceLeDiff, e2, e5, e8, hge, hix, hH, hfo, ht, hb', g, ia, ta, hw]); (with_reducible first | done | exact bT | exact bF))) | (with_reducible apply Wp.gu) | (simp only [↓X3]) | (simp (disch := decide) only [asks_nil, asks_in, asks_out, askB_nil, askB_in, askB_out]) | (with_reducible apply Wp.assoc))); try simp only [outOf_exit, outOf_ret]); try (with_reducible apply Wp.cargs; case h => ((try simp (disch := omega) only [↓reduceIte, ask_true, ↓X0, X1, Nat.reduceEqDiff, Int.reduceEq, Nat.reduceAdd, Nat.reduceSub, X2, Hp_ne, Nat.reduceLeDiff, e2, e5, e8, hge, hix, hH, hfo, ht, hb', g, ia, ta, hw]); with_reducible exact rfl)))
            exact Wp.pure (Nxt.go d (by omega) ⟨cur.set xa.toNat true, by omega, by omega, (by intros; first | with_reducible rfl | simp (disch := omega) only [Hp_ne, Hp_same, s1]), by simp [put_at, e2], by simp [put_at, e5], by simp [put_at], by rw [List.length_set]; exact hcl, hcd, Hp_same _ _ _⟩)
        · have c6' : ¬ xk = 6 := fun h => c6 (.inl h)
          have c7' : ¬ xk = 7 := fun h => c6 (.inr h)
          have hm : rMark cur ⟨xk, xn, xs, xa, xb⟩ = cur := by unfold rMark; rw [if_neg c5, if_neg c6]
          rw [hm] at hcd
          (((repeat (first | (with_reducible apply Wp.step; case h => ((try simp (disch := omega) only [↓reduceIte, ask_true, ↓X0, X1, Nat.reduceEqDiff, Int.reduceEq, Nat.reduceAdd, Nat.reduceSub, X2, Hp_ne, Nat.reduceLeDiff, e2, e5, e8, hge, hix, hH, hfo, ht, hb', g, c5, c6', c7', hw]); with_reducible exact rfl)) | (apply Wp.andS) | (apply Wp.orS) | ((with_reducible first | apply Wp.gs | apply Wp.cs | apply Wp.cselX | apply Wp.askT | apply Wp.iteKT | apply Wp.ikb | apply Wp.askb); case h => ((try simp (disch := omega) only [↓reduceIte, ask_true, ↓X0, X1, Nat.reduceEqDiff, Int.reduceEq, Nat.reduceAdd, Nat.reduceSub, X2, Hp_ne, Nat.reduceLeDiff, e2, e5, e8, hge, hix, hH, hfo, ht, hb', g, c5, c6', c7', hw]); (with_reducible first | done | exact bT | exact bF))) | (with_reducible apply Wp.gu) | (simp only [↓X3]) | (simp (disch := decide) only [asks_nil, asks_in, asks_out, askB_nil, askB_in, askB_out]) | (with_reducible apply Wp.assoc))); try simp only [outOf_exit, outOf_ret]); try (with_reducible apply Wp.cargs; case h => ((try simp (disch := omega) only [↓reduceIte, ask_true, ↓X0, X1, Nat.reduceEqDiff, Int.reduceEq, Nat.reduceAdd, Nat.reduceSub, X2, Hp_ne, Nat.reduceLeDiff, e2, e5, e8, hge, hix, hH, hfo, ht, hb', g, c5, c6', c7', hw]); with_reducible exact rfl)))
          exact Wp.pure (Nxt.go d (by omega) ⟨cur, by omega, by omega, (by intros; first | with_reducible rfl | simp (disch := omega) only [Hp_ne, Hp_same, s1]), by simp [put_at, e2], by simp [put_at, e5], by simp [put_at], hcl, hcd, hH2⟩)
    · have ht' : gi cur (d : Int) = false := by simpa using ht
      rw [if_neg ht] at hcd
      (((repeat (first | (with_reducible apply Wp.step; case h => ((try simp (disch := omega) only [↓reduceIte, ask_true, ↓X0, X1, Nat.reduceEqDiff, Int.reduceEq, Nat.reduceAdd, Nat.reduceSub, X2, Hp_ne, Nat.reduceLeDiff, e2, e5, e8, hge, hix, hH, hfo, ht', hb', g, hw, Nd.cells]); with_reducible exact rfl)) | (apply Wp.andS) | (apply Wp.orS) | ((with_reducible first | apply Wp.gs | apply Wp.cs | apply Wp.cselX | apply Wp.askT | apply Wp.iteKT | apply Wp.ikb | apply Wp.askb); case h => ((try simp (disch := omega) only [↓reduceIte, ask_true, ↓X0, X1, Nat.reduceEqDiff, Int.reduceEq, Nat.reduceAdd, Nat.reduceSub, X2, Hp_ne, Nat.reduceLeDiff, e2, e5, e8, hge, hix, hH, hfo, ht', hb', g, hw, Nd.cells]); (with_reducible first | done | exact bT | exact bF))) | (with_reducible apply Wp.gu) | (simp only [↓X3]) | (simp (disch := decide) only [asks_nil, asks_in, asks_out, askB_nil, askB_in, askB_out]) | (with_reducible apply Wp.assoc))); try simp only [outOf_exit, outOf_ret]); try (with_reducible apply Wp.cargs; case h => ((try simp (disch := omega) only [↓reduceIte, ask_true, ↓X0, X1, Nat.reduceEqDiff, Int.reduceEq, Nat.reduceAdd, Nat.reduceSub, X2, Hp_ne, Nat.reduceLeDiff, e2, e5, e8, hge, hix, hH, hfo, ht', hb', g, hw, Nd.cells]); with_reducible exact rfl)))
      exact Wp.pure (Nxt.go d (by omega) ⟨cur, by omega, by omega, (by intros; first | with_reducible rfl | simp (disch := omega) only [Hp_ne, Hp_same, s1]), by simp [put_at, e2], by simp [put_at, e5], by simp [put_at], hcl, hcd, by rw [Hp_ne _ _ (by omega)]; exact hH⟩)
  · have hd0 : d = 0 := by omega
    subst hd0
    (((repeat (first | (with_reducible apply Wp.step; case h => ((try simp (disch := omega) only [↓reduceIte, ask_true, ↓X0, X1, Nat.reduceEqDiff, Int.reduceEq, Nat.reduceAdd, Nat.reduceSub, e8, (show ¬ (0 : Int) ≤ ((0 : Nat) : Int) - 1 by omega)]); with_reducible exact rfl)) | (apply Wp.andS) | (apply Wp.orS) | ((with_reducible first | apply Wp.gs | apply Wp.cs | apply Wp.cselX | apply Wp.askT | apply Wp.iteKT | apply Wp.ikb | apply Wp.askb); case h => ((try simp (disch := omega) only [↓reduceIte, ask_true, ↓X0, X1, Nat.reduceEqDiff, Int.reduceEq, Nat.reduceAdd, Nat.reduceSub, e8, (show ¬ (0 : Int) ≤ ((0 : Nat) : Int) - 1 by omega)]); (with_reducible first | done | exact bT | exact bF))) | (with_reducible apply Wp.gu) | (simp only [↓X3]) | (simp (disch := decide) only [asks_nil, asks_in, asks_out, askB_nil, askB_in, askB_out]) | (with_reducible apply Wp.assoc))); try simp only [outOf_exit, outOf_ret]); try (with_reducible apply Wp.cargs; case h => ((try simp (disch := omega) only [↓reduceIte, ask_true, ↓X0, X1, Nat.reduceEqDiff, Int.reduceEq, Nat.reduceAdd, Nat.reduceSub, e8, (show ¬ (0 : Int) ≤ ((0 : Nat) : Int) - 1 by omega)]); with_reducible exact rfl)))
    rw [← hcd]
    exact Wp.pure (Nxt.exit ⟨by simp only; omega, s1, rfl, by simp [put_at, e5], hH⟩)
theorem k60 {n : Nat} {H : Hp} {v w : Value} {l : List Nd} {roots : List Int} (hv : Li eNode n H v l) (hp : PoolOk l) (hw : Li eInt n H w roots) (hr : ∀ r ∈ roots, 0 ≤ r ∧ r < (l.length : Int)) (hl : roots.length ≤ 1048576) : RtN Try.prog 60 [.agg ⟨[v]⟩, w] H n (fun r H' n' => ∃ id, n ≤ id ∧ id < n' ∧ r = sl id 0 l.length ∧ H' id = some (.row ((reachM l roots).flatMap eBool.cells) 1 true)) := by
  apply RtN.mk
  rw [c60]; unfold S60
  have hl2 := hp.2
  have hm : ∀ H : Hp, mks (n + 5) 1 1 [.bool false] (.int .i64 l.length) (.int .i64 l.length) H = some (sl (n + 5) 0 l.length, H.set (n + 5) (some (.row ((List.replicate l.length false).flatMap eBool.cells) 1 true))) := fun H => mks_new eBool false H (by decide) (by omega)
  (((repeat (first | (with_reducible apply Wp.step; case h => ((try simp (disch := omega) only [↓reduceIte, ask_true, ↓X0, X1, Nat.reduceEqDiff, Int.reduceEq, Nat.reduceAdd, Nat.reduceSub, X2, Hp_ne, Nat.reduceLeDiff, argsT_at, hv.len, hw.len, hm]); with_reducible exact rfl)) | (apply Wp.andS) | (apply Wp.orS) | ((with_reducible first | apply Wp.gs | apply Wp.cs | apply Wp.cselX | apply Wp.askT | apply Wp.iteKT | apply Wp.ikb | apply Wp.askb); case h => ((try simp (disch := omega) only [↓reduceIte, ask_true, ↓X0, X1, Nat.reduceEqDiff, Int.reduceEq, Nat.reduceAdd, Nat.reduceSub, X2, Hp_ne, Nat.reduceLeDiff, argsT_at, hv.len, hw.len, hm]); (with_reducible first | done | exact bT | exact bF))) | (with_reducible apply Wp.gu) | (simp only [↓X3]) | (simp (disch := decide) only [asks_nil, asks_in, asks_out, askB_nil, askB_in, askB_out]) | (with_reducible apply Wp.assoc))); try simp only [outOf_exit, outOf_ret]); try (with_reducible apply Wp.cargs; case h => ((try simp (disch := omega) only [↓reduceIte, ask_true, ↓X0, X1, Nat.reduceEqDiff, Int.reduceEq, Nat.reduceAdd, Nat.reduceSub, X2, Hp_ne, Nat.reduceLeDiff, argsT_at, hv.len, hw.len, hm]); with_reducible exact rfl)))
  refine Wp.bind (l060 (n0 := n + 1) (id := n + 5) (H0 := H.set n (some (.row [v] 0 true))) (hw.mv (by omega) (by intros; first | with_reducible rfl | simp (disch := omega) only [Hp_ne, Hp_same])) (by omega) hr hl _ _ _ (by omega) (by intros; first | with_reducible rfl | simp (disch := omega) only [Hp_ne, Hp_same]) (by simp [put_at]) (by simp [put_at, argsT_at]) (by simp [put_at]) (Hp_same _ _ _)) ?_
  rintro ⟨oe, ot, oH, on⟩ ⟨f1, f2, rfl, f3, f4, f5⟩
  simp only at f1 f2 f3 f4 f5
  simp only [put_at, Nat.reduceEqDiff, if_false, if_true] at f3
  have hbx : oH n = some (.row [v] 0 true) := by simp (disch := omega) only [f2, Hp_same]
  have hlv := (hv.mv (H' := oH) (Nat.le_refl _) (by intros; first | with_reducible rfl | simp (disch := omega) only [Hp_ne, Hp_same, f2])).len
  have hws : IntKind.i64.wrap ((l.length : Int) - 1) = (l.length : Int) - 1 := w64 (by omega)
  (((repeat (first | (with_reducible apply Wp.step; case h => ((try simp (disch := omega) only [↓reduceIte, ask_true, ↓X0, X1, Nat.reduceEqDiff, Int.reduceEq, Nat.reduceAdd, Nat.reduceSub, X2, Hp_ne, Nat.reduceLeDiff, f3, hbx, hlv, hws]); with_reducible exact rfl)) | (apply Wp.andS) | (apply Wp.orS) | ((with_reducible first | apply Wp.gs | apply Wp.cs | apply Wp.cselX | apply Wp.askT | apply Wp.iteKT | apply Wp.ikb | apply Wp.askb); case h => ((try simp (disch := omega) only [↓reduceIte, ask_true, ↓X0, X1, Nat.reduceEqDiff, Int.reduceEq, Nat.reduceAdd, Nat.reduceSub, X2, Hp_ne, Nat.reduceLeDiff, f3, hbx, hlv, hws]); (with_reducible first | done | exact bT | exact bF))) | (with_reducible apply Wp.gu) | (simp only [↓X3]) | (simp (disch := decide) only [asks_nil, asks_in, asks_out, askB_nil, askB_in, askB_out]) | (with_reducible apply Wp.assoc))); try simp only [outOf_exit, outOf_ret]); try (with_reducible apply Wp.cargs; case h => ((try simp (disch := omega) only [↓reduceIte, ask_true, ↓X0, X1, Nat.reduceEqDiff, Int.reduceEq, Nat.reduceAdd, Nat.reduceSub, X2, Hp_ne, Nat.reduceLeDiff, f3, hbx, hlv, hws]); with_reducible exact rfl)))
  refine Wp.bind (l160 (n0 := n + 1) (id := n + 5) (b := n) (H0 := H.set n (some (.row [v] 0 true))) (hv.mv (by omega) (by intros; first | with_reducible rfl | simp (disch := omega) only [Hp_ne, Hp_same])) hp (by omega) (by omega) (Hp_same _ _ _) (rRoots l.length roots) (rRoots_len _ _) _ _ _ (by omega) f2 (by simp [put_at, f3]) (by simp [put_at, f4]) (by simp [put_at]) f5) ?_
  rintro ⟨oe, ot, oH, on⟩ ⟨g1, g2, rfl, g3, g4⟩
  simp only at g1 g2 g3 g4
  (((repeat (first | (with_reducible apply Wp.step; case h => ((try simp (disch := omega) only [↓reduceIte, ask_true, ↓X0, X1, Nat.reduceEqDiff, Int.reduceEq, Nat.reduceAdd, Nat.reduceSub, g3]); with_reducible exact rfl)) | (apply Wp.andS) | (apply Wp.orS) | ((with_reducible first | apply Wp.gs | apply Wp.cs | apply Wp.cselX | apply Wp.askT | apply Wp.iteKT | apply Wp.ikb | apply Wp.askb); case h => ((try simp (disch := omega) only [↓reduceIte, ask_true, ↓X0, X1, Nat.reduceEqDiff, Int.reduceEq, Nat.reduceAdd, Nat.reduceSub, g3]); (with_reducible first | done | exact bT | exact bF))) | (with_reducible apply Wp.gu) | (simp only [↓X3]) | (simp (disch := decide) only [asks_nil, asks_in, asks_out, askB_nil, askB_in, askB_out]) | (with_reducible apply Wp.assoc))); try simp only [outOf_exit, outOf_ret]); try (with_reducible apply Wp.cargs; case h => ((try simp (disch := omega) only [↓reduceIte, ask_true, ↓X0, X1, Nat.reduceEqDiff, Int.reduceEq, Nat.reduceAdd, Nat.reduceSub, g3]); with_reducible exact rfl)))
  exact Wp.pure ⟨by simp only; omega, (by intros; first | with_reducible rfl | simp (disch := omega) only [Hp_ne, Hp_same, g2]), n + 5, by omega, by simp only; omega, g3, g4⟩
/-! ### Right roots -/
def rootsB (l : List Nd) (roots : List Int) : Bool := decide (PoolOk l) && roots.all (fun r => decide (0 ≤ r ∧ r < (l.length : Int)))
theorem rootsB_iff (l : List Nd) (roots : List Int) : rootsB l roots = true ↔ PoolOk l ∧ ∀ r ∈ roots, 0 ≤ r ∧ r < (l.length : Int) := by simp [rootsB]
end Go.Proofs.Ytdnokdgkccnbnaa.Ax
