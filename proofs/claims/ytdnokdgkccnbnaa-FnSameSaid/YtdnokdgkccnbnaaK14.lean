/- Contracts: which values are alike. -/
import Derived.Test.YtdnokdgkccnbnaaAy7
import Derived.Test.YtdnokdgkccnbnaaK10
set_option linter.unusedVariables false
set_option linter.unusedSimpArgs false
namespace Go.Proofs.Ytdnokdgkccnbnaa.Ax
open Go
/-- A node with its parts' classes for its parts. -/
def clKey (out : List Int) (x : Nd) : Nd := if x.k = 5 then ⟨x.k, x.n, x.s, gi out x.a, gi out x.b⟩ else if x.k = 6 ∨ x.k = 7 then ⟨x.k, x.n, x.s, gi out x.a, x.b⟩ else x
def nIdx (y : Nd) (ks : List Nd) : Option Nat := ks.findIdx? (fun z => decide (z = y))
def clOf (ks : List Nd) (y : Nd) : Int := match nIdx y ks with | some k => (k : Int) | none => (ks.length : Int)
def clStep (st : List Nd × List Int) (x : Nd) : List Nd × List Int := (st.1 ++ [clKey st.2 x], st.2 ++ [clOf st.1 (clKey st.2 x)])
def clRun (l : List Nd) : List Nd × List Int := l.foldl clStep ([], [])
/-- Of each node the number of the first one that is alike. -/
def classes (l : List Nd) : List Int := (clRun l).2
theorem clRun_snoc (l : List Nd) (x : Nd) : clRun (l ++ [x]) = clStep (clRun l) x := by simp [clRun, List.foldl_append]
theorem clRun_len (l : List Nd) : (clRun l).1.length = l.length ∧ (clRun l).2.length = l.length := by
  suffices ∀ (m : List Nd) (st : List Nd × List Int), (m.foldl clStep st).1.length = st.1.length + m.length ∧ (m.foldl clStep st).2.length = st.2.length + m.length by simpa [clRun] using this l ([], [])
  intro m
  induction m with
  | nil => intro st; simp
  | cons x m ih => intro st; rw [List.foldl_cons]; have := ih (clStep st x); simp [clStep] at this ⊢; omega
theorem clRun_take {l : List Nd} {j : Nat} (hj : j < l.length) : clRun (l.take (j + 1)) = clStep (clRun (l.take j)) (gi l (j : Int)) := by
  rw [take_next hj, clRun_snoc, gi_nat hj]
theorem classes_len (l : List Nd) : (classes l).length = l.length := (clRun_len l).2
theorem nIdx_snoc (y x : Nd) (ks : List Nd) : nIdx y (ks ++ [x]) = (nIdx y ks).or (if x = y then some ks.length else none) := by
  unfold nIdx
  rw [List.findIdx?_append]
  congr 1
  by_cases h : x = y <;> simp [h]
theorem nIdx_lt {y : Nd} {ks : List Nd} {k : Nat} (h : nIdx y ks = some k) : k < ks.length := by
  have := List.findIdx?_eq_some_iff_getElem.1 h
  exact this.1
theorem clOf_rng (ks : List Nd) (y : Nd) : 0 ≤ clOf ks y ∧ clOf ks y ≤ ks.length := by
  unfold clOf
  split
  · rename_i k h
    have := nIdx_lt h
    omega
  · omega
abbrev nfs : List (Nat × TypeDesc) := [(0, (.int .i64)), (1, (.int .i64)), (2, .string), (3, (.int .i64)), (4, (.int .i64))]
theorem node_agg (x y : Nd) : aggEq nfs (.agg ⟨x.cells⟩) (.agg ⟨y.cells⟩) = some (decide (x = y)) := by
  have := node_eql x.k x.n x.s x.a x.b y.k y.n y.s y.a y.b
  have h2 : (aggEq nfs (.agg ⟨x.cells⟩) (.agg ⟨y.cells⟩)).bind (fun b => some (Value.bool b)) = some (.bool (decide (x.k = y.k ∧ x.n = y.n ∧ x.s = y.s ∧ x.a = y.a ∧ x.b = y.b))) := this
  cases h : aggEq nfs (.agg ⟨x.cells⟩) (.agg ⟨y.cells⟩) with
  | none => rw [h] at h2; cases h2
  | some b =>
    rw [h] at h2
    simp only [Option.bind_some, Option.some.injEq, Value.bool.injEq] at h2
    rw [h2]
    congr 1
    apply decide_eq_decide.2
    constructor
    · rintro ⟨a, b, c, d, e⟩; cases x; cases y; simp_all
    · rintro rfl; exact ⟨rfl, rfl, rfl, rfl, rfl⟩
theorem node_binK (x y : Nd) : binK (.agg nfs) .eql (.agg ⟨x.cells⟩) (.agg ⟨y.cells⟩) = some (.bool (decide (x = y))) := by
  show eqV .eql (aggEq nfs (.agg ⟨x.cells⟩) (.agg ⟨y.cells⟩)) = _
  rw [node_agg]; rfl
/-! ### The map of the first ones -/
def cFind (y : Nd) : List (Nd × Int) → Option Int
  | [] => none
  | (x, i) :: m => if y = x then some i else cFind y m
def cEnc (m : List (Nd × Int)) : List (Value × Value) := m.map fun p => (.agg ⟨p.1.cells⟩, .int .i64 p.2)
theorem findK_enc (y : Nd) : ∀ m : List (Nd × Int), findK nfs (.agg ⟨y.cells⟩) (cEnc m) = some ((cFind y m).map (Value.int .i64))
  | [] => rfl
  | (x, i) :: m => by
    show ((aggEq nfs (.agg ⟨y.cells⟩) (.agg ⟨x.cells⟩)).bind fun b => if b then some (some (.int .i64 i)) else findK nfs (.agg ⟨y.cells⟩) (cEnc m)) = _
    rw [node_agg, Option.bind_some]
    unfold cFind
    by_cases h : y = x
    · simp [h]
    · simp [h, findK_enc y m]
theorem cFind_snoc (y x : Nd) (i : Int) : ∀ m : List (Nd × Int), cFind y (m ++ [(x, i)]) = (cFind y m).or (if y = x then some i else none)
  | [] => by simp [cFind]
  | (z, k) :: m => by
    rw [List.cons_append]
    unfold cFind
    by_cases h : y = z
    · simp [h]
    · simp [h, cFind_snoc y x i m]
theorem look_enc {H : Hp} {i : Nat} {m : List (Nd × Int)} (y : Nd) (h : H i = some (.map (cEnc m))) : lookV nfs (.int .i64 0) true (.map (some i)) (.agg ⟨y.cells⟩) H = some (.tuple ⟨[.int .i64 ((cFind y m).getD 0), .bool (cFind y m).isSome]⟩) := by
  simp only [lookV, h, node_agg, findK_enc, Option.bind_some]
  cases cFind y m <;> rfl
theorem upd_enc {H : Hp} {i : Nat} {m : List (Nd × Int)} (y : Nd) (k : Int) (h : H i = some (.map (cEnc m))) (hn : cFind y m = none) : updV nfs (.map (some i)) (.agg ⟨y.cells⟩) (.int .i64 k) H = some (H.set i (some (.map (cEnc (m ++ [(y, k)]))))) := by
  simp only [updV, h, node_agg, findK_enc, Option.bind_some, hn]
  simp [aggV, isCell, cEnc]
/-- The map has of each key the first place. -/
def First (m : List (Nd × Int)) (ks : List Nd) : Prop := ∀ y, cFind y m = (nIdx y ks).map (fun k => (k : Int))
theorem First.none {m : List (Nd × Int)} {ks : List Nd} (h : First m ks) {y : Nd} (hn : cFind y m = none) : First (m ++ [(y, (ks.length : Int))]) (ks ++ [y]) ∧ clOf ks y = ks.length := by
  have h1 := h y
  rw [hn] at h1
  have h2 : nIdx y ks = Option.none := by
    cases h3 : nIdx y ks with
    | none => rfl
    | some q => rw [h3] at h1; cases h1
  refine ⟨fun z => ?_, by unfold clOf; rw [h2]⟩
  rw [cFind_snoc, nIdx_snoc, h z]
  by_cases hz : z = y
  · subst hz; simp [h2]
  · rw [if_neg hz, if_neg (Ne.symm hz)]; simp
theorem First.some {m : List (Nd × Int)} {ks : List Nd} (h : First m ks) {y : Nd} {k : Int} (hs : cFind y m = some k) : First m (ks ++ [y]) ∧ clOf ks y = k := by
  have h1 := h y
  rw [hs] at h1
  cases h3 : nIdx y ks with
  | none => rw [h3] at h1; cases h1
  | some q =>
    rw [h3] at h1
    refine ⟨fun z => ?_, by unfold clOf; rw [h3]; simpa using h1.symm⟩
    rw [nIdx_snoc, h z]
    by_cases hz : z = y
    · subst hz; simp [h3]
    · rw [if_neg (Ne.symm hz)]; simp
theorem flat_i {l : List Int} {i : Int} (h0 : 0 ≤ i) (h1 : i < l.length) : (l.flatMap eInt.cells)[i.toNat]? = some (.int .i64 (gi l i)) := by
  have := flat_cell eInt (l := l) (j := i.toNat) (f := 0) (by omega) (by decide)
  rw [Nat.mul_one, Nat.add_zero] at this
  rw [this, gi_at h0 h1]; rfl
theorem l42 {n0 mid id0 : Nat} {H0 : Hp} {v : Value} {l : List Nd} (hv : Li eNode n0 H0 v l) (hp : PoolOk l) : ∀ t H n, n0 ≤ n → (∀ i, i < n0 → H i = H0 i) → n0 ≤ mid → mid < n → n0 ≤ id0 → id0 < n → mid ≠ id0 → t 3 = .map (some mid) → t 12 = v → t 13 = .int .i64 l.length → t 14 = .int .i64 0 → t 4 = sl id0 0 0 → H id0 = some (.row [] 1 true) → H mid = some (.map []) →
    Wp (Loop (S42L0 (Call Try.prog) Loop) t H n) (fun o => n ≤ o.n ∧ (∀ i, i < n0 → o.H i = H0 i) ∧ o.e = .exit 0 ∧ ∃ id, n0 ≤ id ∧ id < o.n ∧ o.t 4 = sl id 0 (classes l).length ∧ o.H id = some (.row ((classes l).flatMap eInt.cells) 1 true)) := by
  intro t H n hn0 s0 hm1 hm2 hi1 hi2 hmi e3 e12 e13 e14 e4 hid hmid
  have hl := hp.2
  refine Loop_rule (fun d T H' n' => ∃ (j id : Nat) (m : List (Nd × Int)), j + d = l.length ∧ n ≤ n' ∧ (∀ i, i < n0 → H' i = H0 i) ∧ T 3 = .map (some mid) ∧ T 12 = v ∧ T 13 = .int .i64 l.length ∧ T 14 = .int .i64 j ∧ n0 ≤ id ∧ id < n' ∧ mid ≠ id ∧ T 4 = sl id 0 (clRun (l.take j)).2.length ∧ H' id = some (.row ((clRun (l.take j)).2.flatMap eInt.cells) 1 true) ∧ H' mid = some (.map (cEnc m)) ∧ First m (clRun (l.take j)).1) _ ?_ l.length t H n ⟨0, id0, [], by omega, by omega, s0, e3, e12, e13, e14, hi1, hi2, hmi, e4, hid, hmid, fun y => rfl⟩
  rintro d T H' n' ⟨j, id, m, hj, hn, s1, e3, e12, e13, e14, hi1, hi2, hmi, e4, hid, hmid, hfst⟩
  unfold S42L0
  by_cases hlt : (j : Int) < l.length
  · have hlt' : j < l.length := by omega
    have g := (hv.mv (Nat.le_refl _) s1).nAll (by omega) hlt
    have hw := wj (j := j) (len := l.length) hlt' (by omega)
    have hok := hp.at (v := (j : Int)) (by omega) hlt
    have hst := clRun_take hlt'
    obtain ⟨hlen1, hlen2⟩ := clRun_len (l.take j)
    rw [List.length_take, Nat.min_eq_left (by omega)] at hlen1 hlen2
    generalize hA : clRun (l.take j) = A at *
    generalize hx : gi l (j : Int) = x at *
    have h5 : x.k = 5 → (0 ≤ x.a ∧ x.a < (A.2.length : Int)) ∧ (0 ≤ x.b ∧ x.b < (A.2.length : Int)) := fun h => by have := hok.pair h; omega
    have h6 : x.k = 6 ∨ x.k = 7 → 0 ≤ x.a ∧ x.a < (A.2.length : Int) := fun h => by have := hok.one h; omega
    obtain ⟨xk, xn, xs, xa, xb⟩ := x
    simp only [Nd.cells] at g h5 h6
    (((repeat (first | (with_reducible apply Wp.step; case h => ((try simp (disch := omega) only [↓reduceIte, ask_true, ↓X0, X1, Nat.reduceEqDiff, Int.reduceEq, Nat.reduceAdd, Nat.reduceSub, X2, Hp_ne, Nat.reduceLeDiff, e3, e4, e12, e13, e14, hlt, g]); with_reducible exact rfl)) | (apply Wp.andS) | (apply Wp.orS) | ((with_reducible first | apply Wp.gs | apply Wp.cs | apply Wp.cselX | apply Wp.askT | apply Wp.iteKT | apply Wp.ikb | apply Wp.askb); case h => ((try simp (disch := omega) only [↓reduceIte, ask_true, ↓X0, X1, Nat.reduceEqDiff, Int.reduceEq, Nat.reduceAdd, Nat.reduceSub, X2, Hp_ne, Nat.reduceLeDiff, e3, e4, e12, e13, e14, hlt, g]); (with_reducible first | done | exact bT | exact bF))) | (with_reducible apply Wp.gu) | (simp only [↓X3]) | (simp (disch := decide) only [asks_nil, asks_in, asks_out, askB_nil, askB_in, askB_out]) | (with_reducible apply Wp.assoc))); try simp only [outOf_exit, outOf_ret]); try (with_reducible apply Wp.cargs; case h => ((try simp (disch := omega) only [↓reduceIte, ask_true, ↓X0, X1, Nat.reduceEqDiff, Int.reduceEq, Nat.reduceAdd, Nat.reduceSub, X2, Hp_ne, Nat.reduceLeDiff, e3, e4, e12, e13, e14, hlt, g]); with_reducible exact rfl)))
    refine Wp.bind (R := fun (o : Out) => o.e = .normal ∧ n' + 4 < o.n ∧ (∀ i, i < n' + 4 → o.H i = H' i) ∧ o.t 3 = .map (some mid) ∧ o.t 12 = v ∧ o.t 13 = .int .i64 l.length ∧ o.t 14 = .int .i64 j ∧ o.t 4 = sl id 0 A.2.length ∧ o.t 5 = .int .i64 j ∧ o.t 6 = ptr (n' + 4) 0 ∧ o.H (n' + 4) = some (.row (clKey A.2 ⟨xk, xn, xs, xa, xb⟩).cells 0 true)) ?_ ?_
    · by_cases c5 : xk = 5
      · have ho := h5 c5
        have ia := idx_sli (sz := 1) (id := id) (k := .i64) ho.1.1 ho.1.2
        have ib := idx_sli (sz := 1) (id := id) (k := .i64) ho.2.1 ho.2.2
        have fa := flat_i (l := A.2) ho.1.1 ho.1.2
        have fb := flat_i (l := A.2) ho.2.1 ho.2.2
        rw [Nat.mul_one] at ia ib
        subst c5
        (((repeat (first | (with_reducible apply Wp.step; case h => ((try simp (disch := omega) only [↓reduceIte, ask_true, ↓X0, X1, Nat.reduceEqDiff, Int.reduceEq, Nat.reduceAdd, Nat.reduceSub, X2, Hp_ne, Nat.reduceLeDiff, e3, e4, e12, e13, e14, ia, ib, hid, fa, fb]); with_reducible exact rfl)) | (apply Wp.andS) | (apply Wp.orS) | ((with_reducible first | apply Wp.gs | apply Wp.cs | apply Wp.cselX | apply Wp.askT | apply Wp.iteKT | apply Wp.ikb | apply Wp.askb); case h => ((try simp (disch := omega) only [↓reduceIte, ask_true, ↓X0, X1, Nat.reduceEqDiff, Int.reduceEq, Nat.reduceAdd, Nat.reduceSub, X2, Hp_ne, Nat.reduceLeDiff, e3, e4, e12, e13, e14, ia, ib, hid, fa, fb]); (with_reducible first | done | exact bT | exact bF))) | (with_reducible apply Wp.gu) | (simp only [↓X3]) | (simp (disch := decide) only [asks_nil, asks_in, asks_out, askB_nil, askB_in, askB_out]) | (with_reducible apply Wp.assoc))); try simp only [outOf_exit, outOf_ret]); try (with_reducible apply Wp.cargs; case h => ((try simp (disch := omega) only [↓reduceIte, ask_true, ↓X0, X1, Nat.reduceEqDiff, Int.reduceEq, Nat.reduceAdd, Nat.reduceSub, X2, Hp_ne, Nat.reduceLeDiff, e3, e4, e12, e13, e14, ia, ib, hid, fa, fb]); with_reducible exact rfl)))
        exact Wp.pure ⟨rfl, by simp only; omega, (by intros; first | with_reducible rfl | simp (disch := omega) only [Hp_ne, Hp_same]), by simp [put_at, e3], by simp [put_at, e12], by simp [put_at, e13], by simp [put_at, e14], by simp [put_at, e4], by simp [put_at, e14], by simp [put_at], by simp only [Hp_same, clKey, Nd.cells, if_true]⟩
      · by_cases c6 : xk = 6 ∨ xk = 7
        · have ho := h6 c6
          have ia := idx_sli (sz := 1) (id := id) (k := .i64) ho.1 ho.2
          have fa := flat_i (l := A.2) ho.1 ho.2
          rw [Nat.mul_one] at ia
          rcases c6 with c6 | c6
          · subst c6
            (((repeat (first | (with_reducible apply Wp.step; case h => ((try simp (disch := omega) only [↓reduceIte, ask_true, ↓X0, X1, Nat.reduceEqDiff, Int.reduceEq, Nat.reduceAdd, Nat.reduceSub, X2, Hp_ne, Nat.reduceLeDiff, e3, e4, e12, e13, e14, ia, hid, fa]); with_reducible exact rfl)) | (apply Wp.andS) | (apply Wp.orS) | ((with_reducible first | apply Wp.gs | apply Wp.cs | apply Wp.cselX | apply Wp.askT | apply Wp.iteKT | apply Wp.ikb | apply Wp.askb); case h => ((try simp (disch := omega) only [↓reduceIte, ask_true, ↓X0, X1, Nat.reduceEqDiff, Int.reduceEq, Nat.reduceAdd, Nat.reduceSub, X2, Hp_ne, Nat.reduceLeDiff, e3, e4, e12, e13, e14, ia, hid, fa]); (with_reducible first | done | exact bT | exact bF))) | (with_reducible apply Wp.gu) | (simp only [↓X3]) | (simp (disch := decide) only [asks_nil, asks_in, asks_out, askB_nil, askB_in, askB_out]) | (with_reducible apply Wp.assoc))); try simp only [outOf_exit, outOf_ret]); try (with_reducible apply Wp.cargs; case h => ((try simp (disch := omega) only [↓reduceIte, ask_true, ↓X0, X1, Nat.reduceEqDiff, Int.reduceEq, Nat.reduceAdd, Nat.reduceSub, X2, Hp_ne, Nat.reduceLeDiff, e3, e4, e12, e13, e14, ia, hid, fa]); with_reducible exact rfl)))
            exact Wp.pure ⟨rfl, by simp only; omega, (by intros; first | with_reducible rfl | simp (disch := omega) only [Hp_ne, Hp_same]), by simp [put_at, e3], by simp [put_at, e12], by simp [put_at, e13], by simp [put_at, e14], by simp [put_at, e4], by simp [put_at, e14], by simp [put_at], by simp only [Hp_same, clKey, Nd.cells]; simp⟩
          · subst c6
            (((repeat (first | (with_reducible apply Wp.step; case h => ((try simp (disch := omega) only [↓reduceIte, ask_true, ↓X0, X1, Nat.reduceEqDiff, Int.reduceEq, Nat.reduceAdd, Nat.reduceSub, X2, Hp_ne, Nat.reduceLeDiff, e3, e4, e12, e13, e14, ia, hid, fa]); with_reducible exact rfl)) | (apply Wp.andS) | (apply Wp.orS) | ((with_reducible first | apply Wp.gs | apply Wp.cs | apply Wp.cselX | apply Wp.askT | apply Wp.iteKT | apply Wp.ikb | apply Wp.askb); case h => ((try simp (disch := omega) only [↓reduceIte, ask_true, ↓X0, X1, Nat.reduceEqDiff, Int.reduceEq, Nat.reduceAdd, Nat.reduceSub, X2, Hp_ne, Nat.reduceLeDiff, e3, e4, e12, e13, e14, ia, hid, fa]); (with_reducible first | done | exact bT | exact bF))) | (with_reducible apply Wp.gu) | (simp only [↓X3]) | (simp (disch := decide) only [asks_nil, asks_in, asks_out, askB_nil, askB_in, askB_out]) | (with_reducible apply Wp.assoc))); try simp only [outOf_exit, outOf_ret]); try (with_reducible apply Wp.cargs; case h => ((try simp (disch := omega) only [↓reduceIte, ask_true, ↓X0, X1, Nat.reduceEqDiff, Int.reduceEq, Nat.reduceAdd, Nat.reduceSub, X2, Hp_ne, Nat.reduceLeDiff, e3, e4, e12, e13, e14, ia, hid, fa]); with_reducible exact rfl)))
            exact Wp.pure ⟨rfl, by simp only; omega, (by intros; first | with_reducible rfl | simp (disch := omega) only [Hp_ne, Hp_same]), by simp [put_at, e3], by simp [put_at, e12], by simp [put_at, e13], by simp [put_at, e14], by simp [put_at, e4], by simp [put_at, e14], by simp [put_at], by simp only [Hp_same, clKey, Nd.cells]; simp⟩
        · have c6' : ¬ xk = 6 := fun h => c6 (.inl h)
          have c7' : ¬ xk = 7 := fun h => c6 (.inr h)
          (((repeat (first | (with_reducible apply Wp.step; case h => ((try simp (disch := omega) only [↓reduceIte, ask_true, ↓X0, X1, Nat.reduceEqDiff, Int.reduceEq, Nat.reduceAdd, Nat.reduceSub, X2, Hp_ne, Nat.reduceLeDiff, e3, e4, e12, e13, e14, c5, c6', c7']); with_reducible exact rfl)) | (apply Wp.andS) | (apply Wp.orS) | ((with_reducible first | apply Wp.gs | apply Wp.cs | apply Wp.cselX | apply Wp.askT | apply Wp.iteKT | apply Wp.ikb | apply Wp.askb); case h => ((try simp (disch := omega) only [↓reduceIte, ask_true, ↓X0, X1, Nat.reduceEqDiff, Int.reduceEq, Nat.reduceAdd, Nat.reduceSub, X2, Hp_ne, Nat.reduceLeDiff, e3, e4, e12, e13, e14, c5, c6', c7']); (with_reducible first | done | exact bT | exact bF))) | (with_reducible apply Wp.gu) | (simp only [↓X3]) | (simp (disch := decide) only [asks_nil, asks_in, asks_out, askB_nil, askB_in, askB_out]) | (with_reducible apply Wp.assoc))); try simp only [outOf_exit, outOf_ret]); try (with_reducible apply Wp.cargs; case h => ((try simp (disch := omega) only [↓reduceIte, ask_true, ↓X0, X1, Nat.reduceEqDiff, Int.reduceEq, Nat.reduceAdd, Nat.reduceSub, X2, Hp_ne, Nat.reduceLeDiff, e3, e4, e12, e13, e14, c5, c6', c7']); with_reducible exact rfl)))
          exact Wp.pure ⟨rfl, by simp only; omega, (by intros; first | with_reducible rfl | simp (disch := omega) only [Hp_ne, Hp_same]), by simp [put_at, e3], by simp [put_at, e12], by simp [put_at, e13], by simp [put_at, e14], by simp [put_at, e4], by simp [put_at, e14], by simp [put_at], by simp only [Hp_same, clKey, Nd.cells, c5, c6', c7', or_self, if_false]⟩
    · rintro ⟨oe, ot, oH, on⟩ ⟨rfl, f2, f3, f4, f5, f6, f7, f8, f9, f10, f11⟩
      simp only at f2 f3 f4 f5 f6 f7 f8 f9 f10 f11
      generalize hy : clKey A.2 ⟨xk, xn, xs, xa, xb⟩ = y at *
      have hmid' : oH mid = some (.map (cEnc m)) := by rw [f3 mid (by omega)]; exact hmid
      have hid' : oH id = some (.row (A.2.flatMap eInt.cells) 1 true) := by rw [f3 id (by omega)]; exact hid
      have hlk := look_enc y hmid'
      have hldA : ld true 5 (ptr (n' + 4) 0) oH = some (.agg ⟨y.cells⟩) := by rw [ldA_box f11]; rfl
      have fin : ∀ (TT : Tm) (H3 : Hp) (M id' : Nat) (m' : List (Nd × Int)), n' ≤ M → (∀ i, i < n0 → H3 i = H0 i) → TT 3 = .map (some mid) → TT 12 = v → TT 13 = .int .i64 l.length → TT 14 = .int .i64 ((j + 1 : Nat) : Int) → n0 ≤ id' → id' < M → mid ≠ id' → TT 4 = sl id' 0 (A.2 ++ [clOf A.1 y]).length → H3 id' = some (.row ((A.2 ++ [clOf A.1 y]).flatMap eInt.cells) 1 true) → H3 mid = some (.map (cEnc m')) → First m' (A.1 ++ [y]) →
          Wp (some ⟨.normal, TT, H3, M⟩) (Nxt (fun d T H' n' => ∃ (j id : Nat) (m : List (Nd × Int)), j + d = l.length ∧ n ≤ n' ∧ (∀ i, i < n0 → H' i = H0 i) ∧ T 3 = .map (some mid) ∧ T 12 = v ∧ T 13 = .int .i64 l.length ∧ T 14 = .int .i64 j ∧ n0 ≤ id ∧ id < n' ∧ mid ≠ id ∧ T 4 = sl id 0 (clRun (l.take j)).2.length ∧ H' id = some (.row ((clRun (l.take j)).2.flatMap eInt.cells) 1 true) ∧ H' mid = some (.map (cEnc m)) ∧ First m (clRun (l.take j)).1) d (fun o => n ≤ o.n ∧ (∀ i, i < n0 → o.H i = H0 i) ∧ o.e = .exit 0 ∧ ∃ id, n0 ≤ id ∧ id < o.n ∧ o.t 4 = sl id 0 (classes l).length ∧ o.H id = some (.row ((classes l).flatMap eInt.cells) 1 true))) := by
        intro TT H3 M id' m' g1 g2 g3 g4 g5 g6 g7 g8 g9 g10 g11 g12 g13
        refine Wp.pure (Nxt.go (d - 1) (by omega) ⟨j + 1, id', m', by omega, by omega, g2, g3, g4, g5, g6, g7, g8, g9, ?_, ?_, g12, ?_⟩)
        · rw [hst, ← hA, clStep, hA, hy]; exact g10
        · rw [hst, ← hA, clStep, hA, hy]; exact g11
        · rw [hst, ← hA, clStep, hA, hy]; exact g13
      cases hc : cFind y m with
      | none =>
        obtain ⟨q1, q2⟩ := hfst.none hc
        have hup := upd_enc y j hmid' hc
        rw [hc] at hlk
        have hidu : (oH.set mid (some (.map (cEnc (m ++ [(y, (j : Int))]))))) id = some (.row (A.2.flatMap eInt.cells) 1 true) := by rw [Hp_ne _ _ (Ne.symm hmi)]; exact hid'
        (((repeat (first | (with_reducible apply Wp.step; case h => ((try simp (disch := omega) only [↓reduceIte, ask_true, ↓X0, X1, Nat.reduceEqDiff, Int.reduceEq, Nat.reduceAdd, Nat.reduceSub, X2, Hp_ne, Nat.reduceLeDiff, f4, f5, f6, f7, f8, f9, f10, hldA, hlk, Option.getD_none, Option.isSome_none, hup, bsl_i]); with_reducible exact rfl)) | (apply Wp.andS) | (apply Wp.orS) | ((with_reducible first | apply Wp.gs | apply Wp.cs | apply Wp.cselX | apply Wp.askT | apply Wp.iteKT | apply Wp.ikb | apply Wp.askb); case h => ((try simp (disch := omega) only [↓reduceIte, ask_true, ↓X0, X1, Nat.reduceEqDiff, Int.reduceEq, Nat.reduceAdd, Nat.reduceSub, X2, Hp_ne, Nat.reduceLeDiff, f4, f5, f6, f7, f8, f9, f10, hldA, hlk, Option.getD_none, Option.isSome_none, hup, bsl_i]); (with_reducible first | done | exact bT | exact bF))) | (with_reducible apply Wp.gu) | (simp only [↓X3]) | (simp (disch := decide) only [asks_nil, asks_in, asks_out, askB_nil, askB_in, askB_out]) | (with_reducible apply Wp.assoc))); try simp only [outOf_exit, outOf_ret]); try (with_reducible apply Wp.cargs; case h => ((try simp (disch := omega) only [↓reduceIte, ask_true, ↓X0, X1, Nat.reduceEqDiff, Int.reduceEq, Nat.reduceAdd, Nat.reduceSub, X2, Hp_ne, Nat.reduceLeDiff, f4, f5, f6, f7, f8, f9, f10, hldA, hlk, Option.getD_none, Option.isSome_none, hup, bsl_i]); with_reducible exact rfl)))
        refine Wp.app1 (E := eInt) (j : Int) (.inr ⟨by simp [put_at, f8], hidu⟩) (by omega) (by decide) (by omega) ?_
        intro H4 r1 r2
        (((repeat (first | (with_reducible apply Wp.step; case h => ((try simp (disch := omega) only [↓reduceIte, ask_true, ↓X0, X1, Nat.reduceEqDiff, Int.reduceEq, Nat.reduceAdd, Nat.reduceSub, f7, hw]); with_reducible exact rfl)) | (apply Wp.andS) | (apply Wp.orS) | ((with_reducible first | apply Wp.gs | apply Wp.cs | apply Wp.cselX | apply Wp.askT | apply Wp.iteKT | apply Wp.ikb | apply Wp.askb); case h => ((try simp (disch := omega) only [↓reduceIte, ask_true, ↓X0, X1, Nat.reduceEqDiff, Int.reduceEq, Nat.reduceAdd, Nat.reduceSub, f7, hw]); (with_reducible first | done | exact bT | exact bF))) | (with_reducible apply Wp.gu) | (simp only [↓X3]) | (simp (disch := decide) only [asks_nil, asks_in, asks_out, askB_nil, askB_in, askB_out]) | (with_reducible apply Wp.assoc))); try simp only [outOf_exit, outOf_ret]); try (with_reducible apply Wp.cargs; case h => ((try simp (disch := omega) only [↓reduceIte, ask_true, ↓X0, X1, Nat.reduceEqDiff, Int.reduceEq, Nat.reduceAdd, Nat.reduceSub, f7, hw]); with_reducible exact rfl)))
        rw [hlen1] at q1 q2
        rw [← q2] at r1
        refine fin _ _ _ _ (m ++ [(y, (j : Int))]) ?_ ?_ ?_ ?_ ?_ ?_ ?_ ?_ ?_ ?_ r1 ?_ q1
        · omega
        · intro i hi; simp (disch := omega) only [r2, Hp_ne, f3, s1]
        · simp [put_at, f4]
        · simp [put_at, f5]
        · simp [put_at, f6]
        · simp [put_at]
        · omega
        · omega
        · omega
        · simp [put_at]
        · simp (disch := omega) only [r2, Hp_ne, Hp_same]
      | some k =>
        obtain ⟨q1, q2⟩ := hfst.some hc
        rw [hc] at hlk
        (((repeat (first | (with_reducible apply Wp.step; case h => ((try simp (disch := omega) only [↓reduceIte, ask_true, ↓X0, X1, Nat.reduceEqDiff, Int.reduceEq, Nat.reduceAdd, Nat.reduceSub, X2, Hp_ne, Nat.reduceLeDiff, f4, f5, f6, f7, f8, f9, f10, hldA, hlk, Option.getD_some, Option.isSome_some, bsl_i]); with_reducible exact rfl)) | (apply Wp.andS) | (apply Wp.orS) | ((with_reducible first | apply Wp.gs | apply Wp.cs | apply Wp.cselX | apply Wp.askT | apply Wp.iteKT | apply Wp.ikb | apply Wp.askb); case h => ((try simp (disch := omega) only [↓reduceIte, ask_true, ↓X0, X1, Nat.reduceEqDiff, Int.reduceEq, Nat.reduceAdd, Nat.reduceSub, X2, Hp_ne, Nat.reduceLeDiff, f4, f5, f6, f7, f8, f9, f10, hldA, hlk, Option.getD_some, Option.isSome_some, bsl_i]); (with_reducible first | done | exact bT | exact bF))) | (with_reducible apply Wp.gu) | (simp only [↓X3]) | (simp (disch := decide) only [asks_nil, asks_in, asks_out, askB_nil, askB_in, askB_out]) | (with_reducible apply Wp.assoc))); try simp only [outOf_exit, outOf_ret]); try (with_reducible apply Wp.cargs; case h => ((try simp (disch := omega) only [↓reduceIte, ask_true, ↓X0, X1, Nat.reduceEqDiff, Int.reduceEq, Nat.reduceAdd, Nat.reduceSub, X2, Hp_ne, Nat.reduceLeDiff, f4, f5, f6, f7, f8, f9, f10, hldA, hlk, Option.getD_some, Option.isSome_some, bsl_i]); with_reducible exact rfl)))
        refine Wp.app1 (E := eInt) k (.inr ⟨by simp [put_at, f8], hid'⟩) (by omega) (by decide) (by omega) ?_
        intro H4 r1 r2
        (((repeat (first | (with_reducible apply Wp.step; case h => ((try simp (disch := omega) only [↓reduceIte, ask_true, ↓X0, X1, Nat.reduceEqDiff, Int.reduceEq, Nat.reduceAdd, Nat.reduceSub, f7, hw]); with_reducible exact rfl)) | (apply Wp.andS) | (apply Wp.orS) | ((with_reducible first | apply Wp.gs | apply Wp.cs | apply Wp.cselX | apply Wp.askT | apply Wp.iteKT | apply Wp.ikb | apply Wp.askb); case h => ((try simp (disch := omega) only [↓reduceIte, ask_true, ↓X0, X1, Nat.reduceEqDiff, Int.reduceEq, Nat.reduceAdd, Nat.reduceSub, f7, hw]); (with_reducible first | done | exact bT | exact bF))) | (with_reducible apply Wp.gu) | (simp only [↓X3]) | (simp (disch := decide) only [asks_nil, asks_in, asks_out, askB_nil, askB_in, askB_out]) | (with_reducible apply Wp.assoc))); try simp only [outOf_exit, outOf_ret]); try (with_reducible apply Wp.cargs; case h => ((try simp (disch := omega) only [↓reduceIte, ask_true, ↓X0, X1, Nat.reduceEqDiff, Int.reduceEq, Nat.reduceAdd, Nat.reduceSub, f7, hw]); with_reducible exact rfl)))
        rw [← q2] at r1
        refine fin _ _ _ _ m ?_ ?_ ?_ ?_ ?_ ?_ ?_ ?_ ?_ ?_ r1 ?_ q1
        · omega
        · intro i hi; simp (disch := omega) only [r2, f3, s1]
        · simp [put_at, f4]
        · simp [put_at, f5]
        · simp [put_at, f6]
        · simp [put_at]
        · omega
        · omega
        · omega
        · simp [put_at]
        · rw [r2 mid (by omega) (by omega) (by omega)]; exact hmid'
  · (((repeat (first | (with_reducible apply Wp.step; case h => ((try simp (disch := omega) only [↓reduceIte, ask_true, ↓X0, X1, Nat.reduceEqDiff, Int.reduceEq, Nat.reduceAdd, Nat.reduceSub, e12, e13, e14, hlt]); with_reducible exact rfl)) | (apply Wp.andS) | (apply Wp.orS) | ((with_reducible first | apply Wp.gs | apply Wp.cs | apply Wp.cselX | apply Wp.askT | apply Wp.iteKT | apply Wp.ikb | apply Wp.askb); case h => ((try simp (disch := omega) only [↓reduceIte, ask_true, ↓X0, X1, Nat.reduceEqDiff, Int.reduceEq, Nat.reduceAdd, Nat.reduceSub, e12, e13, e14, hlt]); (with_reducible first | done | exact bT | exact bF))) | (with_reducible apply Wp.gu) | (simp only [↓X3]) | (simp (disch := decide) only [asks_nil, asks_in, asks_out, askB_nil, askB_in, askB_out]) | (with_reducible apply Wp.assoc))); try simp only [outOf_exit, outOf_ret]); try (with_reducible apply Wp.cargs; case h => ((try simp (disch := omega) only [↓reduceIte, ask_true, ↓X0, X1, Nat.reduceEqDiff, Int.reduceEq, Nat.reduceAdd, Nat.reduceSub, e12, e13, e14, hlt]); with_reducible exact rfl)))
    rw [List.take_of_length_le (by omega)] at e4 hid
    exact Wp.pure (Nxt.exit ⟨Nat.le_trans hn (Nat.le_add_right _ _), s1, rfl, id, hi1, by simp only; omega, by simp [put_at, e4, classes], hid⟩)
theorem k42 {n : Nat} {H : Hp} {v : Value} {l : List Nd} (hv : Li eNode n H v l) (hp : PoolOk l) : RtN Try.prog 42 [.agg ⟨[v]⟩] H n (fun r H' n' => New eInt n n' H' r (classes l)) := by
  apply RtN.mk
  rw [c42]; unfold S42
  (((repeat (first | (with_reducible apply Wp.step; case h => ((try simp (disch := omega) only [↓reduceIte, ask_true, ↓X0, X1, Nat.reduceEqDiff, Int.reduceEq, Nat.reduceAdd, Nat.reduceSub, X2, Hp_ne, Nat.reduceLeDiff, bsl_zero, hv.len]); with_reducible exact rfl)) | (apply Wp.andS) | (apply Wp.orS) | ((with_reducible first | apply Wp.gs | apply Wp.cs | apply Wp.cselX | apply Wp.askT | apply Wp.iteKT | apply Wp.ikb | apply Wp.askb); case h => ((try simp (disch := omega) only [↓reduceIte, ask_true, ↓X0, X1, Nat.reduceEqDiff, Int.reduceEq, Nat.reduceAdd, Nat.reduceSub, X2, Hp_ne, Nat.reduceLeDiff, bsl_zero, hv.len]); (with_reducible first | done | exact bT | exact bF))) | (with_reducible apply Wp.gu) | (simp only [↓X3]) | (simp (disch := decide) only [asks_nil, asks_in, asks_out, askB_nil, askB_in, askB_out]) | (with_reducible apply Wp.assoc))); try simp only [outOf_exit, outOf_ret]); try (with_reducible apply Wp.cargs; case h => ((try simp (disch := omega) only [↓reduceIte, ask_true, ↓X0, X1, Nat.reduceEqDiff, Int.reduceEq, Nat.reduceAdd, Nat.reduceSub, X2, Hp_ne, Nat.reduceLeDiff, bsl_zero, hv.len]); with_reducible exact rfl)))
  refine Wp.bind (l42 (n0 := n) (H0 := H) (mid := n + 2) (id0 := n + 4) hv hp _ _ _ (by omega) (by intros; first | with_reducible rfl | simp (disch := omega) only [Hp_ne, Hp_same]) (by omega) (by omega) (by omega) (by omega) (by omega) (by simp [put_at]) (by simp [put_at]) (by simp [put_at]) (by simp [put_at]) (by simp [put_at]) (by intros; first | with_reducible rfl | simp (disch := omega) only [Hp_ne, Hp_same]) (by intros; first | with_reducible rfl | simp (disch := omega) only [Hp_ne, Hp_same])) ?_
  rintro ⟨oe, ot, oH, on⟩ ⟨f1, f2, rfl, id, f3, f4, f5, f6⟩
  simp only at f1 f2 f3 f4 f5 f6
  (((repeat (first | (with_reducible apply Wp.step; case h => ((try simp (disch := omega) only [↓reduceIte, ask_true, ↓X0, X1, Nat.reduceEqDiff, Int.reduceEq, Nat.reduceAdd, Nat.reduceSub, f5]); with_reducible exact rfl)) | (apply Wp.andS) | (apply Wp.orS) | ((with_reducible first | apply Wp.gs | apply Wp.cs | apply Wp.cselX | apply Wp.askT | apply Wp.iteKT | apply Wp.ikb | apply Wp.askb); case h => ((try simp (disch := omega) only [↓reduceIte, ask_true, ↓X0, X1, Nat.reduceEqDiff, Int.reduceEq, Nat.reduceAdd, Nat.reduceSub, f5]); (with_reducible first | done | exact bT | exact bF))) | (with_reducible apply Wp.gu) | (simp only [↓X3]) | (simp (disch := decide) only [asks_nil, asks_in, asks_out, askB_nil, askB_in, askB_out]) | (with_reducible apply Wp.assoc))); try simp only [outOf_exit, outOf_ret]); try (with_reducible apply Wp.cargs; case h => ((try simp (disch := omega) only [↓reduceIte, ask_true, ↓X0, X1, Nat.reduceEqDiff, Int.reduceEq, Nat.reduceAdd, Nat.reduceSub, f5]); with_reducible exact rfl)))
  exact Wp.pure ⟨by simp only; omega, f2, id, f3, by simp only; omega, .inr ⟨f5, f6⟩⟩
theorem nIdx_first {y : Nd} {ks : List Nd} {k : Nat} (hk : k < ks.length) (he : ks[k] = y) (hn : ∀ q (hq : q < ks.length), q < k → ks[q] ≠ y) : nIdx y ks = some k := by
  refine List.findIdx?_eq_some_iff_getElem.2 ⟨hk, by simpa using he, fun q hq => by simpa using hn q (by omega) hq⟩
theorem nIdx_none {y : Nd} {ks : List Nd} (hn : ∀ q (hq : q < ks.length), ks[q] ≠ y) : nIdx y ks = none := by
  refine List.findIdx?_eq_none_iff.2 fun x hx => ?_
  obtain ⟨q, hq, rfl⟩ := List.mem_iff_getElem.1 hx
  simpa using hn q hq
theorem bsl_z5 (id : Nat) (H : Hp) : bsl id 5 0 [.int .i64 0, .int .i64 0, .string ⟨#[]⟩, .int .i64 0, .int .i64 0] [] H = some (sl id 0 0, H.set id (some (.row [] 5 true))) := bsl_zn _ _ _ _ rfl
theorem l143 {b c : Nat} {H : Hp} {v : Value} {ks : List Nd} {y : Nd} (hv : Li eNode b H v ks) (hc : H c = some (.row y.cells 0 true)) (hl : ks.length ≤ 1000000) : ∀ t n, t 4 = v → t 5 = .int .i64 ks.length → t 6 = ptr c 0 → t 7 = .int .i64 ks.length → t 8 = .int .i64 0 →
    Wp (Loop (S43L1 (Call Try.prog) Loop) t H n) (fun o => n ≤ o.n ∧ o.H = H ∧ o.e = .exit 3 ∧ o.t 7 = .int .i64 (clOf ks y) ∧ o.t 1 = t 1 ∧ o.t 3 = t 3 ∧ o.t 4 = t 4 ∧ o.t 5 = t 5 ∧ o.t 6 = t 6) := by
  intro t n e4 e5 e6 e7 e8
  refine Loop_rule (fun d T H' n' => ∃ k : Nat, k + d = ks.length ∧ n ≤ n' ∧ H' = H ∧ T 7 = .int .i64 ks.length ∧ T 8 = .int .i64 k ∧ (∀ q (hq : q < ks.length), q < k → ks[q] ≠ y) ∧ T 1 = t 1 ∧ T 3 = t 3 ∧ T 4 = t 4 ∧ T 5 = t 5 ∧ T 6 = t 6) _ ?_ ks.length t H n ⟨0, by omega, by omega, rfl, e7, e8, by omega, rfl, rfl, rfl, rfl, rfl⟩
  rintro d T H' n' ⟨k, hk, hn, rfl, f7, f8, hno, f1, f3, f4, f5, f6⟩
  unfold S43L1
  by_cases hlt : (k : Int) < ks.length
  · have hlt' : k < ks.length := by omega
    have g := hv.nAll (by omega) hlt
    have hw := wj (j := k) (len := ks.length) hlt' (by omega)
    have hld : ld true 5 (ptr c 0) H' = some (.agg ⟨y.cells⟩) := by rw [ldA_box hc]; rfl
    by_cases he : gi ks (k : Int) = y
    · (((repeat (first | (with_reducible apply Wp.step; case h => ((try simp (disch := omega) only [↓reduceIte, ask_true, ↓X0, X1, Nat.reduceEqDiff, Int.reduceEq, Nat.reduceAdd, Nat.reduceSub, f4, f5, f6, f7, f8, e4, e5, e6, hlt, g, hld, node_binK, he]); with_reducible exact rfl)) | (apply Wp.andS) | (apply Wp.orS) | ((with_reducible first | apply Wp.gs | apply Wp.cs | apply Wp.cselX | apply Wp.askT | apply Wp.iteKT | apply Wp.ikb | apply Wp.askb); case h => ((try simp (disch := omega) only [↓reduceIte, ask_true, ↓X0, X1, Nat.reduceEqDiff, Int.reduceEq, Nat.reduceAdd, Nat.reduceSub, f4, f5, f6, f7, f8, e4, e5, e6, hlt, g, hld, node_binK, he]); (with_reducible first | done | exact bT | exact bF))) | (with_reducible apply Wp.gu) | (simp only [↓X3]) | (simp (disch := decide) only [asks_nil, asks_in, asks_out, askB_nil, askB_in, askB_out]) | (with_reducible apply Wp.assoc))); try simp only [outOf_exit, outOf_ret]); try (with_reducible apply Wp.cargs; case h => ((try simp (disch := omega) only [↓reduceIte, ask_true, ↓X0, X1, Nat.reduceEqDiff, Int.reduceEq, Nat.reduceAdd, Nat.reduceSub, f4, f5, f6, f7, f8, e4, e5, e6, hlt, g, hld, node_binK, he]); with_reducible exact rfl)))
      rw [gi_nat hlt'] at he
      refine Wp.pure (Nxt.exit ⟨by simp only; omega, rfl, rfl, ?_, by simp [put_at, f1], by simp [put_at, f3], by simp [put_at, f4], by simp [put_at, f5], by simp [put_at, f6]⟩)
      simp [put_at, f8, clOf, nIdx_first hlt' he hno]
    · (((repeat (first | (with_reducible apply Wp.step; case h => ((try simp (disch := omega) only [↓reduceIte, ask_true, ↓X0, X1, Nat.reduceEqDiff, Int.reduceEq, Nat.reduceAdd, Nat.reduceSub, f4, f5, f6, f7, f8, e4, e5, e6, hlt, g, hld, node_binK, he, hw]); with_reducible exact rfl)) | (apply Wp.andS) | (apply Wp.orS) | ((with_reducible first | apply Wp.gs | apply Wp.cs | apply Wp.cselX | apply Wp.askT | apply Wp.iteKT | apply Wp.ikb | apply Wp.askb); case h => ((try simp (disch := omega) only [↓reduceIte, ask_true, ↓X0, X1, Nat.reduceEqDiff, Int.reduceEq, Nat.reduceAdd, Nat.reduceSub, f4, f5, f6, f7, f8, e4, e5, e6, hlt, g, hld, node_binK, he, hw]); (with_reducible first | done | exact bT | exact bF))) | (with_reducible apply Wp.gu) | (simp only [↓X3]) | (simp (disch := decide) only [asks_nil, asks_in, asks_out, askB_nil, askB_in, askB_out]) | (with_reducible apply Wp.assoc))); try simp only [outOf_exit, outOf_ret]); try (with_reducible apply Wp.cargs; case h => ((try simp (disch := omega) only [↓reduceIte, ask_true, ↓X0, X1, Nat.reduceEqDiff, Int.reduceEq, Nat.reduceAdd, Nat.reduceSub, f4, f5, f6, f7, f8, e4, e5, e6, hlt, g, hld, node_binK, he, hw]); with_reducible exact rfl)))
      rw [gi_nat hlt'] at he
      refine Wp.pure (Nxt.go (d - 1) (by omega) ⟨k + 1, by omega, by omega, rfl, by simp [put_at, f7], by simp [put_at], ?_, by simp [put_at, f1], by simp [put_at, f3], by simp [put_at, f4], by simp [put_at, f5], by simp [put_at, f6]⟩)
      intro q hq hqk
      by_cases hqe : q = k
      · subst hqe; exact he
      · exact hno q hq (by omega)
  · (((repeat (first | (with_reducible apply Wp.step; case h => ((try simp (disch := omega) only [↓reduceIte, ask_true, ↓X0, X1, Nat.reduceEqDiff, Int.reduceEq, Nat.reduceAdd, Nat.reduceSub, f5, f8, e5, hlt]); with_reducible exact rfl)) | (apply Wp.andS) | (apply Wp.orS) | ((with_reducible first | apply Wp.gs | apply Wp.cs | apply Wp.cselX | apply Wp.askT | apply Wp.iteKT | apply Wp.ikb | apply Wp.askb); case h => ((try simp (disch := omega) only [↓reduceIte, ask_true, ↓X0, X1, Nat.reduceEqDiff, Int.reduceEq, Nat.reduceAdd, Nat.reduceSub, f5, f8, e5, hlt]); (with_reducible first | done | exact bT | exact bF))) | (with_reducible apply Wp.gu) | (simp only [↓X3]) | (simp (disch := decide) only [asks_nil, asks_in, asks_out, askB_nil, askB_in, askB_out]) | (with_reducible apply Wp.assoc))); try simp only [outOf_exit, outOf_ret]); try (with_reducible apply Wp.cargs; case h => ((try simp (disch := omega) only [↓reduceIte, ask_true, ↓X0, X1, Nat.reduceEqDiff, Int.reduceEq, Nat.reduceAdd, Nat.reduceSub, f5, f8, e5, hlt]); with_reducible exact rfl)))
    refine Wp.pure (Nxt.exit ⟨by simp only; omega, rfl, rfl, ?_, by simp [put_at, f1], by simp [put_at, f3], by simp [put_at, f4], by simp [put_at, f5], by simp [put_at, f6]⟩)
    simp [put_at, f7, clOf, nIdx_none (fun q hq => hno q hq (by omega))]
theorem l43 {n0 b ik0 io0 : Nat} {H0 : Hp} {v : Value} {l : List Nd} (hv : Li eNode n0 H0 v l) (hp : PoolOk l) (hb0 : b < n0) (hb : H0 b = some (.row [v] 0 true)) : ∀ t H n, n0 ≤ n → (∀ i, i < n0 → H i = H0 i) → n0 ≤ ik0 → ik0 < n → n0 ≤ io0 → io0 < n → ik0 ≠ io0 → t 1 = ptr b 0 → t 5 = .int .i64 0 → t 3 = sl io0 0 0 → t 4 = sl ik0 0 0 → H io0 = some (.row [] 1 true) → H ik0 = some (.row [] 5 true) →
    Wp (Loop (S43L0 (Call Try.prog) Loop) t H n) (fun o => n ≤ o.n ∧ (∀ i, i < n0 → o.H i = H0 i) ∧ o.e = .exit 0 ∧ ∃ id, n0 ≤ id ∧ id < o.n ∧ o.t 3 = sl id 0 (classes l).length ∧ o.H id = some (.row ((classes l).flatMap eInt.cells) 1 true)) := by
  intro t H n hn0 s0 hm1 hm2 hi1 hi2 hmi e1 e5 e3 e4 hio hik
  have hl := hp.2
  refine Loop_rule (fun d T H' n' => ∃ (j io ik : Nat), j + d = l.length ∧ n ≤ n' ∧ (∀ i, i < n0 → H' i = H0 i) ∧ T 1 = ptr b 0 ∧ T 5 = .int .i64 j ∧ n0 ≤ io ∧ io < n' ∧ n0 ≤ ik ∧ ik < n' ∧ ik ≠ io ∧ T 3 = sl io 0 (clRun (l.take j)).2.length ∧ T 4 = sl ik 0 (clRun (l.take j)).1.length ∧ H' io = some (.row ((clRun (l.take j)).2.flatMap eInt.cells) 1 true) ∧ H' ik = some (.row ((clRun (l.take j)).1.flatMap eNode.cells) 5 true)) _ ?_ l.length t H n ⟨0, io0, ik0, by omega, by omega, s0, e1, e5, hi1, hi2, hm1, hm2, hmi, e3, e4, hio, hik⟩
  rintro d T H' n' ⟨j, io, ik, hj, hn, s1, e1, e5, hi1, hi2, hm1, hm2, hmi, e3, e4, hio, hik⟩
  unfold S43L0
  have hb' : H' b = some (.row [v] 0 true) := by rw [s1 b hb0]; exact hb
  by_cases hlt : (j : Int) < l.length
  · have hlt' : j < l.length := by omega
    have g := (hv.mv (Nat.le_refl _) s1).nAll (by omega) hlt
    have hw := wj (j := j) (len := l.length) hlt' (by omega)
    have hok := hp.at (v := (j : Int)) (by omega) hlt
    have hst := clRun_take hlt'
    obtain ⟨hlen1, hlen2⟩ := clRun_len (l.take j)
    rw [List.length_take, Nat.min_eq_left (by omega)] at hlen1 hlen2
    generalize hA : clRun (l.take j) = A at *
    generalize hx : gi l (j : Int) = x at *
    have h5 : x.k = 5 → (0 ≤ x.a ∧ x.a < (A.2.length : Int)) ∧ (0 ≤ x.b ∧ x.b < (A.2.length : Int)) := fun h => by have := hok.pair h; omega
    have h6 : x.k = 6 ∨ x.k = 7 → 0 ≤ x.a ∧ x.a < (A.2.length : Int) := fun h => by have := hok.one h; omega
    obtain ⟨xk, xn, xs, xa, xb⟩ := x
    simp only [Nd.cells] at g h5 h6
    (((repeat (first | (with_reducible apply Wp.step; case h => ((try simp (disch := omega) only [↓reduceIte, ask_true, ↓X0, X1, Nat.reduceEqDiff, Int.reduceEq, Nat.reduceAdd, Nat.reduceSub, X2, Hp_ne, Nat.reduceLeDiff, e1, e3, e4, e5, hb', hlt, (hv.mv (Nat.le_refl _) s1).len, g]); with_reducible exact rfl)) | (apply Wp.andS) | (apply Wp.orS) | ((with_reducible first | apply Wp.gs | apply Wp.cs | apply Wp.cselX | apply Wp.askT | apply Wp.iteKT | apply Wp.ikb | apply Wp.askb); case h => ((try simp (disch := omega) only [↓reduceIte, ask_true, ↓X0, X1, Nat.reduceEqDiff, Int.reduceEq, Nat.reduceAdd, Nat.reduceSub, X2, Hp_ne, Nat.reduceLeDiff, e1, e3, e4, e5, hb', hlt, (hv.mv (Nat.le_refl _) s1).len, g]); (with_reducible first | done | exact bT | exact bF))) | (with_reducible apply Wp.gu) | (simp only [↓X3]) | (simp (disch := decide) only [asks_nil, asks_in, asks_out, askB_nil, askB_in, askB_out]) | (with_reducible apply Wp.assoc))); try simp only [outOf_exit, outOf_ret]); try (with_reducible apply Wp.cargs; case h => ((try simp (disch := omega) only [↓reduceIte, ask_true, ↓X0, X1, Nat.reduceEqDiff, Int.reduceEq, Nat.reduceAdd, Nat.reduceSub, X2, Hp_ne, Nat.reduceLeDiff, e1, e3, e4, e5, hb', hlt, (hv.mv (Nat.le_refl _) s1).len, g]); with_reducible exact rfl)))
    refine Wp.bind (R := fun (o : Out) => o.e = .normal ∧ n' + 10 < o.n ∧ (∀ i, i < n' + 10 → o.H i = H' i) ∧ o.t 1 = ptr b 0 ∧ o.t 5 = .int .i64 j ∧ o.t 3 = sl io 0 A.2.length ∧ o.t 4 = sl ik 0 A.1.length ∧ o.t 6 = ptr (n' + 10) 0 ∧ o.H (n' + 10) = some (.row (clKey A.2 ⟨xk, xn, xs, xa, xb⟩).cells 0 true)) ?_ ?_
    · by_cases c5 : xk = 5
      · have ho := h5 c5
        have ia := idx_sli (sz := 1) (id := io) (k := .i64) ho.1.1 ho.1.2
        have ib := idx_sli (sz := 1) (id := io) (k := .i64) ho.2.1 ho.2.2
        have fa := flat_i (l := A.2) ho.1.1 ho.1.2
        have fb := flat_i (l := A.2) ho.2.1 ho.2.2
        rw [Nat.mul_one] at ia ib
        subst c5
        (((repeat (first | (with_reducible apply Wp.step; case h => ((try simp (disch := omega) only [↓reduceIte, ask_true, ↓X0, X1, Nat.reduceEqDiff, Int.reduceEq, Nat.reduceAdd, Nat.reduceSub, X2, Hp_ne, Nat.reduceLeDiff, e1, e3, e4, e5, ia, ib, hio, fa, fb]); with_reducible exact rfl)) | (apply Wp.andS) | (apply Wp.orS) | ((with_reducible first | apply Wp.gs | apply Wp.cs | apply Wp.cselX | apply Wp.askT | apply Wp.iteKT | apply Wp.ikb | apply Wp.askb); case h => ((try simp (disch := omega) only [↓reduceIte, ask_true, ↓X0, X1, Nat.reduceEqDiff, Int.reduceEq, Nat.reduceAdd, Nat.reduceSub, X2, Hp_ne, Nat.reduceLeDiff, e1, e3, e4, e5, ia, ib, hio, fa, fb]); (with_reducible first | done | exact bT | exact bF))) | (with_reducible apply Wp.gu) | (simp only [↓X3]) | (simp (disch := decide) only [asks_nil, asks_in, asks_out, askB_nil, askB_in, askB_out]) | (with_reducible apply Wp.assoc))); try simp only [outOf_exit, outOf_ret]); try (with_reducible apply Wp.cargs; case h => ((try simp (disch := omega) only [↓reduceIte, ask_true, ↓X0, X1, Nat.reduceEqDiff, Int.reduceEq, Nat.reduceAdd, Nat.reduceSub, X2, Hp_ne, Nat.reduceLeDiff, e1, e3, e4, e5, ia, ib, hio, fa, fb]); with_reducible exact rfl)))
        exact Wp.pure ⟨rfl, by simp only; omega, (by intros; first | with_reducible rfl | simp (disch := omega) only [Hp_ne, Hp_same]), by simp [put_at, e1], by simp [put_at, e5], by simp [put_at, e3], by simp [put_at, e4], by simp [put_at], by simp only [Hp_same, clKey, Nd.cells, if_true]⟩
      · by_cases c6 : xk = 6 ∨ xk = 7
        · have ho := h6 c6
          have ia := idx_sli (sz := 1) (id := io) (k := .i64) ho.1 ho.2
          have fa := flat_i (l := A.2) ho.1 ho.2
          rw [Nat.mul_one] at ia
          rcases c6 with c6 | c6
          · subst c6
            (((repeat (first | (with_reducible apply Wp.step; case h => ((try simp (disch := omega) only [↓reduceIte, ask_true, ↓X0, X1, Nat.reduceEqDiff, Int.reduceEq, Nat.reduceAdd, Nat.reduceSub, X2, Hp_ne, Nat.reduceLeDiff, e1, e3, e4, e5, ia, hio, fa]); with_reducible exact rfl)) | (apply Wp.andS) | (apply Wp.orS) | ((with_reducible first | apply Wp.gs | apply Wp.cs | apply Wp.cselX | apply Wp.askT | apply Wp.iteKT | apply Wp.ikb | apply Wp.askb); case h => ((try simp (disch := omega) only [↓reduceIte, ask_true, ↓X0, X1, Nat.reduceEqDiff, Int.reduceEq, Nat.reduceAdd, Nat.reduceSub, X2, Hp_ne, Nat.reduceLeDiff, e1, e3, e4, e5, ia, hio, fa]); (with_reducible first | done | exact bT | exact bF))) | (with_reducible apply Wp.gu) | (simp only [↓X3]) | (simp (disch := decide) only [asks_nil, asks_in, asks_out, askB_nil, askB_in, askB_out]) | (with_reducible apply Wp.assoc))); try simp only [outOf_exit, outOf_ret]); try (with_reducible apply Wp.cargs; case h => ((try simp (disch := omega) only [↓reduceIte, ask_true, ↓X0, X1, Nat.reduceEqDiff, Int.reduceEq, Nat.reduceAdd, Nat.reduceSub, X2, Hp_ne, Nat.reduceLeDiff, e1, e3, e4, e5, ia, hio, fa]); with_reducible exact rfl)))
            exact Wp.pure ⟨rfl, by simp only; omega, (by intros; first | with_reducible rfl | simp (disch := omega) only [Hp_ne, Hp_same]), by simp [put_at, e1], by simp [put_at, e5], by simp [put_at, e3], by simp [put_at, e4], by simp [put_at], by simp only [Hp_same, clKey, Nd.cells]; simp⟩
          · subst c6
            (((repeat (first | (with_reducible apply Wp.step; case h => ((try simp (disch := omega) only [↓reduceIte, ask_true, ↓X0, X1, Nat.reduceEqDiff, Int.reduceEq, Nat.reduceAdd, Nat.reduceSub, X2, Hp_ne, Nat.reduceLeDiff, e1, e3, e4, e5, ia, hio, fa]); with_reducible exact rfl)) | (apply Wp.andS) | (apply Wp.orS) | ((with_reducible first | apply Wp.gs | apply Wp.cs | apply Wp.cselX | apply Wp.askT | apply Wp.iteKT | apply Wp.ikb | apply Wp.askb); case h => ((try simp (disch := omega) only [↓reduceIte, ask_true, ↓X0, X1, Nat.reduceEqDiff, Int.reduceEq, Nat.reduceAdd, Nat.reduceSub, X2, Hp_ne, Nat.reduceLeDiff, e1, e3, e4, e5, ia, hio, fa]); (with_reducible first | done | exact bT | exact bF))) | (with_reducible apply Wp.gu) | (simp only [↓X3]) | (simp (disch := decide) only [asks_nil, asks_in, asks_out, askB_nil, askB_in, askB_out]) | (with_reducible apply Wp.assoc))); try simp only [outOf_exit, outOf_ret]); try (with_reducible apply Wp.cargs; case h => ((try simp (disch := omega) only [↓reduceIte, ask_true, ↓X0, X1, Nat.reduceEqDiff, Int.reduceEq, Nat.reduceAdd, Nat.reduceSub, X2, Hp_ne, Nat.reduceLeDiff, e1, e3, e4, e5, ia, hio, fa]); with_reducible exact rfl)))
            exact Wp.pure ⟨rfl, by simp only; omega, (by intros; first | with_reducible rfl | simp (disch := omega) only [Hp_ne, Hp_same]), by simp [put_at, e1], by simp [put_at, e5], by simp [put_at, e3], by simp [put_at, e4], by simp [put_at], by simp only [Hp_same, clKey, Nd.cells]; simp⟩
        · have c6' : ¬ xk = 6 := fun h => c6 (.inl h)
          have c7' : ¬ xk = 7 := fun h => c6 (.inr h)
          (((repeat (first | (with_reducible apply Wp.step; case h => ((try simp (disch := omega) only [↓reduceIte, ask_true, ↓X0, X1, Nat.reduceEqDiff, Int.reduceEq, Nat.reduceAdd, Nat.reduceSub, X2, Hp_ne, Nat.reduceLeDiff, e1, e3, e4, e5, c5, c6', c7']); with_reducible exact rfl)) | (apply Wp.andS) | (apply Wp.orS) | ((with_reducible first | apply Wp.gs | apply Wp.cs | apply Wp.cselX | apply Wp.askT | apply Wp.iteKT | apply Wp.ikb | apply Wp.askb); case h => ((try simp (disch := omega) only [↓reduceIte, ask_true, ↓X0, X1, Nat.reduceEqDiff, Int.reduceEq, Nat.reduceAdd, Nat.reduceSub, X2, Hp_ne, Nat.reduceLeDiff, e1, e3, e4, e5, c5, c6', c7']); (with_reducible first | done | exact bT | exact bF))) | (with_reducible apply Wp.gu) | (simp only [↓X3]) | (simp (disch := decide) only [asks_nil, asks_in, asks_out, askB_nil, askB_in, askB_out]) | (with_reducible apply Wp.assoc))); try simp only [outOf_exit, outOf_ret]); try (with_reducible apply Wp.cargs; case h => ((try simp (disch := omega) only [↓reduceIte, ask_true, ↓X0, X1, Nat.reduceEqDiff, Int.reduceEq, Nat.reduceAdd, Nat.reduceSub, X2, Hp_ne, Nat.reduceLeDiff, e1, e3, e4, e5, c5, c6', c7']); with_reducible exact rfl)))
          exact Wp.pure ⟨rfl, by simp only; omega, (by intros; first | with_reducible rfl | simp (disch := omega) only [Hp_ne, Hp_same]), by simp [put_at, e1], by simp [put_at, e5], by simp [put_at, e3], by simp [put_at, e4], by simp [put_at], by simp only [Hp_same, clKey, Nd.cells, c5, c6', c7', or_self, if_false]⟩
    · rintro ⟨oe, ot, oH, on⟩ ⟨rfl, f2, f3, f4, f5, f6, f7, f8, f9⟩
      simp only at f2 f3 f4 f5 f6 f7 f8 f9
      generalize hy : clKey A.2 ⟨xk, xn, xs, xa, xb⟩ = y at *
      have hio' : oH io = some (.row (A.2.flatMap eInt.cells) 1 true) := by rw [f3 io (by omega)]; exact hio
      have hik' : oH ik = some (.row (A.1.flatMap eNode.cells) 5 true) := by rw [f3 ik (by omega)]; exact hik
      have hak : At eNode ik oH (sl ik 0 A.1.length) A.1 := .inr ⟨rfl, hik'⟩
      refine Wp.bind (l143 (b := n') (hak.lst hm2) f9 (by omega) _ _ (by simp [put_at, f7]) (by simp [put_at, f5, hlen1]) (by simp [put_at, f8]) (by simp [put_at, f5, hlen1]) (by simp [put_at])) ?_
      rintro ⟨pe, pt, pH, pn⟩ ⟨g1, rfl, rfl, g4, g5, g6, g7, g8, g9⟩
      simp only at f3 g1 g4 g5 g6 g7 g8 g9
      simp only [put_at, Nat.reduceEqDiff, if_false, f4, f5, f6, f7, f8] at g5 g6 g7 g8 g9
      have hldA : ld true 5 (ptr (n' + 10) 0) pH = some (.agg ⟨y.cells⟩) := by rw [ldA_box f9]; rfl
      (((repeat (first | (with_reducible apply Wp.step; case h => ((try simp (disch := omega) only [↓reduceIte, ask_true, ↓X0, X1, Nat.reduceEqDiff, Int.reduceEq, Nat.reduceAdd, Nat.reduceSub, g4, g5, g6, g7, g8, g9, hldA, bsl_nc]); with_reducible exact rfl)) | (apply Wp.andS) | (apply Wp.orS) | ((with_reducible first | apply Wp.gs | apply Wp.cs | apply Wp.cselX | apply Wp.askT | apply Wp.iteKT | apply Wp.ikb | apply Wp.askb); case h => ((try simp (disch := omega) only [↓reduceIte, ask_true, ↓X0, X1, Nat.reduceEqDiff, Int.reduceEq, Nat.reduceAdd, Nat.reduceSub, g4, g5, g6, g7, g8, g9, hldA, bsl_nc]); (with_reducible first | done | exact bT | exact bF))) | (with_reducible apply Wp.gu) | (simp only [↓X3]) | (simp (disch := decide) only [asks_nil, asks_in, asks_out, askB_nil, askB_in, askB_out]) | (with_reducible apply Wp.assoc))); try simp only [outOf_exit, outOf_ret]); try (with_reducible apply Wp.cargs; case h => ((try simp (disch := omega) only [↓reduceIte, ask_true, ↓X0, X1, Nat.reduceEqDiff, Int.reduceEq, Nat.reduceAdd, Nat.reduceSub, g4, g5, g6, g7, g8, g9, hldA, bsl_nc]); with_reducible exact rfl)))
      refine Wp.app1 (E := eNode) y (.inr ⟨g7, hik'⟩) (by omega) (by decide) (by omega) ?_
      intro H4 r1 r2
      (((repeat (first | (with_reducible apply Wp.step; case h => ((try simp (disch := omega) only [↓reduceIte, ask_true, ↓X0, X1, Nat.reduceEqDiff, Int.reduceEq, Nat.reduceAdd, Nat.reduceSub, g4, g5, g6, g7, g8, g9, bsl_i]); with_reducible exact rfl)) | (apply Wp.andS) | (apply Wp.orS) | ((with_reducible first | apply Wp.gs | apply Wp.cs | apply Wp.cselX | apply Wp.askT | apply Wp.iteKT | apply Wp.ikb | apply Wp.askb); case h => ((try simp (disch := omega) only [↓reduceIte, ask_true, ↓X0, X1, Nat.reduceEqDiff, Int.reduceEq, Nat.reduceAdd, Nat.reduceSub, g4, g5, g6, g7, g8, g9, bsl_i]); (with_reducible first | done | exact bT | exact bF))) | (with_reducible apply Wp.gu) | (simp only [↓X3]) | (simp (disch := decide) only [asks_nil, asks_in, asks_out, askB_nil, askB_in, askB_out]) | (with_reducible apply Wp.assoc))); try simp only [outOf_exit, outOf_ret]); try (with_reducible apply Wp.cargs; case h => ((try simp (disch := omega) only [↓reduceIte, ask_true, ↓X0, X1, Nat.reduceEqDiff, Int.reduceEq, Nat.reduceAdd, Nat.reduceSub, g4, g5, g6, g7, g8, g9, bsl_i]); with_reducible exact rfl)))
      refine Wp.app1 (E := eInt) (clOf A.1 y) (l := A.2) (id := io) (.inr ⟨g6, ?_⟩) (by omega) (by decide) (by omega) ?_
      · rw [r2 io (by omega) (by omega) (by omega)]; exact hio'
      intro H5 r3 r4
      (((repeat (first | (with_reducible apply Wp.step; case h => ((try simp (disch := omega) only [↓reduceIte, ask_true, ↓X0, X1, Nat.reduceEqDiff, Int.reduceEq, Nat.reduceAdd, Nat.reduceSub, g8, hw]); with_reducible exact rfl)) | (apply Wp.andS) | (apply Wp.orS) | ((with_reducible first | apply Wp.gs | apply Wp.cs | apply Wp.cselX | apply Wp.askT | apply Wp.iteKT | apply Wp.ikb | apply Wp.askb); case h => ((try simp (disch := omega) only [↓reduceIte, ask_true, ↓X0, X1, Nat.reduceEqDiff, Int.reduceEq, Nat.reduceAdd, Nat.reduceSub, g8, hw]); (with_reducible first | done | exact bT | exact bF))) | (with_reducible apply Wp.gu) | (simp only [↓X3]) | (simp (disch := decide) only [asks_nil, asks_in, asks_out, askB_nil, askB_in, askB_out]) | (with_reducible apply Wp.assoc))); try simp only [outOf_exit, outOf_ret]); try (with_reducible apply Wp.cargs; case h => ((try simp (disch := omega) only [↓reduceIte, ask_true, ↓X0, X1, Nat.reduceEqDiff, Int.reduceEq, Nat.reduceAdd, Nat.reduceSub, g8, hw]); with_reducible exact rfl)))
      refine Wp.pure (Nxt.go (d - 1) (by omega) ⟨j + 1, pn + 8, pn + 3, by omega, by omega, ?_, by simp [put_at, g5], by simp [put_at], by omega, by omega, by omega, by omega, by omega, ?_, ?_, ?_, ?_⟩)
      · intro i hi; simp (disch := omega) only [r4, r2, f3, s1]
      · rw [hst, ← hA, clStep, hA, hy]; simp [put_at]
      · rw [hst, ← hA, clStep, hA, hy]; simp [put_at]
      · rw [hst, ← hA, clStep, hA, hy]; exact r3
      · rw [hst, ← hA, clStep, hA, hy, r4 _ (by omega) (by omega) (by omega)]; exact r1
  · (((repeat (first | (with_reducible apply Wp.step; case h => ((try simp (disch := omega) only [↓reduceIte, ask_true, ↓X0, X1, Nat.reduceEqDiff, Int.reduceEq, Nat.reduceAdd, Nat.reduceSub, X2, Hp_ne, Nat.reduceLeDiff, e1, e5, hb', (hv.mv (Nat.le_refl _) s1).len, hlt]); with_reducible exact rfl)) | (apply Wp.andS) | (apply Wp.orS) | ((with_reducible first | apply Wp.gs | apply Wp.cs | apply Wp.cselX | apply Wp.askT | apply Wp.iteKT | apply Wp.ikb | apply Wp.askb); case h => ((try simp (disch := omega) only [↓reduceIte, ask_true, ↓X0, X1, Nat.reduceEqDiff, Int.reduceEq, Nat.reduceAdd, Nat.reduceSub, X2, Hp_ne, Nat.reduceLeDiff, e1, e5, hb', (hv.mv (Nat.le_refl _) s1).len, hlt]); (with_reducible first | done | exact bT | exact bF))) | (with_reducible apply Wp.gu) | (simp only [↓X3]) | (simp (disch := decide) only [asks_nil, asks_in, asks_out, askB_nil, askB_in, askB_out]) | (with_reducible apply Wp.assoc))); try simp only [outOf_exit, outOf_ret]); try (with_reducible apply Wp.cargs; case h => ((try simp (disch := omega) only [↓reduceIte, ask_true, ↓X0, X1, Nat.reduceEqDiff, Int.reduceEq, Nat.reduceAdd, Nat.reduceSub, X2, Hp_ne, Nat.reduceLeDiff, e1, e5, hb', (hv.mv (Nat.le_refl _) s1).len, hlt]); with_reducible exact rfl)))
    rw [List.take_of_length_le (by omega)] at e3 hio
    exact Wp.pure (Nxt.exit ⟨Nat.le_trans hn (Nat.le_add_right _ _), s1, rfl, io, hi1, by simp only; omega, by simp [put_at, e3, classes], hio⟩)
theorem k43 {n : Nat} {H : Hp} {v : Value} {l : List Nd} (hv : Li eNode n H v l) (hp : PoolOk l) : RtN Try.prog 43 [.agg ⟨[v]⟩] H n (fun r H' n' => New eInt n n' H' r (classes l)) := by
  apply RtN.mk
  rw [c43]; unfold S43
  (((repeat (first | (with_reducible apply Wp.step; case h => ((try simp (disch := omega) only [↓reduceIte, ask_true, ↓X0, X1, Nat.reduceEqDiff, Int.reduceEq, Nat.reduceAdd, Nat.reduceSub, X2, Hp_ne, Nat.reduceLeDiff, bsl_zero, bsl_z5]); with_reducible exact rfl)) | (apply Wp.andS) | (apply Wp.orS) | ((with_reducible first | apply Wp.gs | apply Wp.cs | apply Wp.cselX | apply Wp.askT | apply Wp.iteKT | apply Wp.ikb | apply Wp.askb); case h => ((try simp (disch := omega) only [↓reduceIte, ask_true, ↓X0, X1, Nat.reduceEqDiff, Int.reduceEq, Nat.reduceAdd, Nat.reduceSub, X2, Hp_ne, Nat.reduceLeDiff, bsl_zero, bsl_z5]); (with_reducible first | done | exact bT | exact bF))) | (with_reducible apply Wp.gu) | (simp only [↓X3]) | (simp (disch := decide) only [asks_nil, asks_in, asks_out, askB_nil, askB_in, askB_out]) | (with_reducible apply Wp.assoc))); try simp only [outOf_exit, outOf_ret]); try (with_reducible apply Wp.cargs; case h => ((try simp (disch := omega) only [↓reduceIte, ask_true, ↓X0, X1, Nat.reduceEqDiff, Int.reduceEq, Nat.reduceAdd, Nat.reduceSub, X2, Hp_ne, Nat.reduceLeDiff, bsl_zero, bsl_z5]); with_reducible exact rfl)))
  refine Wp.bind (l43 (n0 := n + 1) (b := n) (H0 := H.set n (some (.row [v] 0 true))) (io0 := n + 2) (ik0 := n + 4) (hv.mv (by omega) (by intros; first | with_reducible rfl | simp (disch := omega) only [Hp_ne, Hp_same])) hp (by omega) (Hp_same _ _ _) _ _ _ (by omega) (by intros; first | with_reducible rfl | simp (disch := omega) only [Hp_ne, Hp_same]) (by omega) (by omega) (by omega) (by omega) (by omega) (by simp [put_at]) (by simp [put_at]) (by simp [put_at]) (by simp [put_at]) (by intros; first | with_reducible rfl | simp (disch := omega) only [Hp_ne, Hp_same]) (by intros; first | with_reducible rfl | simp (disch := omega) only [Hp_ne, Hp_same])) ?_
  rintro ⟨oe, ot, oH, on⟩ ⟨f1, f2, rfl, id, f3, f4, f5, f6⟩
  simp only at f1 f2 f3 f4 f5 f6
  (((repeat (first | (with_reducible apply Wp.step; case h => ((try simp (disch := omega) only [↓reduceIte, ask_true, ↓X0, X1, Nat.reduceEqDiff, Int.reduceEq, Nat.reduceAdd, Nat.reduceSub, f5]); with_reducible exact rfl)) | (apply Wp.andS) | (apply Wp.orS) | ((with_reducible first | apply Wp.gs | apply Wp.cs | apply Wp.cselX | apply Wp.askT | apply Wp.iteKT | apply Wp.ikb | apply Wp.askb); case h => ((try simp (disch := omega) only [↓reduceIte, ask_true, ↓X0, X1, Nat.reduceEqDiff, Int.reduceEq, Nat.reduceAdd, Nat.reduceSub, f5]); (with_reducible first | done | exact bT | exact bF))) | (with_reducible apply Wp.gu) | (simp only [↓X3]) | (simp (disch := decide) only [asks_nil, asks_in, asks_out, askB_nil, askB_in, askB_out]) | (with_reducible apply Wp.assoc))); try simp only [outOf_exit, outOf_ret]); try (with_reducible apply Wp.cargs; case h => ((try simp (disch := omega) only [↓reduceIte, ask_true, ↓X0, X1, Nat.reduceEqDiff, Int.reduceEq, Nat.reduceAdd, Nat.reduceSub, f5]); with_reducible exact rfl)))
  exact Wp.pure ⟨by simp only; omega, (by intros; first | with_reducible rfl | simp (disch := omega) only [Hp_ne, Hp_same, f2]), id, by omega, by simp only; omega, .inr ⟨f5, f6⟩⟩
def sameAns (l : List Nd) (a b : Int) : Bool := decide (PoolOk l ∧ (0 ≤ a ∧ a < l.length) ∧ (0 ≤ b ∧ b < l.length) ∧ gi (classes l) a = gi (classes l) b)
theorem k16 {n : Nat} {H : Hp} {v : Value} {l : List Nd} (hv : Li eNode n H v l) (hs : ∀ x ∈ l, x.s.size ≤ 1048576) (hl : l.length ≤ 1048576) (a b : Int) : Rt Try.prog 16 [.agg ⟨[v]⟩, .int .i64 a, .int .i64 b] H n (.bool (sameAns l a b)) := by
  apply Rt.mk
  rw [c16]; unfold S16 sameAns
  (((repeat (first | (with_reducible apply Wp.step; case h => ((try simp (disch := omega) only [↓reduceIte, ask_true, ↓X0, X1, Nat.reduceEqDiff, Int.reduceEq, Nat.reduceAdd, Nat.reduceSub, X2, Hp_ne, Nat.reduceLeDiff]); with_reducible exact rfl)) | (apply Wp.andS) | (apply Wp.orS) | ((with_reducible first | apply Wp.gs | apply Wp.cs | apply Wp.cselX | apply Wp.askT | apply Wp.iteKT | apply Wp.ikb | apply Wp.askb); case h => ((try simp (disch := omega) only [↓reduceIte, ask_true, ↓X0, X1, Nat.reduceEqDiff, Int.reduceEq, Nat.reduceAdd, Nat.reduceSub, X2, Hp_ne, Nat.reduceLeDiff]); (with_reducible first | done | exact bT | exact bF))) | (with_reducible apply Wp.gu) | (simp only [↓X3]) | (simp (disch := decide) only [asks_nil, asks_in, asks_out, askB_nil, askB_in, askB_out]) | (with_reducible apply Wp.assoc))); try simp only [outOf_exit, outOf_ret]); try (with_reducible apply Wp.cargs; case h => ((try simp (disch := omega) only [↓reduceIte, ask_true, ↓X0, X1, Nat.reduceEqDiff, Int.reduceEq, Nat.reduceAdd, Nat.reduceSub, X2, Hp_ne, Nat.reduceLeDiff]); with_reducible exact rfl)))
  refine Wp.rt (k22 (hv.mv (by omega) (by intros; first | with_reducible rfl | simp (disch := omega) only [Hp_ne, Hp_same])) hs hl) ?_
  intro H1 n1 q1 s1
  by_cases hp : PoolOk l
  · (((repeat (first | (with_reducible apply Wp.step; case h => ((try simp (disch := omega) only [↓reduceIte, ask_true, ↓X0, X1, Nat.reduceEqDiff, Int.reduceEq, Nat.reduceAdd, Nat.reduceSub, X2, Hp_ne, Nat.reduceLeDiff, hp, s1]); with_reducible exact rfl)) | (apply Wp.andS) | (apply Wp.orS) | ((with_reducible first | apply Wp.gs | apply Wp.cs | apply Wp.cselX | apply Wp.askT | apply Wp.iteKT | apply Wp.ikb | apply Wp.askb); case h => ((try simp (disch := omega) only [↓reduceIte, ask_true, ↓X0, X1, Nat.reduceEqDiff, Int.reduceEq, Nat.reduceAdd, Nat.reduceSub, X2, Hp_ne, Nat.reduceLeDiff, hp, s1]); (with_reducible first | done | exact bT | exact bF))) | (with_reducible apply Wp.gu) | (simp only [↓X3]) | (simp (disch := decide) only [asks_nil, asks_in, asks_out, askB_nil, askB_in, askB_out]) | (with_reducible apply Wp.assoc))); try simp only [outOf_exit, outOf_ret]); try (with_reducible apply Wp.cargs; case h => ((try simp (disch := omega) only [↓reduceIte, ask_true, ↓X0, X1, Nat.reduceEqDiff, Int.reduceEq, Nat.reduceAdd, Nat.reduceSub, X2, Hp_ne, Nat.reduceLeDiff, hp, s1]); with_reducible exact rfl)))
    refine Wp.rt (k28 (hv.mv (by omega) (by intros; first | with_reducible rfl | simp (disch := omega) only [Hp_ne, Hp_same, s1])) hl a) ?_
    intro H2 n2 q2 s2
    by_cases ha : 0 ≤ a ∧ a < (l.length : Int)
    · (((repeat (first | (with_reducible apply Wp.step; case h => ((try simp (disch := omega) only [↓reduceIte, ask_true, ↓X0, X1, Nat.reduceEqDiff, Int.reduceEq, Nat.reduceAdd, Nat.reduceSub, X2, Hp_ne, Nat.reduceLeDiff, hp, ha.1, ha.2, s1, s2]); with_reducible exact rfl)) | (apply Wp.andS) | (apply Wp.orS) | ((with_reducible first | apply Wp.gs | apply Wp.cs | apply Wp.cselX | apply Wp.askT | apply Wp.iteKT | apply Wp.ikb | apply Wp.askb); case h => ((try simp (disch := omega) only [↓reduceIte, ask_true, ↓X0, X1, Nat.reduceEqDiff, Int.reduceEq, Nat.reduceAdd, Nat.reduceSub, X2, Hp_ne, Nat.reduceLeDiff, hp, ha.1, ha.2, s1, s2]); (with_reducible first | done | exact bT | exact bF))) | (with_reducible apply Wp.gu) | (simp only [↓X3]) | (simp (disch := decide) only [asks_nil, asks_in, asks_out, askB_nil, askB_in, askB_out]) | (with_reducible apply Wp.assoc))); try simp only [outOf_exit, outOf_ret]); try (with_reducible apply Wp.cargs; case h => ((try simp (disch := omega) only [↓reduceIte, ask_true, ↓X0, X1, Nat.reduceEqDiff, Int.reduceEq, Nat.reduceAdd, Nat.reduceSub, X2, Hp_ne, Nat.reduceLeDiff, hp, ha.1, ha.2, s1, s2]); with_reducible exact rfl)))
      refine Wp.rt (k28 (hv.mv (by omega) (by intros; first | with_reducible rfl | simp (disch := omega) only [Hp_ne, Hp_same, s1, s2])) hl b) ?_
      intro H3 n3 q3 s3
      by_cases hb : 0 ≤ b ∧ b < (l.length : Int)
      · (((repeat (first | (with_reducible apply Wp.step; case h => ((try simp (disch := omega) only [↓reduceIte, ask_true, ↓X0, X1, Nat.reduceEqDiff, Int.reduceEq, Nat.reduceAdd, Nat.reduceSub, X2, Hp_ne, Nat.reduceLeDiff, hp, hb.1, hb.2, s1, s2, s3]); with_reducible exact rfl)) | (apply Wp.andS) | (apply Wp.orS) | ((with_reducible first | apply Wp.gs | apply Wp.cs | apply Wp.cselX | apply Wp.askT | apply Wp.iteKT | apply Wp.ikb | apply Wp.askb); case h => ((try simp (disch := omega) only [↓reduceIte, ask_true, ↓X0, X1, Nat.reduceEqDiff, Int.reduceEq, Nat.reduceAdd, Nat.reduceSub, X2, Hp_ne, Nat.reduceLeDiff, hp, hb.1, hb.2, s1, s2, s3]); (with_reducible first | done | exact bT | exact bF))) | (with_reducible apply Wp.gu) | (simp only [↓X3]) | (simp (disch := decide) only [asks_nil, asks_in, asks_out, askB_nil, askB_in, askB_out]) | (with_reducible apply Wp.assoc))); try simp only [outOf_exit, outOf_ret]); try (with_reducible apply Wp.cargs; case h => ((try simp (disch := omega) only [↓reduceIte, ask_true, ↓X0, X1, Nat.reduceEqDiff, Int.reduceEq, Nat.reduceAdd, Nat.reduceSub, X2, Hp_ne, Nat.reduceLeDiff, hp, hb.1, hb.2, s1, s2, s3]); with_reducible exact rfl)))
        refine Wp.rtn (k42 (hv.mv (by omega) (by intros; first | with_reducible rfl | simp (disch := omega) only [Hp_ne, Hp_same, s1, s2, s3])) hp) ?_
        rintro u H4 n4 q4 s4 hu
        have ga := hu.lst.iAll ha.1 (by rw [classes_len]; exact ha.2)
        have gb := hu.lst.iAll hb.1 (by rw [classes_len]; exact hb.2)
        (((repeat (first | (with_reducible apply Wp.step; case h => ((try simp (disch := omega) only [↓reduceIte, ask_true, ↓X0, X1, Nat.reduceEqDiff, Int.reduceEq, Nat.reduceAdd, Nat.reduceSub, argsT_at, ga, gb]); with_reducible exact rfl)) | (apply Wp.andS) | (apply Wp.orS) | ((with_reducible first | apply Wp.gs | apply Wp.cs | apply Wp.cselX | apply Wp.askT | apply Wp.iteKT | apply Wp.ikb | apply Wp.askb); case h => ((try simp (disch := omega) only [↓reduceIte, ask_true, ↓X0, X1, Nat.reduceEqDiff, Int.reduceEq, Nat.reduceAdd, Nat.reduceSub, argsT_at, ga, gb]); (with_reducible first | done | exact bT | exact bF))) | (with_reducible apply Wp.gu) | (simp only [↓X3]) | (simp (disch := decide) only [asks_nil, asks_in, asks_out, askB_nil, askB_in, askB_out]) | (with_reducible apply Wp.assoc))); try simp only [outOf_exit, outOf_ret]); try (with_reducible apply Wp.cargs; case h => ((try simp (disch := omega) only [↓reduceIte, ask_true, ↓X0, X1, Nat.reduceEqDiff, Int.reduceEq, Nat.reduceAdd, Nat.reduceSub, argsT_at, ga, gb]); with_reducible exact rfl)))
        exact Wp.pure ⟨by simp only; omega, (by intros; first | with_reducible rfl | simp (disch := omega) only [Hp_ne, Hp_same, s1, s2, s3, s4]), by simp only [hp, ha, hb, and_self, true_and]⟩
      · (((repeat (first | (with_reducible apply Wp.step; case h => ((try simp (disch := omega) only [↓reduceIte, ask_true, ↓X0, X1, Nat.reduceEqDiff, Int.reduceEq, Nat.reduceAdd, Nat.reduceSub, X2, Hp_ne, Nat.reduceLeDiff, hp, hb, s1, s2, s3]); with_reducible exact rfl)) | (apply Wp.andS) | (apply Wp.orS) | ((with_reducible first | apply Wp.gs | apply Wp.cs | apply Wp.cselX | apply Wp.askT | apply Wp.iteKT | apply Wp.ikb | apply Wp.askb); case h => ((try simp (disch := omega) only [↓reduceIte, ask_true, ↓X0, X1, Nat.reduceEqDiff, Int.reduceEq, Nat.reduceAdd, Nat.reduceSub, X2, Hp_ne, Nat.reduceLeDiff, hp, hb, s1, s2, s3]); (with_reducible first | done | exact bT | exact bF))) | (with_reducible apply Wp.gu) | (simp only [↓X3]) | (simp (disch := decide) only [asks_nil, asks_in, asks_out, askB_nil, askB_in, askB_out]) | (with_reducible apply Wp.assoc))); try simp only [outOf_exit, outOf_ret]); try (with_reducible apply Wp.cargs; case h => ((try simp (disch := omega) only [↓reduceIte, ask_true, ↓X0, X1, Nat.reduceEqDiff, Int.reduceEq, Nat.reduceAdd, Nat.reduceSub, X2, Hp_ne, Nat.reduceLeDiff, hp, hb, s1, s2, s3]); with_reducible exact rfl)))
        exact Wp.pure ⟨by simp only; omega, (by intros; first | with_reducible rfl | simp (disch := omega) only [Hp_ne, Hp_same, s1, s2, s3]), by simp only [hb, false_and, and_false, decide_false]⟩
    · (((repeat (first | (with_reducible apply Wp.step; case h => ((try simp (disch := omega) only [↓reduceIte, ask_true, ↓X0, X1, Nat.reduceEqDiff, Int.reduceEq, Nat.reduceAdd, Nat.reduceSub, X2, Hp_ne, Nat.reduceLeDiff, hp, ha, s1, s2]); with_reducible exact rfl)) | (apply Wp.andS) | (apply Wp.orS) | ((with_reducible first | apply Wp.gs | apply Wp.cs | apply Wp.cselX | apply Wp.askT | apply Wp.iteKT | apply Wp.ikb | apply Wp.askb); case h => ((try simp (disch := omega) only [↓reduceIte, ask_true, ↓X0, X1, Nat.reduceEqDiff, Int.reduceEq, Nat.reduceAdd, Nat.reduceSub, X2, Hp_ne, Nat.reduceLeDiff, hp, ha, s1, s2]); (with_reducible first | done | exact bT | exact bF))) | (with_reducible apply Wp.gu) | (simp only [↓X3]) | (simp (disch := decide) only [asks_nil, asks_in, asks_out, askB_nil, askB_in, askB_out]) | (with_reducible apply Wp.assoc))); try simp only [outOf_exit, outOf_ret]); try (with_reducible apply Wp.cargs; case h => ((try simp (disch := omega) only [↓reduceIte, ask_true, ↓X0, X1, Nat.reduceEqDiff, Int.reduceEq, Nat.reduceAdd, Nat.reduceSub, X2, Hp_ne, Nat.reduceLeDiff, hp, ha, s1, s2]); with_reducible exact rfl)))
      exact Wp.pure ⟨by simp only; omega, (by intros; first | with_reducible rfl | simp (disch := omega) only [Hp_ne, Hp_same, s1, s2]), by simp only [ha, false_and, and_false, decide_false]⟩
  · (((repeat (first | (with_reducible apply Wp.step; case h => ((try simp (disch := omega) only [↓reduceIte, ask_true, ↓X0, X1, Nat.reduceEqDiff, Int.reduceEq, Nat.reduceAdd, Nat.reduceSub, X2, Hp_ne, Nat.reduceLeDiff, hp, s1]); with_reducible exact rfl)) | (apply Wp.andS) | (apply Wp.orS) | ((with_reducible first | apply Wp.gs | apply Wp.cs | apply Wp.cselX | apply Wp.askT | apply Wp.iteKT | apply Wp.ikb | apply Wp.askb); case h => ((try simp (disch := omega) only [↓reduceIte, ask_true, ↓X0, X1, Nat.reduceEqDiff, Int.reduceEq, Nat.reduceAdd, Nat.reduceSub, X2, Hp_ne, Nat.reduceLeDiff, hp, s1]); (with_reducible first | done | exact bT | exact bF))) | (with_reducible apply Wp.gu) | (simp only [↓X3]) | (simp (disch := decide) only [asks_nil, asks_in, asks_out, askB_nil, askB_in, askB_out]) | (with_reducible apply Wp.assoc))); try simp only [outOf_exit, outOf_ret]); try (with_reducible apply Wp.cargs; case h => ((try simp (disch := omega) only [↓reduceIte, ask_true, ↓X0, X1, Nat.reduceEqDiff, Int.reduceEq, Nat.reduceAdd, Nat.reduceSub, X2, Hp_ne, Nat.reduceLeDiff, hp, s1]); with_reducible exact rfl)))
    exact Wp.pure ⟨by simp only; omega, (by intros; first | with_reducible rfl | simp (disch := omega) only [Hp_ne, Hp_same, s1]), by simp only [hp, false_and, decide_false]⟩
theorem k17 {n : Nat} {H : Hp} {v : Value} {l : List Nd} (hv : Li eNode n H v l) (hs : ∀ x ∈ l, x.s.size ≤ 1048576) (hl : l.length ≤ 1048576) (a b : Int) : Rt Try.prog 17 [.agg ⟨[v]⟩, .int .i64 a, .int .i64 b] H n (.bool (sameAns l a b)) := by
  apply Rt.mk
  rw [c17]; unfold S17 sameAns
  (((repeat (first | (with_reducible apply Wp.step; case h => ((try simp (disch := omega) only [↓reduceIte, ask_true, ↓X0, X1, Nat.reduceEqDiff, Int.reduceEq, Nat.reduceAdd, Nat.reduceSub, X2, Hp_ne, Nat.reduceLeDiff]); with_reducible exact rfl)) | (apply Wp.andS) | (apply Wp.orS) | ((with_reducible first | apply Wp.gs | apply Wp.cs | apply Wp.cselX | apply Wp.askT | apply Wp.iteKT | apply Wp.ikb | apply Wp.askb); case h => ((try simp (disch := omega) only [↓reduceIte, ask_true, ↓X0, X1, Nat.reduceEqDiff, Int.reduceEq, Nat.reduceAdd, Nat.reduceSub, X2, Hp_ne, Nat.reduceLeDiff]); (with_reducible first | done | exact bT | exact bF))) | (with_reducible apply Wp.gu) | (simp only [↓X3]) | (simp (disch := decide) only [asks_nil, asks_in, asks_out, askB_nil, askB_in, askB_out]) | (with_reducible apply Wp.assoc))); try simp only [outOf_exit, outOf_ret]); try (with_reducible apply Wp.cargs; case h => ((try simp (disch := omega) only [↓reduceIte, ask_true, ↓X0, X1, Nat.reduceEqDiff, Int.reduceEq, Nat.reduceAdd, Nat.reduceSub, X2, Hp_ne, Nat.reduceLeDiff]); with_reducible exact rfl)))
  refine Wp.rt (k24 (hv.mv (by omega) (by intros; first | with_reducible rfl | simp (disch := omega) only [Hp_ne, Hp_same])) hs hl) ?_
  intro H1 n1 q1 s1
  by_cases hp : PoolOk l
  · (((repeat (first | (with_reducible apply Wp.step; case h => ((try simp (disch := omega) only [↓reduceIte, ask_true, ↓X0, X1, Nat.reduceEqDiff, Int.reduceEq, Nat.reduceAdd, Nat.reduceSub, X2, Hp_ne, Nat.reduceLeDiff, hp, s1]); with_reducible exact rfl)) | (apply Wp.andS) | (apply Wp.orS) | ((with_reducible first | apply Wp.gs | apply Wp.cs | apply Wp.cselX | apply Wp.askT | apply Wp.iteKT | apply Wp.ikb | apply Wp.askb); case h => ((try simp (disch := omega) only [↓reduceIte, ask_true, ↓X0, X1, Nat.reduceEqDiff, Int.reduceEq, Nat.reduceAdd, Nat.reduceSub, X2, Hp_ne, Nat.reduceLeDiff, hp, s1]); (with_reducible first | done | exact bT | exact bF))) | (with_reducible apply Wp.gu) | (simp only [↓X3]) | (simp (disch := decide) only [asks_nil, asks_in, asks_out, askB_nil, askB_in, askB_out]) | (with_reducible apply Wp.assoc))); try simp only [outOf_exit, outOf_ret]); try (with_reducible apply Wp.cargs; case h => ((try simp (disch := omega) only [↓reduceIte, ask_true, ↓X0, X1, Nat.reduceEqDiff, Int.reduceEq, Nat.reduceAdd, Nat.reduceSub, X2, Hp_ne, Nat.reduceLeDiff, hp, s1]); with_reducible exact rfl)))
    refine Wp.rt (k25 (hv.mv (by omega) (by intros; first | with_reducible rfl | simp (disch := omega) only [Hp_ne, Hp_same, s1])) hl a) ?_
    intro H2 n2 q2 s2
    by_cases ha : 0 ≤ a ∧ a < (l.length : Int)
    · (((repeat (first | (with_reducible apply Wp.step; case h => ((try simp (disch := omega) only [↓reduceIte, ask_true, ↓X0, X1, Nat.reduceEqDiff, Int.reduceEq, Nat.reduceAdd, Nat.reduceSub, X2, Hp_ne, Nat.reduceLeDiff, hp, ha.1, ha.2, s1, s2]); with_reducible exact rfl)) | (apply Wp.andS) | (apply Wp.orS) | ((with_reducible first | apply Wp.gs | apply Wp.cs | apply Wp.cselX | apply Wp.askT | apply Wp.iteKT | apply Wp.ikb | apply Wp.askb); case h => ((try simp (disch := omega) only [↓reduceIte, ask_true, ↓X0, X1, Nat.reduceEqDiff, Int.reduceEq, Nat.reduceAdd, Nat.reduceSub, X2, Hp_ne, Nat.reduceLeDiff, hp, ha.1, ha.2, s1, s2]); (with_reducible first | done | exact bT | exact bF))) | (with_reducible apply Wp.gu) | (simp only [↓X3]) | (simp (disch := decide) only [asks_nil, asks_in, asks_out, askB_nil, askB_in, askB_out]) | (with_reducible apply Wp.assoc))); try simp only [outOf_exit, outOf_ret]); try (with_reducible apply Wp.cargs; case h => ((try simp (disch := omega) only [↓reduceIte, ask_true, ↓X0, X1, Nat.reduceEqDiff, Int.reduceEq, Nat.reduceAdd, Nat.reduceSub, X2, Hp_ne, Nat.reduceLeDiff, hp, ha.1, ha.2, s1, s2]); with_reducible exact rfl)))
      refine Wp.rt (k25 (hv.mv (by omega) (by intros; first | with_reducible rfl | simp (disch := omega) only [Hp_ne, Hp_same, s1, s2])) hl b) ?_
      intro H3 n3 q3 s3
      by_cases hb : 0 ≤ b ∧ b < (l.length : Int)
      · (((repeat (first | (with_reducible apply Wp.step; case h => ((try simp (disch := omega) only [↓reduceIte, ask_true, ↓X0, X1, Nat.reduceEqDiff, Int.reduceEq, Nat.reduceAdd, Nat.reduceSub, X2, Hp_ne, Nat.reduceLeDiff, hp, hb.1, hb.2, s1, s2, s3]); with_reducible exact rfl)) | (apply Wp.andS) | (apply Wp.orS) | ((with_reducible first | apply Wp.gs | apply Wp.cs | apply Wp.cselX | apply Wp.askT | apply Wp.iteKT | apply Wp.ikb | apply Wp.askb); case h => ((try simp (disch := omega) only [↓reduceIte, ask_true, ↓X0, X1, Nat.reduceEqDiff, Int.reduceEq, Nat.reduceAdd, Nat.reduceSub, X2, Hp_ne, Nat.reduceLeDiff, hp, hb.1, hb.2, s1, s2, s3]); (with_reducible first | done | exact bT | exact bF))) | (with_reducible apply Wp.gu) | (simp only [↓X3]) | (simp (disch := decide) only [asks_nil, asks_in, asks_out, askB_nil, askB_in, askB_out]) | (with_reducible apply Wp.assoc))); try simp only [outOf_exit, outOf_ret]); try (with_reducible apply Wp.cargs; case h => ((try simp (disch := omega) only [↓reduceIte, ask_true, ↓X0, X1, Nat.reduceEqDiff, Int.reduceEq, Nat.reduceAdd, Nat.reduceSub, X2, Hp_ne, Nat.reduceLeDiff, hp, hb.1, hb.2, s1, s2, s3]); with_reducible exact rfl)))
        refine Wp.rtn (k43 (hv.mv (by omega) (by intros; first | with_reducible rfl | simp (disch := omega) only [Hp_ne, Hp_same, s1, s2, s3])) hp) ?_
        rintro u H4 n4 q4 s4 hu
        have ga := hu.lst.iAll ha.1 (by rw [classes_len]; exact ha.2)
        have gb := hu.lst.iAll hb.1 (by rw [classes_len]; exact hb.2)
        (((repeat (first | (with_reducible apply Wp.step; case h => ((try simp (disch := omega) only [↓reduceIte, ask_true, ↓X0, X1, Nat.reduceEqDiff, Int.reduceEq, Nat.reduceAdd, Nat.reduceSub, argsT_at, ga, gb]); with_reducible exact rfl)) | (apply Wp.andS) | (apply Wp.orS) | ((with_reducible first | apply Wp.gs | apply Wp.cs | apply Wp.cselX | apply Wp.askT | apply Wp.iteKT | apply Wp.ikb | apply Wp.askb); case h => ((try simp (disch := omega) only [↓reduceIte, ask_true, ↓X0, X1, Nat.reduceEqDiff, Int.reduceEq, Nat.reduceAdd, Nat.reduceSub, argsT_at, ga, gb]); (with_reducible first | done | exact bT | exact bF))) | (with_reducible apply Wp.gu) | (simp only [↓X3]) | (simp (disch := decide) only [asks_nil, asks_in, asks_out, askB_nil, askB_in, askB_out]) | (with_reducible apply Wp.assoc))); try simp only [outOf_exit, outOf_ret]); try (with_reducible apply Wp.cargs; case h => ((try simp (disch := omega) only [↓reduceIte, ask_true, ↓X0, X1, Nat.reduceEqDiff, Int.reduceEq, Nat.reduceAdd, Nat.reduceSub, argsT_at, ga, gb]); with_reducible exact rfl)))
        exact Wp.pure ⟨by simp only; omega, (by intros; first | with_reducible rfl | simp (disch := omega) only [Hp_ne, Hp_same, s1, s2, s3, s4]), by simp only [hp, ha, hb, and_self, true_and]⟩
      · (((repeat (first | (with_reducible apply Wp.step; case h => ((try simp (disch := omega) only [↓reduceIte, ask_true, ↓X0, X1, Nat.reduceEqDiff, Int.reduceEq, Nat.reduceAdd, Nat.reduceSub, X2, Hp_ne, Nat.reduceLeDiff, hp, hb, s1, s2, s3]); with_reducible exact rfl)) | (apply Wp.andS) | (apply Wp.orS) | ((with_reducible first | apply Wp.gs | apply Wp.cs | apply Wp.cselX | apply Wp.askT | apply Wp.iteKT | apply Wp.ikb | apply Wp.askb); case h => ((try simp (disch := omega) only [↓reduceIte, ask_true, ↓X0, X1, Nat.reduceEqDiff, Int.reduceEq, Nat.reduceAdd, Nat.reduceSub, X2, Hp_ne, Nat.reduceLeDiff, hp, hb, s1, s2, s3]); (with_reducible first | done | exact bT | exact bF))) | (with_reducible apply Wp.gu) | (simp only [↓X3]) | (simp (disch := decide) only [asks_nil, asks_in, asks_out, askB_nil, askB_in, askB_out]) | (with_reducible apply Wp.assoc))); try simp only [outOf_exit, outOf_ret]); try (with_reducible apply Wp.cargs; case h => ((try simp (disch := omega) only [↓reduceIte, ask_true, ↓X0, X1, Nat.reduceEqDiff, Int.reduceEq, Nat.reduceAdd, Nat.reduceSub, X2, Hp_ne, Nat.reduceLeDiff, hp, hb, s1, s2, s3]); with_reducible exact rfl)))
        exact Wp.pure ⟨by simp only; omega, (by intros; first | with_reducible rfl | simp (disch := omega) only [Hp_ne, Hp_same, s1, s2, s3]), by simp only [hb, false_and, and_false, decide_false]⟩
    · (((repeat (first | (with_reducible apply Wp.step; case h => ((try simp (disch := omega) only [↓reduceIte, ask_true, ↓X0, X1, Nat.reduceEqDiff, Int.reduceEq, Nat.reduceAdd, Nat.reduceSub, X2, Hp_ne, Nat.reduceLeDiff, hp, ha, s1, s2]); with_reducible exact rfl)) | (apply Wp.andS) | (apply Wp.orS) | ((with_reducible first | apply Wp.gs | apply Wp.cs | apply Wp.cselX | apply Wp.askT | apply Wp.iteKT | apply Wp.ikb | apply Wp.askb); case h => ((try simp (disch := omega) only [↓reduceIte, ask_true, ↓X0, X1, Nat.reduceEqDiff, Int.reduceEq, Nat.reduceAdd, Nat.reduceSub, X2, Hp_ne, Nat.reduceLeDiff, hp, ha, s1, s2]); (with_reducible first | done | exact bT | exact bF))) | (with_reducible apply Wp.gu) | (simp only [↓X3]) | (simp (disch := decide) only [asks_nil, asks_in, asks_out, askB_nil, askB_in, askB_out]) | (with_reducible apply Wp.assoc))); try simp only [outOf_exit, outOf_ret]); try (with_reducible apply Wp.cargs; case h => ((try simp (disch := omega) only [↓reduceIte, ask_true, ↓X0, X1, Nat.reduceEqDiff, Int.reduceEq, Nat.reduceAdd, Nat.reduceSub, X2, Hp_ne, Nat.reduceLeDiff, hp, ha, s1, s2]); with_reducible exact rfl)))
      exact Wp.pure ⟨by simp only; omega, (by intros; first | with_reducible rfl | simp (disch := omega) only [Hp_ne, Hp_same, s1, s2]), by simp only [ha, false_and, and_false, decide_false]⟩
  · (((repeat (first | (with_reducible apply Wp.step; case h => ((try simp (disch := omega) only [↓reduceIte, ask_true, ↓X0, X1, Nat.reduceEqDiff, Int.reduceEq, Nat.reduceAdd, Nat.reduceSub, X2, Hp_ne, Nat.reduceLeDiff, hp, s1]); with_reducible exact rfl)) | (apply Wp.andS) | (apply Wp.orS) | ((with_reducible first | apply Wp.gs | apply Wp.cs | apply Wp.cselX | apply Wp.askT | apply Wp.iteKT | apply Wp.ikb | apply Wp.askb); case h => ((try simp (disch := omega) only [↓reduceIte, ask_true, ↓X0, X1, Nat.reduceEqDiff, Int.reduceEq, Nat.reduceAdd, Nat.reduceSub, X2, Hp_ne, Nat.reduceLeDiff, hp, s1]); (with_reducible first | done | exact bT | exact bF))) | (with_reducible apply Wp.gu) | (simp only [↓X3]) | (simp (disch := decide) only [asks_nil, asks_in, asks_out, askB_nil, askB_in, askB_out]) | (with_reducible apply Wp.assoc))); try simp only [outOf_exit, outOf_ret]); try (with_reducible apply Wp.cargs; case h => ((try simp (disch := omega) only [↓reduceIte, ask_true, ↓X0, X1, Nat.reduceEqDiff, Int.reduceEq, Nat.reduceAdd, Nat.reduceSub, X2, Hp_ne, Nat.reduceLeDiff, hp, s1]); with_reducible exact rfl)))
    exact Wp.pure ⟨by simp only; omega, (by intros; first | with_reducible rfl | simp (disch := omega) only [Hp_ne, Hp_same, s1]), by simp only [hp, false_and, decide_false]⟩
end Go.Proofs.Ytdnokdgkccnbnaa.Ax
