/- Contracts: how great a value is; what a list has. -/
import Derived.Test.YtdnokdgkccnbnaaK9
set_option linter.unusedVariables false
set_option linter.unusedSimpArgs false
namespace Go.Proofs.Ytdnokdgkccnbnaa.Ax
open Go
theorem NodesOk_at : ∀ {l : List Nd} {i : Nat}, NodesOk l i → ∀ {j : Nat}, j < l.length → NodeOk (gi l (j : Int)) ((i + j : Nat) : Int)
  | x :: l, i, h, 0, _ => h.1
  | x :: l, i, h, j + 1, hj => by
    have := NodesOk_at h.2 (j := j) (by simpa using hj)
    rw [show i + 1 + j = i + (j + 1) by omega] at this
    exact this
theorem PoolOk.at {l : List Nd} (h : PoolOk l) {v : Int} (h0 : 0 ≤ v) (h1 : v < l.length) : NodeOk (gi l v) v := by
  obtain ⟨j, rfl⟩ := Int.eq_ofNat_of_zero_le h0
  have := NodesOk_at h.1 (j := j) (by omega)
  rw [Nat.zero_add] at this
  exact this
theorem NodeOk.pair {x : Nd} {m : Int} (h : NodeOk x m) (hk : x.k = 5) : (0 ≤ x.a ∧ x.a < m) ∧ (0 ≤ x.b ∧ x.b < m) := by
  rcases h with h | h | h | h | h | h | h | h | h <;> (obtain ⟨h1, h2⟩ := h; rw [hk] at h1; try (exact absurd h1 (by decide)))
  omega
theorem NodeOk.one {x : Nd} {m : Int} (h : NodeOk x m) (hk : x.k = 6 ∨ x.k = 7) : 0 ≤ x.a ∧ x.a < m := by
  rcases h with h | h | h | h | h | h | h | h | h <;> obtain ⟨h1, h2⟩ := h <;> omega
theorem k25 {n : Nat} {H : Hp} {v : Value} {l : List Nd} (hv : Li eNode n H v l) (hl : l.length ≤ 1048576) (i : Int) : Rt Try.prog 25 [.agg ⟨[v]⟩, .int .i64 i] H n (.bool (decide (0 ≤ i ∧ i < l.length))) := by
  apply Rt.of
  rw [c25]; unfold S25
  have hw : IntKind.i64.wrap ((l.length : Int) - 1) = l.length - 1 := w64 (by omega)
  have he : (0 ≤ i ∧ i ≤ (l.length : Int) - 1) = (0 ≤ i ∧ i < (l.length : Int)) := propext (by omega)
  (((repeat (first | (with_reducible apply Wp.step; case h => ((try simp (disch := omega) only [↓reduceIte, ask_true, ↓X0, X1, Nat.reduceEqDiff, Int.reduceEq, Nat.reduceAdd, Nat.reduceSub, X2, Hp_ne, Nat.reduceLeDiff, hv.len, hw, k51, he]); with_reducible exact rfl)) | (apply Wp.andS) | (apply Wp.orS) | ((with_reducible first | apply Wp.gs | apply Wp.cs | apply Wp.cselX | apply Wp.askT | apply Wp.iteKT | apply Wp.ikb | apply Wp.askb); case h => ((try simp (disch := omega) only [↓reduceIte, ask_true, ↓X0, X1, Nat.reduceEqDiff, Int.reduceEq, Nat.reduceAdd, Nat.reduceSub, X2, Hp_ne, Nat.reduceLeDiff, hv.len, hw, k51, he]); (with_reducible first | done | exact bT | exact bF))) | (with_reducible apply Wp.gu) | (simp only [↓X3]) | (simp (disch := decide) only [asks_nil, asks_in, asks_out, askB_nil, askB_in, askB_out]) | (with_reducible apply Wp.assoc))); try simp only [outOf_exit, outOf_ret]); try (with_reducible apply Wp.cargs; case h => ((try simp (disch := omega) only [↓reduceIte, ask_true, ↓X0, X1, Nat.reduceEqDiff, Int.reduceEq, Nat.reduceAdd, Nat.reduceSub, X2, Hp_ne, Nat.reduceLeDiff, hv.len, hw, k51, he]); with_reducible exact rfl)))
  exact Wp.pure ⟨by simp only; omega, by (repeat (first | exact Same.refl _ _ | refine Same.set ?_ (by omega) _)), rfl⟩
theorem k28 {n : Nat} {H : Hp} {v : Value} {l : List Nd} (hv : Li eNode n H v l) (hl : l.length ≤ 1048576) (i : Int) : Rt Try.prog 28 [.agg ⟨[v]⟩, .int .i64 i] H n (.bool (decide (0 ≤ i ∧ i < l.length))) := by
  apply Rt.of
  rw [c28]; unfold S28
  have hw : IntKind.i64.wrap ((l.length : Int) - 1) = l.length - 1 := w64 (by omega)
  have he : (0 ≤ i ∧ i ≤ (l.length : Int) - 1) = (0 ≤ i ∧ i < (l.length : Int)) := propext (by omega)
  (((repeat (first | (with_reducible apply Wp.step; case h => ((try simp (disch := omega) only [↓reduceIte, ask_true, ↓X0, X1, Nat.reduceEqDiff, Int.reduceEq, Nat.reduceAdd, Nat.reduceSub, X2, Hp_ne, Nat.reduceLeDiff, hv.len, hw, k54, he]); with_reducible exact rfl)) | (apply Wp.andS) | (apply Wp.orS) | ((with_reducible first | apply Wp.gs | apply Wp.cs | apply Wp.cselX | apply Wp.askT | apply Wp.iteKT | apply Wp.ikb | apply Wp.askb); case h => ((try simp (disch := omega) only [↓reduceIte, ask_true, ↓X0, X1, Nat.reduceEqDiff, Int.reduceEq, Nat.reduceAdd, Nat.reduceSub, X2, Hp_ne, Nat.reduceLeDiff, hv.len, hw, k54, he]); (with_reducible first | done | exact bT | exact bF))) | (with_reducible apply Wp.gu) | (simp only [↓X3]) | (simp (disch := decide) only [asks_nil, asks_in, asks_out, askB_nil, askB_in, askB_out]) | (with_reducible apply Wp.assoc))); try simp only [outOf_exit, outOf_ret]); try (with_reducible apply Wp.cargs; case h => ((try simp (disch := omega) only [↓reduceIte, ask_true, ↓X0, X1, Nat.reduceEqDiff, Int.reduceEq, Nat.reduceAdd, Nat.reduceSub, X2, Hp_ne, Nat.reduceLeDiff, hv.len, hw, k54, he]); with_reducible exact rfl)))
  exact Wp.pure ⟨by simp only; omega, by (repeat (first | exact Same.refl _ _ | refine Same.set ?_ (by omega) _)), rfl⟩
theorem k70 (a b : Int) (H : Hp) (n : Nat) : Call Try.prog 70 [.int .i64 a, .int .i64 b] H n = some (.int .i64 (if a < b then a else b), H, n + 6) := by
  rw [c70]; unfold S70
  by_cases h : a < b
  · simp (disch := omega) only [↓reduceIte, ask_true, ↓X0, X1, Nat.reduceEqDiff, Int.reduceEq, Nat.reduceAdd, Nat.reduceSub, h]
  · simp (disch := omega) only [↓reduceIte, ask_true, ↓X0, X1, Nat.reduceEqDiff, Int.reduceEq, Nat.reduceAdd, Nat.reduceSub, h]
def szStep (acc : List Int) (x : Nd) : Int :=
  let s := if x.k = 5 then 1 + gi acc x.a + gi acc x.b else if x.k = 6 ∨ x.k = 7 then 1 + gi acc x.a else 1
  if s < 1000000000 then s else 1000000000
def sizes (l : List Nd) : List Int := l.foldl (fun acc x => acc ++ [szStep acc x]) []
theorem sizes_snoc (l : List Nd) (x : Nd) : sizes (l ++ [x]) = sizes l ++ [szStep (sizes l) x] := by simp [sizes, List.foldl_append]
theorem sizes_aux (m : List Nd) : ∀ acc : List Int, ∃ r, m.foldl (fun acc x => acc ++ [szStep acc x]) acc = acc ++ r ∧ r.length = m.length := by
  induction m with
  | nil => intro acc; exact ⟨[], by simp, rfl⟩
  | cons x m ih =>
    intro acc
    obtain ⟨r, h1, h2⟩ := ih (acc ++ [szStep acc x])
    exact ⟨szStep acc x :: r, by rw [List.foldl_cons, h1]; simp, by simp [h2]⟩
theorem sizes_len (l : List Nd) : (sizes l).length = l.length := by
  obtain ⟨r, h1, h2⟩ := sizes_aux l []
  unfold sizes; rw [h1]; simpa using h2
theorem sizes_app (l m : List Nd) : ∃ r, sizes (l ++ m) = sizes l ++ r := by
  obtain ⟨r, h1, h2⟩ := sizes_aux m (sizes l)
  exact ⟨r, by unfold sizes at *; rw [List.foldl_append]; exact h1⟩
theorem sizes_take {l : List Nd} {j : Nat} (hj : j < l.length) : sizes (l.take (j + 1)) = sizes (l.take j) ++ [szStep (sizes (l.take j)) (gi l (j : Int))] := by
  rw [take_next hj, sizes_snoc, gi_nat hj]
theorem sizes_gi {l : List Nd} {v : Int} {j : Nat} (h0 : 0 ≤ v) (h1 : v < j) (hj : j ≤ l.length) : gi (sizes (l.take j)) v = gi (sizes l) v := by
  obtain ⟨r, hr⟩ := sizes_app (l.take j) (l.drop j)
  rw [List.take_append_drop] at hr
  rw [hr, gi_app (by rw [sizes_len, List.length_take]; omega) h0]
theorem minV_i (a b : Int) : minV (.int .i64 a) (.int .i64 b) = some (.int .i64 (if b < a then b else a)) := rfl
theorem szStep_rng (acc : List Int) (x : Nd) (ha : ∀ y ∈ acc, 1 ≤ y ∧ y ≤ 1000000000) (h5 : x.k = 5 → (0 ≤ x.a ∧ x.a < acc.length) ∧ (0 ≤ x.b ∧ x.b < acc.length)) (h6 : x.k = 6 ∨ x.k = 7 → 0 ≤ x.a ∧ x.a < acc.length) : 1 ≤ szStep acc x ∧ szStep acc x ≤ 1000000000 := by
  unfold szStep
  simp only
  by_cases c5 : x.k = 5
  · have h := h5 c5
    have g1 := ha _ (gi_mem h.1.1 h.1.2)
    have g2 := ha _ (gi_mem h.2.1 h.2.2)
    rw [if_pos c5]
    split <;> omega
  · rw [if_neg c5]
    by_cases c6 : x.k = 6 ∨ x.k = 7
    · have h := h6 c6
      have g1 := ha _ (gi_mem h.1 h.2)
      rw [if_pos c6]
      split <;> omega
    · rw [if_neg c6]
      split <;> omega
/-- How great a value is. -/
def sizeOf (l : List Nd) (v : Int) : Int := if PoolOk l ∧ 0 ≤ v ∧ v < l.length then gi (sizes l) v else 0
theorem l18 {n0 : Nat} {H0 : Hp} {v : Value} {l : List Nd} (hv : Li eNode n0 H0 v l) (hp : PoolOk l) : ∀ t H n id, n0 ≤ n → Same n0 H0 H → n0 ≤ id → id < n → t 20 = v → t 21 = .int .i64 l.length → t 22 = .int .i64 0 → t 5 = sl id 0 0 → H id = some (.row [] 1 true) →
    Wp (Loop (S18L0 (Call Try.prog) Loop) t H n) (fun o => n ≤ o.n ∧ Same n0 H0 o.H ∧ o.e = .exit 0 ∧ o.t 1 = t 1 ∧ ∃ id, n0 ≤ id ∧ id < o.n ∧ At eInt id o.H (o.t 5) (sizes l)) := by
  intro t H n id hn0 hsm0 hid hidn e20 e21 e22 e5 hH
  have hl := hp.2
  refine Loop_rule (fun d T H' n' => ∃ (j id : Nat), j + d = l.length ∧ n ≤ n' ∧ Same n0 H0 H' ∧ T 1 = t 1 ∧ T 20 = v ∧ T 21 = .int .i64 l.length ∧ T 22 = .int .i64 j ∧ n0 ≤ id ∧ id < n' ∧ At eInt id H' (T 5) (sizes (l.take j)) ∧ ∀ y ∈ sizes (l.take j), 1 ≤ y ∧ y ≤ 1000000000) _ ?_ l.length t H n ⟨0, id, by omega, by omega, hsm0, rfl, e20, e21, e22, hid, hidn, by rw [e5]; exact .inr ⟨rfl, hH⟩, by simp [sizes]⟩
  rintro d T H' n' ⟨j, id, hj, hn, hsm, e1, e20, e21, e22, hid, hidn, hat, hrng⟩
  unfold S18L0
  have hv' := hv.keep hsm (Nat.le_refl _)
  by_cases hlt : (j : Int) < l.length
  · have hlt' : j < l.length := by omega
    have g := hv'.nAll (by omega) hlt
    have hw := wj (j := j) (len := l.length) hlt' (by omega)
    have hok := hp.at (v := (j : Int)) (by omega) hlt
    have hlen : (sizes (l.take j)).length = j := by rw [sizes_len, List.length_take]; omega
    have hst := sizes_take hlt'
    generalize hA : sizes (l.take j) = A at *
    generalize hx : gi l (j : Int) = x at *
    have hrs := szStep_rng A x hrng (fun h => by have := hok.pair h; omega) (fun h => by have := hok.one h; omega)
    have hli : Li eInt n' H' (T 5) A := hat.lst hidn
    have hli' : Li eInt n' (H'.set (n' + 3) (some (.row x.cells 0 true))) (T 5) A := hli.keep ((Same.refl _ _).set (by omega) _) (Nat.le_refl _)
    have hat' : At eInt id (H'.set (n' + 3) (some (.row x.cells 0 true))) (T 5) A := hat.keep (Hp_ne _ _ (by omega))
    obtain ⟨xk, xn, xs, xa, xb⟩ := x
    simp only [Nd.cells] at g
    have hli : Li eInt n' H' (T 5) A := hat.lst hidn
    have hli' : Li eInt n' (H'.set (n' + 3) (some (.row [.int .i64 xk, .int .i64 xn, .string xs, .int .i64 xa, .int .i64 xb] 0 true))) (T 5) A := hli.keep ((Same.refl _ _).set (by omega) _) (Nat.le_refl _)
    have hat' : At eInt id (H'.set (n' + 3) (some (.row [.int .i64 xk, .int .i64 xn, .string xs, .int .i64 xa, .int .i64 xb] 0 true))) (T 5) A := hat.keep (Hp_ne _ _ (by omega))
    have main : ∀ N, n' + 4 ≤ N → ∃ H3, app (N + 1) 1 8 (T 5) (sl N 0 1) ((H'.set (n' + 3) (some (.row [.int .i64 xk, .int .i64 xn, .string xs, .int .i64 xa, .int .i64 xb] 0 true))).set N (some (.row [.int .i64 (szStep A ⟨xk, xn, xs, xa, xb⟩)] 1 true))) = some (sl (N + 1) 0 (A ++ [szStep A ⟨xk, xn, xs, xa, xb⟩]).length, H3) ∧ At eInt (N + 1) H3 (sl (N + 1) 0 (A ++ [szStep A ⟨xk, xn, xs, xa, xb⟩]).length) (A ++ [szStep A ⟨xk, xn, xs, xa, xb⟩]) ∧ Same n0 H0 H3 := by
      intro N hN
      obtain ⟨H3, f1, f2, f3⟩ := app_one (id1 := N) (id2 := N + 1) (bytes := 8) (szStep A ⟨xk, xn, xs, xa, xb⟩) hat' (by omega) (by decide) (by omega)
      refine ⟨H3, f1, .inr ⟨rfl, f2⟩, fun i hi => ?_⟩
      rw [f3 i (by omega) (by omega) (by omega), Hp_ne _ _ (by omega), hsm i hi]
    have fin : ∀ (TT : Tm) (H3 : Hp) (N M : Nat), n' ≤ M → Same n0 H0 H3 → TT 1 = t 1 → TT 20 = v → TT 21 = .int .i64 l.length → TT 22 = .int .i64 ((j + 1 : Nat) : Int) → n0 ≤ N → N < M → At eInt N H3 (TT 5) (A ++ [szStep A ⟨xk, xn, xs, xa, xb⟩]) → Wp (some ⟨.normal, TT, H3, M⟩) (Nxt (fun d T H' n' => ∃ (j id : Nat), j + d = l.length ∧ n ≤ n' ∧ Same n0 H0 H' ∧ T 1 = t 1 ∧ T 20 = v ∧ T 21 = .int .i64 l.length ∧ T 22 = .int .i64 j ∧ n0 ≤ id ∧ id < n' ∧ At eInt id H' (T 5) (sizes (l.take j)) ∧ ∀ y ∈ sizes (l.take j), 1 ≤ y ∧ y ≤ 1000000000) d (fun o => n ≤ o.n ∧ Same n0 H0 o.H ∧ o.e = .exit 0 ∧ o.t 1 = t 1 ∧ ∃ id, n0 ≤ id ∧ id < o.n ∧ At eInt id o.H (o.t 5) (sizes l))) := by
      intro TT H3 N M h1 h2 h3 h4 h5 h6 h7 h8 h9
      refine Wp.pure (Nxt.go (d - 1) (by omega) ⟨j + 1, N, by omega, by omega, h2, h3, h4, h5, h6, h7, h8, by rw [hst]; exact h9, fun y hy => ?_⟩)
      rw [hst] at hy
      rcases List.mem_append.1 hy with hy | hy
      · exact hrng y hy
      · simp only [List.mem_cons, List.not_mem_nil, or_false] at hy; rw [hy]; exact hrs
    by_cases c5 : xk = 5
    · have ho := hok.pair c5
      simp only at ho
      have gA := hli'.iAll ho.1.1 (by omega)
      have gB := hli'.iAll ho.2.1 (by omega)
      have rA := hrng _ (gi_mem ho.1.1 (by omega))
      have rB := hrng _ (gi_mem ho.2.1 (by omega))
      have w1 : IntKind.i64.wrap (gi A xa + gi A xb) = gi A xa + gi A xb := w64 (by omega)
      have w2 : IntKind.i64.wrap (1 + (gi A xa + gi A xb)) = 1 + (gi A xa + gi A xb) := w64 (by omega)
      have hs : (if 1000000000 < 1 + (gi A xa + gi A xb) then (1000000000 : Int) else 1 + (gi A xa + gi A xb)) = szStep A ⟨xk, xn, xs, xa, xb⟩ := by
        unfold szStep; simp only [c5, if_true]; split <;> split <;> omega
      subst c5
      obtain ⟨H3, f1, f2, f3⟩ := main (n' + 24 + 3) (by omega)
      (((repeat (first | (with_reducible apply Wp.step; case h => ((try simp (disch := omega) only [↓reduceIte, ask_true, ↓X0, X1, Nat.reduceEqDiff, Int.reduceEq, Nat.reduceAdd, Nat.reduceSub, X2, Hp_ne, Nat.reduceLeDiff, Nd.cells, minV_i, e20, e21, e22, hlt, g, hw, gA, gB, w1, w2, hs, bsl_one eInt (szStep A ⟨5, xn, xs, xa, xb⟩) (n' + 24 + 3) [.int .i64 0] (.int .i64 (szStep A ⟨5, xn, xs, xa, xb⟩)) (H'.set (n' + 3) (some (.row [.int .i64 5, .int .i64 xn, .string xs, .int .i64 xa, .int .i64 xb] 0 true))) rfl rfl (by decide), f1]); with_reducible exact rfl)) | (apply Wp.andS) | (apply Wp.orS) | ((with_reducible first | apply Wp.gs | apply Wp.cs | apply Wp.cselX | apply Wp.askT | apply Wp.iteKT | apply Wp.ikb | apply Wp.askb); case h => ((try simp (disch := omega) only [↓reduceIte, ask_true, ↓X0, X1, Nat.reduceEqDiff, Int.reduceEq, Nat.reduceAdd, Nat.reduceSub, X2, Hp_ne, Nat.reduceLeDiff, Nd.cells, minV_i, e20, e21, e22, hlt, g, hw, gA, gB, w1, w2, hs, bsl_one eInt (szStep A ⟨5, xn, xs, xa, xb⟩) (n' + 24 + 3) [.int .i64 0] (.int .i64 (szStep A ⟨5, xn, xs, xa, xb⟩)) (H'.set (n' + 3) (some (.row [.int .i64 5, .int .i64 xn, .string xs, .int .i64 xa, .int .i64 xb] 0 true))) rfl rfl (by decide), f1]); (with_reducible first | done | exact bT | exact bF))) | (with_reducible apply Wp.gu) | (simp only [↓X3]) | (simp (disch := decide) only [asks_nil, asks_in, asks_out, askB_nil, askB_in, askB_out]) | (with_reducible apply Wp.assoc))); try simp only [outOf_exit, outOf_ret]); try (with_reducible apply Wp.cargs; case h => ((try simp (disch := omega) only [↓reduceIte, ask_true, ↓X0, X1, Nat.reduceEqDiff, Int.reduceEq, Nat.reduceAdd, Nat.reduceSub, X2, Hp_ne, Nat.reduceLeDiff, Nd.cells, minV_i, e20, e21, e22, hlt, g, hw, gA, gB, w1, w2, hs, bsl_one eInt (szStep A ⟨5, xn, xs, xa, xb⟩) (n' + 24 + 3) [.int .i64 0] (.int .i64 (szStep A ⟨5, xn, xs, xa, xb⟩)) (H'.set (n' + 3) (some (.row [.int .i64 5, .int .i64 xn, .string xs, .int .i64 xa, .int .i64 xb] 0 true))) rfl rfl (by decide), f1]); with_reducible exact rfl)))
      exact fin _ _ (n' + 24 + 3 + 1) _ (by omega) f3 (by simp [put_at, e1]) (by simp [put_at, e20]) (by simp [put_at, e21]) (by simp [put_at]) (by omega) (by omega) (by simpa [put_at] using f2)
    · by_cases c6 : xk = 6 ∨ xk = 7
      · have ho := hok.one c6
        simp only at ho
        have gA := hli'.iAll ho.1 (by omega)
        have rA := hrng _ (gi_mem ho.1 (by omega))
        have w2 : IntKind.i64.wrap (1 + gi A xa) = 1 + gi A xa := w64 (by omega)
        have hs : (if 1000000000 < 1 + gi A xa then (1000000000 : Int) else 1 + gi A xa) = szStep A ⟨xk, xn, xs, xa, xb⟩ := by
          unfold szStep; simp only [c5, c6, if_true, if_false]; split <;> split <;> omega
        rcases c6 with c6 | c6
        · subst c6
          obtain ⟨H3, f1, f2, f3⟩ := main (n' + 12 + 8 + 3) (by omega)
          (((repeat (first | (with_reducible apply Wp.step; case h => ((try simp (disch := omega) only [↓reduceIte, ask_true, ↓X0, X1, Nat.reduceEqDiff, Int.reduceEq, Nat.reduceAdd, Nat.reduceSub, X2, Hp_ne, Nat.reduceLeDiff, Nd.cells, minV_i, e20, e21, e22, hlt, g, hw, gA, w2, hs, bsl_one eInt (szStep A ⟨6, xn, xs, xa, xb⟩) (n' + 12 + 8 + 3) [.int .i64 0] (.int .i64 (szStep A ⟨6, xn, xs, xa, xb⟩)) (H'.set (n' + 3) (some (.row [.int .i64 6, .int .i64 xn, .string xs, .int .i64 xa, .int .i64 xb] 0 true))) rfl rfl (by decide), f1]); with_reducible exact rfl)) | (apply Wp.andS) | (apply Wp.orS) | ((with_reducible first | apply Wp.gs | apply Wp.cs | apply Wp.cselX | apply Wp.askT | apply Wp.iteKT | apply Wp.ikb | apply Wp.askb); case h => ((try simp (disch := omega) only [↓reduceIte, ask_true, ↓X0, X1, Nat.reduceEqDiff, Int.reduceEq, Nat.reduceAdd, Nat.reduceSub, X2, Hp_ne, Nat.reduceLeDiff, Nd.cells, minV_i, e20, e21, e22, hlt, g, hw, gA, w2, hs, bsl_one eInt (szStep A ⟨6, xn, xs, xa, xb⟩) (n' + 12 + 8 + 3) [.int .i64 0] (.int .i64 (szStep A ⟨6, xn, xs, xa, xb⟩)) (H'.set (n' + 3) (some (.row [.int .i64 6, .int .i64 xn, .string xs, .int .i64 xa, .int .i64 xb] 0 true))) rfl rfl (by decide), f1]); (with_reducible first | done | exact bT | exact bF))) | (with_reducible apply Wp.gu) | (simp only [↓X3]) | (simp (disch := decide) only [asks_nil, asks_in, asks_out, askB_nil, askB_in, askB_out]) | (with_reducible apply Wp.assoc))); try simp only [outOf_exit, outOf_ret]); try (with_reducible apply Wp.cargs; case h => ((try simp (disch := omega) only [↓reduceIte, ask_true, ↓X0, X1, Nat.reduceEqDiff, Int.reduceEq, Nat.reduceAdd, Nat.reduceSub, X2, Hp_ne, Nat.reduceLeDiff, Nd.cells, minV_i, e20, e21, e22, hlt, g, hw, gA, w2, hs, bsl_one eInt (szStep A ⟨6, xn, xs, xa, xb⟩) (n' + 12 + 8 + 3) [.int .i64 0] (.int .i64 (szStep A ⟨6, xn, xs, xa, xb⟩)) (H'.set (n' + 3) (some (.row [.int .i64 6, .int .i64 xn, .string xs, .int .i64 xa, .int .i64 xb] 0 true))) rfl rfl (by decide), f1]); with_reducible exact rfl)))
          exact fin _ _ (n' + 12 + 8 + 3 + 1) _ (by omega) f3 (by simp [put_at, e1]) (by simp [put_at, e20]) (by simp [put_at, e21]) (by simp [put_at]) (by omega) (by omega) (by simpa [put_at] using f2)
        · subst c6
          obtain ⟨H3, f1, f2, f3⟩ := main (n' + 14 + 8 + 3) (by omega)
          (((repeat (first | (with_reducible apply Wp.step; case h => ((try simp (disch := omega) only [↓reduceIte, ask_true, ↓X0, X1, Nat.reduceEqDiff, Int.reduceEq, Nat.reduceAdd, Nat.reduceSub, X2, Hp_ne, Nat.reduceLeDiff, Nd.cells, minV_i, e20, e21, e22, hlt, g, hw, gA, w2, hs, bsl_one eInt (szStep A ⟨7, xn, xs, xa, xb⟩) (n' + 14 + 8 + 3) [.int .i64 0] (.int .i64 (szStep A ⟨7, xn, xs, xa, xb⟩)) (H'.set (n' + 3) (some (.row [.int .i64 7, .int .i64 xn, .string xs, .int .i64 xa, .int .i64 xb] 0 true))) rfl rfl (by decide), f1]); with_reducible exact rfl)) | (apply Wp.andS) | (apply Wp.orS) | ((with_reducible first | apply Wp.gs | apply Wp.cs | apply Wp.cselX | apply Wp.askT | apply Wp.iteKT | apply Wp.ikb | apply Wp.askb); case h => ((try simp (disch := omega) only [↓reduceIte, ask_true, ↓X0, X1, Nat.reduceEqDiff, Int.reduceEq, Nat.reduceAdd, Nat.reduceSub, X2, Hp_ne, Nat.reduceLeDiff, Nd.cells, minV_i, e20, e21, e22, hlt, g, hw, gA, w2, hs, bsl_one eInt (szStep A ⟨7, xn, xs, xa, xb⟩) (n' + 14 + 8 + 3) [.int .i64 0] (.int .i64 (szStep A ⟨7, xn, xs, xa, xb⟩)) (H'.set (n' + 3) (some (.row [.int .i64 7, .int .i64 xn, .string xs, .int .i64 xa, .int .i64 xb] 0 true))) rfl rfl (by decide), f1]); (with_reducible first | done | exact bT | exact bF))) | (with_reducible apply Wp.gu) | (simp only [↓X3]) | (simp (disch := decide) only [asks_nil, asks_in, asks_out, askB_nil, askB_in, askB_out]) | (with_reducible apply Wp.assoc))); try simp only [outOf_exit, outOf_ret]); try (with_reducible apply Wp.cargs; case h => ((try simp (disch := omega) only [↓reduceIte, ask_true, ↓X0, X1, Nat.reduceEqDiff, Int.reduceEq, Nat.reduceAdd, Nat.reduceSub, X2, Hp_ne, Nat.reduceLeDiff, Nd.cells, minV_i, e20, e21, e22, hlt, g, hw, gA, w2, hs, bsl_one eInt (szStep A ⟨7, xn, xs, xa, xb⟩) (n' + 14 + 8 + 3) [.int .i64 0] (.int .i64 (szStep A ⟨7, xn, xs, xa, xb⟩)) (H'.set (n' + 3) (some (.row [.int .i64 7, .int .i64 xn, .string xs, .int .i64 xa, .int .i64 xb] 0 true))) rfl rfl (by decide), f1]); with_reducible exact rfl)))
          exact fin _ _ (n' + 14 + 8 + 3 + 1) _ (by omega) f3 (by simp [put_at, e1]) (by simp [put_at, e20]) (by simp [put_at, e21]) (by simp [put_at]) (by omega) (by omega) (by simpa [put_at] using f2)
      · have hs : (1 : Int) = szStep A ⟨xk, xn, xs, xa, xb⟩ := by
          unfold szStep; simp only [c5, c6, if_false]; rfl
        have c6' : ¬ xk = 6 := fun h => c6 (.inl h)
        have c7' : ¬ xk = 7 := fun h => c6 (.inr h)
        have hs1 : minV (.int .i64 1) (.int .i64 1000000000) = some (.int .i64 (szStep A ⟨xk, xn, xs, xa, xb⟩)) := by rw [← hs]; rfl
        obtain ⟨H3, f1, f2, f3⟩ := main (n' + 14 + 3) (by omega)
        (((repeat (first | (with_reducible apply Wp.step; case h => ((try simp (disch := omega) only [↓reduceIte, ask_true, ↓X0, X1, Nat.reduceEqDiff, Int.reduceEq, Nat.reduceAdd, Nat.reduceSub, X2, Hp_ne, Nat.reduceLeDiff, Nd.cells, minV_i, e20, e21, e22, hlt, g, hw, c5, c6', c7', hs1, bsl_one eInt (szStep A ⟨xk, xn, xs, xa, xb⟩) (n' + 14 + 3) [.int .i64 0] (.int .i64 (szStep A ⟨xk, xn, xs, xa, xb⟩)) (H'.set (n' + 3) (some (.row [.int .i64 xk, .int .i64 xn, .string xs, .int .i64 xa, .int .i64 xb] 0 true))) rfl rfl (by decide), f1]); with_reducible exact rfl)) | (apply Wp.andS) | (apply Wp.orS) | ((with_reducible first | apply Wp.gs | apply Wp.cs | apply Wp.cselX | apply Wp.askT | apply Wp.iteKT | apply Wp.ikb | apply Wp.askb); case h => ((try simp (disch := omega) only [↓reduceIte, ask_true, ↓X0, X1, Nat.reduceEqDiff, Int.reduceEq, Nat.reduceAdd, Nat.reduceSub, X2, Hp_ne, Nat.reduceLeDiff, Nd.cells, minV_i, e20, e21, e22, hlt, g, hw, c5, c6', c7', hs1, bsl_one eInt (szStep A ⟨xk, xn, xs, xa, xb⟩) (n' + 14 + 3) [.int .i64 0] (.int .i64 (szStep A ⟨xk, xn, xs, xa, xb⟩)) (H'.set (n' + 3) (some (.row [.int .i64 xk, .int .i64 xn, .string xs, .int .i64 xa, .int .i64 xb] 0 true))) rfl rfl (by decide), f1]); (with_reducible first | done | exact bT | exact bF))) | (with_reducible apply Wp.gu) | (simp only [↓X3]) | (simp (disch := decide) only [asks_nil, asks_in, asks_out, askB_nil, askB_in, askB_out]) | (with_reducible apply Wp.assoc))); try simp only [outOf_exit, outOf_ret]); try (with_reducible apply Wp.cargs; case h => ((try simp (disch := omega) only [↓reduceIte, ask_true, ↓X0, X1, Nat.reduceEqDiff, Int.reduceEq, Nat.reduceAdd, Nat.reduceSub, X2, Hp_ne, Nat.reduceLeDiff, Nd.cells, minV_i, e20, e21, e22, hlt, g, hw, c5, c6', c7', hs1, bsl_one eInt (szStep A ⟨xk, xn, xs, xa, xb⟩) (n' + 14 + 3) [.int .i64 0] (.int .i64 (szStep A ⟨xk, xn, xs, xa, xb⟩)) (H'.set (n' + 3) (some (.row [.int .i64 xk, .int .i64 xn, .string xs, .int .i64 xa, .int .i64 xb] 0 true))) rfl rfl (by decide), f1]); with_reducible exact rfl)))
        exact fin _ _ (n' + 14 + 3 + 1) _ (by omega) f3 (by simp [put_at, e1]) (by simp [put_at, e20]) (by simp [put_at, e21]) (by simp [put_at]) (by omega) (by omega) (by simpa [put_at] using f2)
  · (((repeat (first | (with_reducible apply Wp.step; case h => ((try simp (disch := omega) only [↓reduceIte, ask_true, ↓X0, X1, Nat.reduceEqDiff, Int.reduceEq, Nat.reduceAdd, Nat.reduceSub, e20, e21, e22, hlt]); with_reducible exact rfl)) | (apply Wp.andS) | (apply Wp.orS) | ((with_reducible first | apply Wp.gs | apply Wp.cs | apply Wp.cselX | apply Wp.askT | apply Wp.iteKT | apply Wp.ikb | apply Wp.askb); case h => ((try simp (disch := omega) only [↓reduceIte, ask_true, ↓X0, X1, Nat.reduceEqDiff, Int.reduceEq, Nat.reduceAdd, Nat.reduceSub, e20, e21, e22, hlt]); (with_reducible first | done | exact bT | exact bF))) | (with_reducible apply Wp.gu) | (simp only [↓X3]) | (simp (disch := decide) only [asks_nil, asks_in, asks_out, askB_nil, askB_in, askB_out]) | (with_reducible apply Wp.assoc))); try simp only [outOf_exit, outOf_ret]); try (with_reducible apply Wp.cargs; case h => ((try simp (disch := omega) only [↓reduceIte, ask_true, ↓X0, X1, Nat.reduceEqDiff, Int.reduceEq, Nat.reduceAdd, Nat.reduceSub, e20, e21, e22, hlt]); with_reducible exact rfl)))
    rw [List.take_of_length_le (by omega)] at hat
    exact Wp.pure (Nxt.exit ⟨Nat.le_trans hn (Nat.le_add_right _ _), hsm, rfl, by simp [put_at, e1], id, hid, Nat.lt_of_lt_of_le hidn (Nat.le_add_right _ _), by simpa [put_at] using hat⟩)
theorem k18 {n : Nat} {H : Hp} {v : Value} {l : List Nd} (hv : Li eNode n H v l) (hs : ∀ x ∈ l, x.s.size ≤ 1048576) (hl : l.length ≤ 1048576) (w : Int) : Rt Try.prog 18 [.agg ⟨[v]⟩, .int .i64 w] H n (.int .i64 (sizeOf l w)) := by
  apply Rt.of
  rw [c18]; unfold S18
  have s1 : Same n H (H.set n (some (.row [v] 0 true))) := by (repeat (first | exact Same.refl _ _ | refine Same.set ?_ (by omega) _))
  have v1 : Li eNode n (H.set n (some (.row [v] 0 true))) v l := hv.keep s1 (Nat.le_refl _)
  obtain ⟨H2, n2, a1, a2, a3⟩ := k22 (v1.up (show n ≤ n + 11 by omega)) hs hl
  have v2 : Li eNode n H2 v l := v1.keep a2 (by omega)
  have x2 : H2 n = some (.row [v] 0 true) := by rw [a2 n (by omega)]; exact Hp_same _ _ _
  have s2 : Same n H H2 := s1.trans (a2.less (show n ≤ n + 11 by omega)) (Nat.le_refl _)
  unfold sizeOf
  by_cases hp : PoolOk l
  · obtain ⟨H3, n3, b1, b2, b3⟩ := k28 (v2.up (show n ≤ n2 by omega)) hl w
    have v3 : Li eNode n H3 v l := v2.keep b2 (by omega)
    have s3 : Same n H H3 := s2.trans (b2.less (show n ≤ n2 by omega)) (Nat.le_refl _)
    have x3 : H3 n = some (.row [v] 0 true) := by rw [b2 n (by omega)]; exact x2
    by_cases hi : 0 ≤ w ∧ w < (l.length : Int)
    · (((repeat (first | (with_reducible apply Wp.step; case h => ((try simp (disch := omega) only [↓reduceIte, ask_true, ↓X0, X1, Nat.reduceEqDiff, Int.reduceEq, Nat.reduceAdd, Nat.reduceSub, X2, Hp_ne, Nat.reduceLeDiff, a3, hp, x2, b3, hi.1, hi.2, bsl_zero, x3, v3.len, show ¬ n = n3 by omega]); with_reducible exact rfl)) | (apply Wp.andS) | (apply Wp.orS) | ((with_reducible first | apply Wp.gs | apply Wp.cs | apply Wp.cselX | apply Wp.askT | apply Wp.iteKT | apply Wp.ikb | apply Wp.askb); case h => ((try simp (disch := omega) only [↓reduceIte, ask_true, ↓X0, X1, Nat.reduceEqDiff, Int.reduceEq, Nat.reduceAdd, Nat.reduceSub, X2, Hp_ne, Nat.reduceLeDiff, a3, hp, x2, b3, hi.1, hi.2, bsl_zero, x3, v3.len, show ¬ n = n3 by omega]); (with_reducible first | done | exact bT | exact bF))) | (with_reducible apply Wp.gu) | (simp only [↓X3]) | (simp (disch := decide) only [asks_nil, asks_in, asks_out, askB_nil, askB_in, askB_out]) | (with_reducible apply Wp.assoc))); try simp only [outOf_exit, outOf_ret]); try (with_reducible apply Wp.cargs; case h => ((try simp (disch := omega) only [↓reduceIte, ask_true, ↓X0, X1, Nat.reduceEqDiff, Int.reduceEq, Nat.reduceAdd, Nat.reduceSub, X2, Hp_ne, Nat.reduceLeDiff, a3, hp, x2, b3, hi.1, hi.2, bsl_zero, x3, v3.len, show ¬ n = n3 by omega]); with_reducible exact rfl)))
      refine Wp.bind (l18 (n0 := n + 1) (H0 := H3) (v3.up (by omega)) hp _ _ _ n3 (by omega) ((Same.refl _ _).set (show n + 1 ≤ n3 by omega) _) (by omega) (by omega) (by simp [put_at]) (by simp [put_at]) (by simp [put_at]) (by simp [put_at]) (Hp_same _ _ _)) ?_
      rintro ⟨oe, ot, oH, on⟩ ⟨f2, f3, f4, f5, id, f6, f7, f8⟩
      simp only at f2 f3 f4 f5 f6 f7 f8
      have f5 : ot 1 = .int .i64 w := by rw [f5]; simp [put_at, argsT_at]
      have g := (f8.lst f7).iAll hi.1 (by rw [sizes_len]; exact hi.2)
      (((repeat (first | (with_reducible apply Wp.step; case h => ((try simp (disch := omega) only [↓reduceIte, ask_true, ↓X0, X1, Nat.reduceEqDiff, Int.reduceEq, Nat.reduceAdd, Nat.reduceSub, f5, g]); with_reducible exact rfl)) | (apply Wp.andS) | (apply Wp.orS) | ((with_reducible first | apply Wp.gs | apply Wp.cs | apply Wp.cselX | apply Wp.askT | apply Wp.iteKT | apply Wp.ikb | apply Wp.askb); case h => ((try simp (disch := omega) only [↓reduceIte, ask_true, ↓X0, X1, Nat.reduceEqDiff, Int.reduceEq, Nat.reduceAdd, Nat.reduceSub, f5, g]); (with_reducible first | done | exact bT | exact bF))) | (with_reducible apply Wp.gu) | (simp only [↓X3]) | (simp (disch := decide) only [asks_nil, asks_in, asks_out, askB_nil, askB_in, askB_out]) | (with_reducible apply Wp.assoc))); try simp only [outOf_exit, outOf_ret]); try (with_reducible apply Wp.cargs; case h => ((try simp (disch := omega) only [↓reduceIte, ask_true, ↓X0, X1, Nat.reduceEqDiff, Int.reduceEq, Nat.reduceAdd, Nat.reduceSub, f5, g]); with_reducible exact rfl)))
      exact Wp.pure ⟨by simp only; omega, s3.trans (f3.less (by omega)) (Nat.le_refl _), by simp only [hp, hi, and_self, if_true]⟩
    · (((repeat (first | (with_reducible apply Wp.step; case h => ((try simp (disch := omega) only [↓reduceIte, ask_true, ↓X0, X1, Nat.reduceEqDiff, Int.reduceEq, Nat.reduceAdd, Nat.reduceSub, X2, Hp_ne, Nat.reduceLeDiff, a3, hp, x2, b3, hi]); with_reducible exact rfl)) | (apply Wp.andS) | (apply Wp.orS) | ((with_reducible first | apply Wp.gs | apply Wp.cs | apply Wp.cselX | apply Wp.askT | apply Wp.iteKT | apply Wp.ikb | apply Wp.askb); case h => ((try simp (disch := omega) only [↓reduceIte, ask_true, ↓X0, X1, Nat.reduceEqDiff, Int.reduceEq, Nat.reduceAdd, Nat.reduceSub, X2, Hp_ne, Nat.reduceLeDiff, a3, hp, x2, b3, hi]); (with_reducible first | done | exact bT | exact bF))) | (with_reducible apply Wp.gu) | (simp only [↓X3]) | (simp (disch := decide) only [asks_nil, asks_in, asks_out, askB_nil, askB_in, askB_out]) | (with_reducible apply Wp.assoc))); try simp only [outOf_exit, outOf_ret]); try (with_reducible apply Wp.cargs; case h => ((try simp (disch := omega) only [↓reduceIte, ask_true, ↓X0, X1, Nat.reduceEqDiff, Int.reduceEq, Nat.reduceAdd, Nat.reduceSub, X2, Hp_ne, Nat.reduceLeDiff, a3, hp, x2, b3, hi]); with_reducible exact rfl)))
      exact Wp.pure ⟨by simp only; omega, s3, by simp only [hi, and_false, if_false]⟩
  · (((repeat (first | (with_reducible apply Wp.step; case h => ((try simp (disch := omega) only [↓reduceIte, ask_true, ↓X0, X1, Nat.reduceEqDiff, Int.reduceEq, Nat.reduceAdd, Nat.reduceSub, X2, Hp_ne, Nat.reduceLeDiff, a3, hp, x2]); with_reducible exact rfl)) | (apply Wp.andS) | (apply Wp.orS) | ((with_reducible first | apply Wp.gs | apply Wp.cs | apply Wp.cselX | apply Wp.askT | apply Wp.iteKT | apply Wp.ikb | apply Wp.askb); case h => ((try simp (disch := omega) only [↓reduceIte, ask_true, ↓X0, X1, Nat.reduceEqDiff, Int.reduceEq, Nat.reduceAdd, Nat.reduceSub, X2, Hp_ne, Nat.reduceLeDiff, a3, hp, x2]); (with_reducible first | done | exact bT | exact bF))) | (with_reducible apply Wp.gu) | (simp only [↓X3]) | (simp (disch := decide) only [asks_nil, asks_in, asks_out, askB_nil, askB_in, askB_out]) | (with_reducible apply Wp.assoc))); try simp only [outOf_exit, outOf_ret]); try (with_reducible apply Wp.cargs; case h => ((try simp (disch := omega) only [↓reduceIte, ask_true, ↓X0, X1, Nat.reduceEqDiff, Int.reduceEq, Nat.reduceAdd, Nat.reduceSub, X2, Hp_ne, Nat.reduceLeDiff, a3, hp, x2]); with_reducible exact rfl)))
    exact Wp.pure ⟨by simp only; omega, s2, by simp only [hp, false_and, if_false]⟩
end Go.Proofs.Ytdnokdgkccnbnaa.Ax
