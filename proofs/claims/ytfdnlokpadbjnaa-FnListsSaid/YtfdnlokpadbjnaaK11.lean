/- Contracts: what a list has. -/
import Derived.Test.YtfdnlokpadbjnaaK10
set_option linter.unusedVariables false
set_option linter.unusedSimpArgs false
namespace Go.Proofs.Ytfdnlokpadbjnaa.Ax
open Go
/-- The A of a value, of its B, and so on, and whether it ends with nothing. -/
def chain (l : List Nd) : Nat → Int → List Int × Bool
  | 0, _ => ([], false)
  | f + 1, v => if (gi l v).k = 5 then ((gi l v).a :: (chain l f (gi l v).b).1, (chain l f (gi l v).b).2) else ([], decide ((gi l v).k = 1))
theorem chain_fuel {l : List Nd} (hp : PoolOk l) : ∀ (f g : Nat) (v : Int), 0 ≤ v → v < l.length → v < f → v < g → chain l f v = chain l g v
  | 0, _, v, h0, _, hf, _ => by omega
  | _, 0, v, h0, _, _, hg => by omega
  | f + 1, g + 1, v, h0, h1, hf, hg => by
    unfold chain
    by_cases hk : (gi l v).k = 5
    · have := (hp.at h0 h1).pair hk
      rw [if_pos hk, if_pos hk, chain_fuel hp f g _ this.2.1 (by omega) (by omega) (by omega)]
    · rw [if_neg hk, if_neg hk]
def chainOf (l : List Nd) (v : Int) : List Int × Bool := chain l (v.toNat + 1) v
theorem chainOf_eq {l : List Nd} (hp : PoolOk l) {v : Int} (h0 : 0 ≤ v) (h1 : v < l.length) : chainOf l v = if (gi l v).k = 5 then ((gi l v).a :: (chainOf l (gi l v).b).1, (chainOf l (gi l v).b).2) else ([], decide ((gi l v).k = 1)) := by
  unfold chainOf
  rw [chain]
  by_cases hk : (gi l v).k = 5
  · have := (hp.at h0 h1).pair hk
    rw [if_pos hk, if_pos hk, chain_fuel hp v.toNat ((gi l v).b.toNat + 1) _ this.2.1 (by omega) (by omega) (by omega)]
  · rw [if_neg hk, if_neg hk]
theorem chain_len (l : List Nd) : ∀ (f : Nat) (v : Int), (chain l f v).1.length ≤ f
  | 0, v => by simp [chain]
  | f + 1, v => by
    unfold chain
    split
    · simp only [List.length_cons]; have := chain_len l f (gi l v).b; omega
    · simp
theorem chainOf_len {l : List Nd} {v : Int} (h0 : 0 ≤ v) (h1 : v < l.length) : (chainOf l v).1.length ≤ l.length := by
  have := chain_len l (v.toNat + 1) v
  unfold chainOf; omega
theorem l53 {n0 b o : Nat} {H0 : Hp} {v : Value} {l : List Nd} {cs : List Value} {e : Nat} {rw_ : Bool} (hv : Li eNode n0 H0 v l) (hp : PoolOk l) (hbn : b < n0) (hb : H0 b = some (.row cs e rw_)) (ho : cs[o]? = some v) (w : Int) (h0 : 0 ≤ w) (h1 : w < l.length) : ∀ t H n id, n0 ≤ n → Same n0 H0 H → n0 ≤ id → id < n → t 0 = ptr b o → t 1 = .int .i64 w → t 6 = sl id 0 0 → H id = some (.row [] 1 true) →
    Wp (Loop (S53L0 (Call Try.prog) Loop) t H n) (fun out => n ≤ out.n ∧ Same n0 H0 out.H ∧ out.e = .exit 0 ∧ out.t 0 = ptr b o ∧ ∃ (u : Int) (id : Nat), 0 ≤ u ∧ u < l.length ∧ out.t 1 = .int .i64 u ∧ (chainOf l w).2 = decide ((gi l u).k = 1) ∧ n0 ≤ id ∧ id < out.n ∧ At eInt id out.H (out.t 6) (chainOf l w).1) := by
  intro t H n id hn0 hsm0 hid hidn e0 e1 e6 hH
  have hl := hp.2
  refine Loop_rule (fun d T H' n' => ∃ (u : Int) (id : Nat) (acc : List Int), 0 ≤ u ∧ u < l.length ∧ d = u.toNat ∧ n ≤ n' ∧ Same n0 H0 H' ∧ T 0 = ptr b o ∧ T 1 = .int .i64 u ∧ n0 ≤ id ∧ id < n' ∧ At eInt id H' (T 6) acc ∧ (acc ++ (chainOf l u).1 = (chainOf l w).1) ∧ (chainOf l u).2 = (chainOf l w).2) _ ?_ w.toNat t H n ⟨w, id, [], h0, h1, rfl, by omega, hsm0, e0, e1, hid, hidn, by rw [e6]; exact .inr ⟨rfl, hH⟩, by simp, rfl⟩
  rintro d T H' n' ⟨u, id, acc, hu0, hu1, hd, hn, hsm, e0, e1, hid, hidn, hat, hc1, hc2⟩
  unfold S53L0
  have hv' := hv.keep hsm (Nat.le_refl _)
  have hb' : H' b = some (.row cs e rw_) := by rw [hsm b hbn]; exact hb
  have g := hv'.nAll hu0 hu1
  have hce := chainOf_eq hp hu0 hu1
  by_cases hk : (gi l u).k = 5
  · have hpr := (hp.at hu0 hu1).pair hk
    rw [if_pos hk] at hce
    rw [hce] at hc1 hc2
    simp only at hc1 hc2
    have hlen : acc.length ≤ 3000 := by
      have hle := congrArg List.length hc1
      rw [List.length_append] at hle
      have := chainOf_len h0 h1
      omega
    obtain ⟨H3, f1, f2, f3⟩ := app_one (id1 := n' + 18) (id2 := n' + 19) (bytes := 8) (gi l u).a hat (by omega) (by decide) (by omega)
    have hsm3 : Same n0 H0 H3 := fun i hi => by rw [f3 i (by omega) (by omega) (by omega), hsm i hi]
    have g3 := (hv.keep hsm3 (Nat.le_refl _)).nAll hu0 hu1
    have hb3 : H3 b = some (.row cs e rw_) := by rw [hsm3 b hbn]; exact hb
    (((repeat (first | (with_reducible apply Wp.step; case h => ((try simp (disch := omega) only [↓reduceIte, ask_true, ↓X0, X1, Nat.reduceEqDiff, Int.reduceEq, Nat.reduceAdd, Nat.reduceSub, e0, e1, Nat.add_zero, ld_r, hb', rowGet_row, ho, g, hk, bsl_one eInt (gi l u).a (n' + 18) [.int .i64 0] (.int .i64 (gi l u).a) H' rfl rfl (by decide), f1, hb3, g3]); with_reducible exact rfl)) | (apply Wp.andS) | (apply Wp.orS) | ((with_reducible first | apply Wp.gs | apply Wp.cs | apply Wp.cselX | apply Wp.askT | apply Wp.iteKT | apply Wp.ikb); case h => ((try simp (disch := omega) only [↓reduceIte, ask_true, ↓X0, X1, Nat.reduceEqDiff, Int.reduceEq, Nat.reduceAdd, Nat.reduceSub, e0, e1, Nat.add_zero, ld_r, hb', rowGet_row, ho, g, hk, bsl_one eInt (gi l u).a (n' + 18) [.int .i64 0] (.int .i64 (gi l u).a) H' rfl rfl (by decide), f1, hb3, g3]); (with_reducible first | done | exact bT | exact bF))) | (with_reducible apply Wp.gu) | (simp only [↓X3]) | (with_reducible apply Wp.assoc))); try simp only [outOf_exit, outOf_ret]); try (with_reducible apply Wp.cargs; case h => ((try simp (disch := omega) only [↓reduceIte, ask_true, ↓X0, X1, Nat.reduceEqDiff, Int.reduceEq, Nat.reduceAdd, Nat.reduceSub, e0, e1, Nat.add_zero, ld_r, hb', rowGet_row, ho, g, hk, bsl_one eInt (gi l u).a (n' + 18) [.int .i64 0] (.int .i64 (gi l u).a) H' rfl rfl (by decide), f1, hb3, g3]); with_reducible exact rfl)))
    exact Wp.pure (Nxt.go (gi l u).b.toNat (by omega) ⟨(gi l u).b, n' + 19, acc ++ [(gi l u).a], hpr.2.1, by omega, rfl, by omega, hsm3, by simp [put_at, e0], by simp [put_at], by omega, by omega, by simp only [put_at]; exact .inr ⟨rfl, f2⟩, by rw [List.append_assoc]; exact hc1, hc2⟩)
  · rw [if_neg hk] at hce
    rw [hce] at hc1 hc2
    (((repeat (first | (with_reducible apply Wp.step; case h => ((try simp (disch := omega) only [↓reduceIte, ask_true, ↓X0, X1, Nat.reduceEqDiff, Int.reduceEq, Nat.reduceAdd, Nat.reduceSub, e0, e1, Nat.add_zero, ld_r, hb', rowGet_row, ho, g, hk]); with_reducible exact rfl)) | (apply Wp.andS) | (apply Wp.orS) | ((with_reducible first | apply Wp.gs | apply Wp.cs | apply Wp.cselX | apply Wp.askT | apply Wp.iteKT | apply Wp.ikb); case h => ((try simp (disch := omega) only [↓reduceIte, ask_true, ↓X0, X1, Nat.reduceEqDiff, Int.reduceEq, Nat.reduceAdd, Nat.reduceSub, e0, e1, Nat.add_zero, ld_r, hb', rowGet_row, ho, g, hk]); (with_reducible first | done | exact bT | exact bF))) | (with_reducible apply Wp.gu) | (simp only [↓X3]) | (with_reducible apply Wp.assoc))); try simp only [outOf_exit, outOf_ret]); try (with_reducible apply Wp.cargs; case h => ((try simp (disch := omega) only [↓reduceIte, ask_true, ↓X0, X1, Nat.reduceEqDiff, Int.reduceEq, Nat.reduceAdd, Nat.reduceSub, e0, e1, Nat.add_zero, ld_r, hb', rowGet_row, ho, g, hk]); with_reducible exact rfl)))
    refine Wp.pure (Nxt.exit ⟨Nat.le_trans hn (Nat.le_add_right _ _), hsm, rfl, by simp [put_at, e0], u, id, hu0, hu1, by simp [put_at, e1], hc2.symm, hid, Nat.lt_of_lt_of_le hidn (Nat.le_add_right _ _), ?_⟩)
    rw [← hc1, List.append_nil]
    simpa [put_at] using hat
theorem k53 {n b o : Nat} {H : Hp} {v : Value} {l : List Nd} {cs : List Value} {e : Nat} {rw_ : Bool} (hv : Li eNode n H v l) (hp : PoolOk l) (hbn : b < n) (hb : H b = some (.row cs e rw_)) (ho : cs[o]? = some v) (w : Int) (h0 : 0 ≤ w) (h1 : w < l.length) : RtN Try.prog 53 [ptr b o, .int .i64 w] H n (fun r H' n' => ∃ u, r = .tuple ⟨[u, .bool (chainOf l w).2]⟩ ∧ New eInt n n' H' u (chainOf l w).1) := by
  apply RtN.of
  rw [c53]; unfold S53
  (((repeat (first | (with_reducible apply Wp.step; case h => ((try simp (disch := omega) only [↓reduceIte, ask_true, ↓X0, X1, Nat.reduceEqDiff, Int.reduceEq, Nat.reduceAdd, Nat.reduceSub, bsl_zero]); with_reducible exact rfl)) | (apply Wp.andS) | (apply Wp.orS) | ((with_reducible first | apply Wp.gs | apply Wp.cs | apply Wp.cselX | apply Wp.askT | apply Wp.iteKT | apply Wp.ikb); case h => ((try simp (disch := omega) only [↓reduceIte, ask_true, ↓X0, X1, Nat.reduceEqDiff, Int.reduceEq, Nat.reduceAdd, Nat.reduceSub, bsl_zero]); (with_reducible first | done | exact bT | exact bF))) | (with_reducible apply Wp.gu) | (simp only [↓X3]) | (with_reducible apply Wp.assoc))); try simp only [outOf_exit, outOf_ret]); try (with_reducible apply Wp.cargs; case h => ((try simp (disch := omega) only [↓reduceIte, ask_true, ↓X0, X1, Nat.reduceEqDiff, Int.reduceEq, Nat.reduceAdd, Nat.reduceSub, bsl_zero]); with_reducible exact rfl)))
  refine Wp.bind (l53 (n0 := n) (H0 := H) hv hp hbn hb ho w h0 h1 _ _ _ (n + 2) (by omega) ((Same.refl _ _).set (by omega) _) (by omega) (by omega) (by simp [put_at, argsT_at]) (by simp [put_at, argsT_at]) (by simp [put_at]) (Hp_same _ _ _)) ?_
  rintro ⟨oe, ot, oH, on⟩ ⟨f2, f3, f4, f5, u, id, f6, f7, f8, f9, f10, f11, f12⟩
  simp only at f2 f3 f4 f5 f6 f7 f8 f9 f10 f11 f12
  have g := (hv.keep f3 (Nat.le_refl _)).nAll f6 f7
  have hb' : oH b = some (.row cs e rw_) := by rw [f3 b hbn]; exact hb
  have hnt : notTup (ot 6) = true := by rcases f12 with ⟨h, _⟩ | ⟨h, _⟩ <;> rw [h] <;> rfl
  (((repeat (first | (with_reducible apply Wp.step; case h => ((try simp (disch := omega) only [↓reduceIte, ask_true, ↓X0, X1, Nat.reduceEqDiff, Int.reduceEq, Nat.reduceAdd, Nat.reduceSub, f5, f8, Nat.add_zero, ld_r, hb', rowGet_row, ho, g, hnt]); with_reducible exact rfl)) | (apply Wp.andS) | (apply Wp.orS) | ((with_reducible first | apply Wp.gs | apply Wp.cs | apply Wp.cselX | apply Wp.askT | apply Wp.iteKT | apply Wp.ikb); case h => ((try simp (disch := omega) only [↓reduceIte, ask_true, ↓X0, X1, Nat.reduceEqDiff, Int.reduceEq, Nat.reduceAdd, Nat.reduceSub, f5, f8, Nat.add_zero, ld_r, hb', rowGet_row, ho, g, hnt]); (with_reducible first | done | exact bT | exact bF))) | (with_reducible apply Wp.gu) | (simp only [↓X3]) | (with_reducible apply Wp.assoc))); try simp only [outOf_exit, outOf_ret]); try (with_reducible apply Wp.cargs; case h => ((try simp (disch := omega) only [↓reduceIte, ask_true, ↓X0, X1, Nat.reduceEqDiff, Int.reduceEq, Nat.reduceAdd, Nat.reduceSub, f5, f8, Nat.add_zero, ld_r, hb', rowGet_row, ho, g, hnt]); with_reducible exact rfl)))
  exact Wp.pure ⟨by simp only; omega, f3, ot 6, by rw [f9], id, f10, by simp only; omega, f12⟩
theorem l55 {n0 b : Nat} {H0 : Hp} {v : Value} {l : List Nd} {cs : List Value} {e : Nat} {rw_ : Bool} (hv : Li eNode n0 H0 v l) (hp : PoolOk l) (hbn : b < n0) (hb : H0 b = some (.row cs e rw_)) (ho : cs[0]? = some v) (w : Int) (h0 : 0 ≤ w) (h1 : w < l.length) : ∀ t H n id, n0 ≤ n → Same n0 H0 H → n0 ≤ id → id < n → t 2 = ptr b 0 → t 1 = .int .i64 w → t 6 = sl id 0 0 → H id = some (.row [] 1 true) →
    Wp (Loop (S55L0 (Call Try.prog) Loop) t H n) (fun out => n ≤ out.n ∧ Same n0 H0 out.H ∧ out.e = .exit 0 ∧ out.t 2 = ptr b 0 ∧ ∃ (u : Int) (id : Nat), 0 ≤ u ∧ u < l.length ∧ out.t 1 = .int .i64 u ∧ (chainOf l w).2 = decide ((gi l u).k = 1) ∧ n0 ≤ id ∧ id < out.n ∧ At eInt id out.H (out.t 6) (chainOf l w).1) := by
  intro t H n id hn0 hsm0 hid hidn e0 e1 e6 hH
  have hl := hp.2
  refine Loop_rule (fun d T H' n' => ∃ (u : Int) (id : Nat) (acc : List Int), 0 ≤ u ∧ u < l.length ∧ d = u.toNat ∧ n ≤ n' ∧ Same n0 H0 H' ∧ T 2 = ptr b 0 ∧ T 1 = .int .i64 u ∧ n0 ≤ id ∧ id < n' ∧ At eInt id H' (T 6) acc ∧ (acc ++ (chainOf l u).1 = (chainOf l w).1) ∧ (chainOf l u).2 = (chainOf l w).2) _ ?_ w.toNat t H n ⟨w, id, [], h0, h1, rfl, by omega, hsm0, e0, e1, hid, hidn, by rw [e6]; exact .inr ⟨rfl, hH⟩, by simp, rfl⟩
  rintro d T H' n' ⟨u, id, acc, hu0, hu1, hd, hn, hsm, e0, e1, hid, hidn, hat, hc1, hc2⟩
  unfold S55L0
  have hv' := hv.keep hsm (Nat.le_refl _)
  have hb' : H' b = some (.row cs e rw_) := by rw [hsm b hbn]; exact hb
  have g := hv'.nAll hu0 hu1
  have hce := chainOf_eq hp hu0 hu1
  by_cases hk : (gi l u).k = 5
  · have hpr := (hp.at hu0 hu1).pair hk
    rw [if_pos hk] at hce
    rw [hce] at hc1 hc2
    simp only at hc1 hc2
    have hlen : acc.length ≤ 3000 := by
      have hle := congrArg List.length hc1
      rw [List.length_append] at hle
      have := chainOf_len h0 h1
      omega
    obtain ⟨H3, f1, f2, f3⟩ := app_one (id1 := n' + 14) (id2 := n' + 15) (bytes := 8) (gi l u).a hat (by omega) (by decide) (by omega)
    have hsm3 : Same n0 H0 H3 := fun i hi => by rw [f3 i (by omega) (by omega) (by omega), hsm i hi]
    have g3 := (hv.keep hsm3 (Nat.le_refl _)).nAll hu0 hu1
    have hb3 : H3 b = some (.row cs e rw_) := by rw [hsm3 b hbn]; exact hb
    (((repeat (first | (with_reducible apply Wp.step; case h => ((try simp (disch := omega) only [↓reduceIte, ask_true, ↓X0, X1, Nat.reduceEqDiff, Int.reduceEq, Nat.reduceAdd, Nat.reduceSub, e0, e1, Nat.add_zero, ld_r, hb', rowGet_row, ho, g, hk, bsl_one eInt (gi l u).a (n' + 14) [.int .i64 0] (.int .i64 (gi l u).a) H' rfl rfl (by decide), f1, hb3, g3]); with_reducible exact rfl)) | (apply Wp.andS) | (apply Wp.orS) | ((with_reducible first | apply Wp.gs | apply Wp.cs | apply Wp.cselX | apply Wp.askT | apply Wp.iteKT | apply Wp.ikb); case h => ((try simp (disch := omega) only [↓reduceIte, ask_true, ↓X0, X1, Nat.reduceEqDiff, Int.reduceEq, Nat.reduceAdd, Nat.reduceSub, e0, e1, Nat.add_zero, ld_r, hb', rowGet_row, ho, g, hk, bsl_one eInt (gi l u).a (n' + 14) [.int .i64 0] (.int .i64 (gi l u).a) H' rfl rfl (by decide), f1, hb3, g3]); (with_reducible first | done | exact bT | exact bF))) | (with_reducible apply Wp.gu) | (simp only [↓X3]) | (with_reducible apply Wp.assoc))); try simp only [outOf_exit, outOf_ret]); try (with_reducible apply Wp.cargs; case h => ((try simp (disch := omega) only [↓reduceIte, ask_true, ↓X0, X1, Nat.reduceEqDiff, Int.reduceEq, Nat.reduceAdd, Nat.reduceSub, e0, e1, Nat.add_zero, ld_r, hb', rowGet_row, ho, g, hk, bsl_one eInt (gi l u).a (n' + 14) [.int .i64 0] (.int .i64 (gi l u).a) H' rfl rfl (by decide), f1, hb3, g3]); with_reducible exact rfl)))
    exact Wp.pure (Nxt.go (gi l u).b.toNat (by omega) ⟨(gi l u).b, n' + 15, acc ++ [(gi l u).a], hpr.2.1, by omega, rfl, by omega, hsm3, by simp [put_at, e0], by simp [put_at], by omega, by omega, by simp only [put_at]; exact .inr ⟨rfl, f2⟩, by rw [List.append_assoc]; exact hc1, hc2⟩)
  · rw [if_neg hk] at hce
    rw [hce] at hc1 hc2
    (((repeat (first | (with_reducible apply Wp.step; case h => ((try simp (disch := omega) only [↓reduceIte, ask_true, ↓X0, X1, Nat.reduceEqDiff, Int.reduceEq, Nat.reduceAdd, Nat.reduceSub, e0, e1, Nat.add_zero, ld_r, hb', rowGet_row, ho, g, hk]); with_reducible exact rfl)) | (apply Wp.andS) | (apply Wp.orS) | ((with_reducible first | apply Wp.gs | apply Wp.cs | apply Wp.cselX | apply Wp.askT | apply Wp.iteKT | apply Wp.ikb); case h => ((try simp (disch := omega) only [↓reduceIte, ask_true, ↓X0, X1, Nat.reduceEqDiff, Int.reduceEq, Nat.reduceAdd, Nat.reduceSub, e0, e1, Nat.add_zero, ld_r, hb', rowGet_row, ho, g, hk]); (with_reducible first | done | exact bT | exact bF))) | (with_reducible apply Wp.gu) | (simp only [↓X3]) | (with_reducible apply Wp.assoc))); try simp only [outOf_exit, outOf_ret]); try (with_reducible apply Wp.cargs; case h => ((try simp (disch := omega) only [↓reduceIte, ask_true, ↓X0, X1, Nat.reduceEqDiff, Int.reduceEq, Nat.reduceAdd, Nat.reduceSub, e0, e1, Nat.add_zero, ld_r, hb', rowGet_row, ho, g, hk]); with_reducible exact rfl)))
    refine Wp.pure (Nxt.exit ⟨Nat.le_trans hn (Nat.le_add_right _ _), hsm, rfl, by simp [put_at, e0], u, id, hu0, hu1, by simp [put_at, e1], hc2.symm, hid, Nat.lt_of_lt_of_le hidn (Nat.le_add_right _ _), ?_⟩)
    rw [← hc1, List.append_nil]
    simpa [put_at] using hat
/-- The answer, for a value that is no list, is nothing. -/
def listOf (l : List Nd) (w : Int) : List Int × Bool := if (chainOf l w).2 = true then ((chainOf l w).1, true) else ([], false)
theorem k55 {n : Nat} {H : Hp} {v : Value} {l : List Nd} (hv : Li eNode n H v l) (hp : PoolOk l) (w : Int) (h0 : 0 ≤ w) (h1 : w < l.length) : RtN Try.prog 55 [.agg ⟨[v]⟩, .int .i64 w] H n (fun r H' n' => ∃ u, r = .tuple ⟨[u, .bool (listOf l w).2]⟩ ∧ New eInt n n' H' u (listOf l w).1) := by
  apply RtN.of
  rw [c55]; unfold S55
  have s1 : Same n H (H.set n (some (.row [v] 0 true))) := by (repeat (first | exact Same.refl _ _ | refine Same.set ?_ (by omega) _))
  (((repeat (first | (with_reducible apply Wp.step; case h => ((try simp (disch := omega) only [↓reduceIte, ask_true, ↓X0, X1, Nat.reduceEqDiff, Int.reduceEq, Nat.reduceAdd, Nat.reduceSub, X2, Hp_ne, Nat.reduceLeDiff, bsl_zero]); with_reducible exact rfl)) | (apply Wp.andS) | (apply Wp.orS) | ((with_reducible first | apply Wp.gs | apply Wp.cs | apply Wp.cselX | apply Wp.askT | apply Wp.iteKT | apply Wp.ikb); case h => ((try simp (disch := omega) only [↓reduceIte, ask_true, ↓X0, X1, Nat.reduceEqDiff, Int.reduceEq, Nat.reduceAdd, Nat.reduceSub, X2, Hp_ne, Nat.reduceLeDiff, bsl_zero]); (with_reducible first | done | exact bT | exact bF))) | (with_reducible apply Wp.gu) | (simp only [↓X3]) | (with_reducible apply Wp.assoc))); try simp only [outOf_exit, outOf_ret]); try (with_reducible apply Wp.cargs; case h => ((try simp (disch := omega) only [↓reduceIte, ask_true, ↓X0, X1, Nat.reduceEqDiff, Int.reduceEq, Nat.reduceAdd, Nat.reduceSub, X2, Hp_ne, Nat.reduceLeDiff, bsl_zero]); with_reducible exact rfl)))
  refine Wp.bind (l55 (n0 := n + 1) (b := n) (H0 := H.set n (some (.row [v] 0 true))) ((hv.keep s1 (Nat.le_refl _)).up (by omega)) hp (by omega) (Hp_same _ _ _) rfl w h0 h1 _ _ _ (n + 3) (by omega) ((Same.refl _ _).set (by omega) _) (by omega) (by omega) (by simp [put_at]) (by simp [put_at, argsT_at]) (by simp [put_at]) (Hp_same _ _ _)) ?_
  rintro ⟨oe, ot, oH, on⟩ ⟨f2, f3, f4, f5, u, id, f6, f7, f8, f9, f10, f11, f12⟩
  simp only at f2 f3 f4 f5 f6 f7 f8 f9 f10 f11 f12
  have g := ((hv.keep s1 (Nat.le_refl _)).keep (f3.less (show n ≤ n + 1 by omega)) (Nat.le_refl _)).nAll f6 f7
  have hb' : oH n = some (.row [v] 0 true) := by rw [f3 n (by omega)]; exact Hp_same _ _ _
  have hnt : notTup (ot 6) = true := by rcases f12 with ⟨h, _⟩ | ⟨h, _⟩ <;> rw [h] <;> rfl
  have s3 : Same n H oH := s1.trans (f3.less (show n ≤ n + 1 by omega)) (Nat.le_refl _)
  unfold listOf
  by_cases hk : (gi l u).k = 1
  · rw [decide_eq_true hk] at f9
    (((repeat (first | (with_reducible apply Wp.step; case h => ((try simp (disch := omega) only [↓reduceIte, ask_true, ↓X0, X1, Nat.reduceEqDiff, Int.reduceEq, Nat.reduceAdd, Nat.reduceSub, X2, Hp_ne, Nat.reduceLeDiff, f5, f8, hb', g, hk, hnt]); with_reducible exact rfl)) | (apply Wp.andS) | (apply Wp.orS) | ((with_reducible first | apply Wp.gs | apply Wp.cs | apply Wp.cselX | apply Wp.askT | apply Wp.iteKT | apply Wp.ikb); case h => ((try simp (disch := omega) only [↓reduceIte, ask_true, ↓X0, X1, Nat.reduceEqDiff, Int.reduceEq, Nat.reduceAdd, Nat.reduceSub, X2, Hp_ne, Nat.reduceLeDiff, f5, f8, hb', g, hk, hnt]); (with_reducible first | done | exact bT | exact bF))) | (with_reducible apply Wp.gu) | (simp only [↓X3]) | (with_reducible apply Wp.assoc))); try simp only [outOf_exit, outOf_ret]); try (with_reducible apply Wp.cargs; case h => ((try simp (disch := omega) only [↓reduceIte, ask_true, ↓X0, X1, Nat.reduceEqDiff, Int.reduceEq, Nat.reduceAdd, Nat.reduceSub, X2, Hp_ne, Nat.reduceLeDiff, f5, f8, hb', g, hk, hnt]); with_reducible exact rfl)))
    rw [f9]
    exact Wp.pure ⟨by simp only; omega, s3, ot 6, rfl, id, by omega, by simp only; omega, f12⟩
  · rw [decide_eq_false hk] at f9
    (((repeat (first | (with_reducible apply Wp.step; case h => ((try simp (disch := omega) only [↓reduceIte, ask_true, ↓X0, X1, Nat.reduceEqDiff, Int.reduceEq, Nat.reduceAdd, Nat.reduceSub, X2, Hp_ne, Nat.reduceLeDiff, f5, f8, hb', g, hk, bsl_zero]); with_reducible exact rfl)) | (apply Wp.andS) | (apply Wp.orS) | ((with_reducible first | apply Wp.gs | apply Wp.cs | apply Wp.cselX | apply Wp.askT | apply Wp.iteKT | apply Wp.ikb); case h => ((try simp (disch := omega) only [↓reduceIte, ask_true, ↓X0, X1, Nat.reduceEqDiff, Int.reduceEq, Nat.reduceAdd, Nat.reduceSub, X2, Hp_ne, Nat.reduceLeDiff, f5, f8, hb', g, hk, bsl_zero]); (with_reducible first | done | exact bT | exact bF))) | (with_reducible apply Wp.gu) | (simp only [↓X3]) | (with_reducible apply Wp.assoc))); try simp only [outOf_exit, outOf_ret]); try (with_reducible apply Wp.cargs; case h => ((try simp (disch := omega) only [↓reduceIte, ask_true, ↓X0, X1, Nat.reduceEqDiff, Int.reduceEq, Nat.reduceAdd, Nat.reduceSub, X2, Hp_ne, Nat.reduceLeDiff, f5, f8, hb', g, hk, bsl_zero]); with_reducible exact rfl)))
    rw [f9]
    exact Wp.pure ⟨by simp only; omega, s3.set (by omega) _, _, rfl, on + 7, by omega, by simp only; omega, .inr ⟨rfl, Hp_same _ _ _⟩⟩
def listAns (l : List Nd) (w : Int) : List Int × Bool := if PoolOk l ∧ 0 ≤ w ∧ w < l.length then listOf l w else ([], false)
theorem listAns_len (l : List Nd) (w : Int) : (listAns l w).1.length ≤ 3000 := by
  unfold listAns
  split
  · rename_i h
    have hp := h.1.2
    have := chainOf_len h.2.1 h.2.2
    unfold listOf
    split
    · simp only; omega
    · simp
  · simp
theorem k15 {n : Nat} {H : Hp} {v : Value} {l : List Nd} (hv : Li eNode n H v l) (hs : ∀ x ∈ l, x.s.size ≤ 1048576) (hl : l.length ≤ 1048576) (w : Int) : RtN Try.prog 15 [.agg ⟨[v]⟩, .int .i64 w] H n (fun r H' n' => ∃ u, r = .tuple ⟨[u, .bool (listAns l w).2]⟩ ∧ New eInt n n' H' u (listAns l w).1) := by
  apply RtN.of
  rw [c15]; unfold S15
  have s1 : Same n H (H.set n (some (.row [v] 0 true))) := by (repeat (first | exact Same.refl _ _ | refine Same.set ?_ (by omega) _))
  have v1 : Li eNode n (H.set n (some (.row [v] 0 true))) v l := hv.keep s1 (Nat.le_refl _)
  obtain ⟨H2, n2, a1, a2, a3⟩ := k49 (v1.up (show n ≤ n + 12 by omega)) hs hl
  have v2 : Li eNode n H2 v l := v1.keep a2 (by omega)
  have x2 : H2 n = some (.row [v] 0 true) := by rw [a2 n (by omega)]; exact Hp_same _ _ _
  have s2 : Same n H H2 := s1.trans (a2.less (show n ≤ n + 12 by omega)) (Nat.le_refl _)
  unfold listAns
  by_cases hp : PoolOk l
  · obtain ⟨H3, n3, b1, b2, b3⟩ := k50 (v2.up (show n ≤ n2 by omega)) hl w
    have v3 : Li eNode n H3 v l := v2.keep b2 (by omega)
    have s3 : Same n H H3 := s2.trans (b2.less (show n ≤ n2 by omega)) (Nat.le_refl _)
    have x3 : H3 n = some (.row [v] 0 true) := by rw [b2 n (by omega)]; exact x2
    by_cases hi : 0 ≤ w ∧ w < (l.length : Int)
    · obtain ⟨_, H4, n4, c1, c2, c3, u, rfl, c4⟩ := k55 (v3.up (show n ≤ n3 + 7 by omega)) hp w hi.1 hi.2
      have hnt : notTup u = true := by obtain ⟨id, _, _, ⟨h, _⟩ | ⟨h, _⟩⟩ := c4 <;> rw [h] <;> rfl
      (((repeat (first | (with_reducible apply Wp.step; case h => ((try simp (disch := omega) only [↓reduceIte, ask_true, ↓X0, X1, Nat.reduceEqDiff, Int.reduceEq, Nat.reduceAdd, Nat.reduceSub, X2, Hp_ne, Nat.reduceLeDiff, a3, hp, x2, b3, hi.1, hi.2, x3, c3, hnt]); with_reducible exact rfl)) | (apply Wp.andS) | (apply Wp.orS) | ((with_reducible first | apply Wp.gs | apply Wp.cs | apply Wp.cselX | apply Wp.askT | apply Wp.iteKT | apply Wp.ikb); case h => ((try simp (disch := omega) only [↓reduceIte, ask_true, ↓X0, X1, Nat.reduceEqDiff, Int.reduceEq, Nat.reduceAdd, Nat.reduceSub, X2, Hp_ne, Nat.reduceLeDiff, a3, hp, x2, b3, hi.1, hi.2, x3, c3, hnt]); (with_reducible first | done | exact bT | exact bF))) | (with_reducible apply Wp.gu) | (simp only [↓X3]) | (with_reducible apply Wp.assoc))); try simp only [outOf_exit, outOf_ret]); try (with_reducible apply Wp.cargs; case h => ((try simp (disch := omega) only [↓reduceIte, ask_true, ↓X0, X1, Nat.reduceEqDiff, Int.reduceEq, Nat.reduceAdd, Nat.reduceSub, X2, Hp_ne, Nat.reduceLeDiff, a3, hp, x2, b3, hi.1, hi.2, x3, c3, hnt]); with_reducible exact rfl)))
      rw [if_pos ⟨hp, hi⟩]
      exact Wp.pure ⟨by simp only; omega, s3.trans (c2.less (show n ≤ n3 + 7 by omega)) (Nat.le_refl _), u, rfl, c4.up (by omega) (by simp only; omega)⟩
    · (((repeat (first | (with_reducible apply Wp.step; case h => ((try simp (disch := omega) only [↓reduceIte, ask_true, ↓X0, X1, Nat.reduceEqDiff, Int.reduceEq, Nat.reduceAdd, Nat.reduceSub, X2, Hp_ne, Nat.reduceLeDiff, a3, hp, x2, b3, hi, bsl_zero]); with_reducible exact rfl)) | (apply Wp.andS) | (apply Wp.orS) | ((with_reducible first | apply Wp.gs | apply Wp.cs | apply Wp.cselX | apply Wp.askT | apply Wp.iteKT | apply Wp.ikb); case h => ((try simp (disch := omega) only [↓reduceIte, ask_true, ↓X0, X1, Nat.reduceEqDiff, Int.reduceEq, Nat.reduceAdd, Nat.reduceSub, X2, Hp_ne, Nat.reduceLeDiff, a3, hp, x2, b3, hi, bsl_zero]); (with_reducible first | done | exact bT | exact bF))) | (with_reducible apply Wp.gu) | (simp only [↓X3]) | (with_reducible apply Wp.assoc))); try simp only [outOf_exit, outOf_ret]); try (with_reducible apply Wp.cargs; case h => ((try simp (disch := omega) only [↓reduceIte, ask_true, ↓X0, X1, Nat.reduceEqDiff, Int.reduceEq, Nat.reduceAdd, Nat.reduceSub, X2, Hp_ne, Nat.reduceLeDiff, a3, hp, x2, b3, hi, bsl_zero]); with_reducible exact rfl)))
      rw [if_neg (fun h => hi h.2)]
      exact Wp.pure ⟨by simp only; omega, s3.set (by omega) _, _, rfl, n3, by omega, by simp only; omega, .inr ⟨rfl, Hp_same _ _ _⟩⟩
  · (((repeat (first | (with_reducible apply Wp.step; case h => ((try simp (disch := omega) only [↓reduceIte, ask_true, ↓X0, X1, Nat.reduceEqDiff, Int.reduceEq, Nat.reduceAdd, Nat.reduceSub, X2, Hp_ne, Nat.reduceLeDiff, a3, hp, x2, bsl_zero]); with_reducible exact rfl)) | (apply Wp.andS) | (apply Wp.orS) | ((with_reducible first | apply Wp.gs | apply Wp.cs | apply Wp.cselX | apply Wp.askT | apply Wp.iteKT | apply Wp.ikb); case h => ((try simp (disch := omega) only [↓reduceIte, ask_true, ↓X0, X1, Nat.reduceEqDiff, Int.reduceEq, Nat.reduceAdd, Nat.reduceSub, X2, Hp_ne, Nat.reduceLeDiff, a3, hp, x2, bsl_zero]); (with_reducible first | done | exact bT | exact bF))) | (with_reducible apply Wp.gu) | (simp only [↓X3]) | (with_reducible apply Wp.assoc))); try simp only [outOf_exit, outOf_ret]); try (with_reducible apply Wp.cargs; case h => ((try simp (disch := omega) only [↓reduceIte, ask_true, ↓X0, X1, Nat.reduceEqDiff, Int.reduceEq, Nat.reduceAdd, Nat.reduceSub, X2, Hp_ne, Nat.reduceLeDiff, a3, hp, x2, bsl_zero]); with_reducible exact rfl)))
    rw [if_neg (fun h => hp h.1)]
    exact Wp.pure ⟨by simp only; omega, s2.set (by omega) _, _, rfl, n2, by omega, by simp only; omega, .inr ⟨rfl, Hp_same _ _ _⟩⟩
theorem k13 {n : Nat} {H : Hp} {v : Value} {l : List Nd} (hv : Li eNode n H v l) (hs : ∀ x ∈ l, x.s.size ≤ 1048576) (hl : l.length ≤ 1048576) (w : Int) : RtN Try.prog 13 [.agg ⟨[v]⟩, .int .i64 w] H n (fun r H' n' => ∃ u, r = .tuple ⟨[u, .bool (listAns l w).2]⟩ ∧ New eInt n n' H' u (listAns l w).1) := by
  apply RtN.of
  rw [c13]; unfold S13
  have s1 : Same n H (H.set n (some (.row [v] 0 true))) := by (repeat (first | exact Same.refl _ _ | refine Same.set ?_ (by omega) _))
  have v1 : Li eNode n (H.set n (some (.row [v] 0 true))) v l := hv.keep s1 (Nat.le_refl _)
  obtain ⟨H2, n2, a1, a2, a3⟩ := k38 (v1.up (show n ≤ n + 12 by omega)) hs hl
  have v2 : Li eNode n H2 v l := v1.keep a2 (by omega)
  have x2 : H2 n = some (.row [v] 0 true) := by rw [a2 n (by omega)]; exact Hp_same _ _ _
  have s2 : Same n H H2 := s1.trans (a2.less (show n ≤ n + 12 by omega)) (Nat.le_refl _)
  unfold listAns
  by_cases hp : PoolOk l
  · obtain ⟨H3, n3, b1, b2, b3⟩ := k46 (v2.up (show n ≤ n2 by omega)) hl w
    have v3 : Li eNode n H3 v l := v2.keep b2 (by omega)
    have s3 : Same n H H3 := s2.trans (b2.less (show n ≤ n2 by omega)) (Nat.le_refl _)
    have x3 : H3 n = some (.row [v] 0 true) := by rw [b2 n (by omega)]; exact x2
    by_cases hi : 0 ≤ w ∧ w < (l.length : Int)
    · obtain ⟨_, H4, n4, c1, c2, c3, u, rfl, c4⟩ := k53 (b := n) (o := 0) (v3.up (show n ≤ n3 + 7 by omega)) hp (by omega) x3 rfl w hi.1 hi.2
      have hnt : notTup u = true := by obtain ⟨id, _, _, ⟨h, _⟩ | ⟨h, _⟩⟩ := c4 <;> rw [h] <;> rfl
      rw [if_pos ⟨hp, hi⟩]
      unfold listOf
      cases hok : (chainOf l w).2 with
      | true =>
        (((repeat (first | (with_reducible apply Wp.step; case h => ((try simp (disch := omega) only [↓reduceIte, ask_true, ↓X0, X1, Nat.reduceEqDiff, Int.reduceEq, Nat.reduceAdd, Nat.reduceSub, X2, Hp_ne, Nat.reduceLeDiff, a3, hp, x2, b3, hi.1, hi.2, x3, c3, hok, hnt]); with_reducible exact rfl)) | (apply Wp.andS) | (apply Wp.orS) | ((with_reducible first | apply Wp.gs | apply Wp.cs | apply Wp.cselX | apply Wp.askT | apply Wp.iteKT | apply Wp.ikb); case h => ((try simp (disch := omega) only [↓reduceIte, ask_true, ↓X0, X1, Nat.reduceEqDiff, Int.reduceEq, Nat.reduceAdd, Nat.reduceSub, X2, Hp_ne, Nat.reduceLeDiff, a3, hp, x2, b3, hi.1, hi.2, x3, c3, hok, hnt]); (with_reducible first | done | exact bT | exact bF))) | (with_reducible apply Wp.gu) | (simp only [↓X3]) | (with_reducible apply Wp.assoc))); try simp only [outOf_exit, outOf_ret]); try (with_reducible apply Wp.cargs; case h => ((try simp (disch := omega) only [↓reduceIte, ask_true, ↓X0, X1, Nat.reduceEqDiff, Int.reduceEq, Nat.reduceAdd, Nat.reduceSub, X2, Hp_ne, Nat.reduceLeDiff, a3, hp, x2, b3, hi.1, hi.2, x3, c3, hok, hnt]); with_reducible exact rfl)))
        exact Wp.pure ⟨by simp only; omega, s3.trans (c2.less (show n ≤ n3 + 7 by omega)) (Nat.le_refl _), u, rfl, c4.up (by omega) (by simp only; omega)⟩
      | false =>
        (((repeat (first | (with_reducible apply Wp.step; case h => ((try simp (disch := omega) only [↓reduceIte, ask_true, ↓X0, X1, Nat.reduceEqDiff, Int.reduceEq, Nat.reduceAdd, Nat.reduceSub, X2, Hp_ne, Nat.reduceLeDiff, a3, hp, x2, b3, hi.1, hi.2, x3, c3, hok]); with_reducible exact rfl)) | (apply Wp.andS) | (apply Wp.orS) | ((with_reducible first | apply Wp.gs | apply Wp.cs | apply Wp.cselX | apply Wp.askT | apply Wp.iteKT | apply Wp.ikb); case h => ((try simp (disch := omega) only [↓reduceIte, ask_true, ↓X0, X1, Nat.reduceEqDiff, Int.reduceEq, Nat.reduceAdd, Nat.reduceSub, X2, Hp_ne, Nat.reduceLeDiff, a3, hp, x2, b3, hi.1, hi.2, x3, c3, hok]); (with_reducible first | done | exact bT | exact bF))) | (with_reducible apply Wp.gu) | (simp only [↓X3]) | (with_reducible apply Wp.assoc))); try simp only [outOf_exit, outOf_ret]); try (with_reducible apply Wp.cargs; case h => ((try simp (disch := omega) only [↓reduceIte, ask_true, ↓X0, X1, Nat.reduceEqDiff, Int.reduceEq, Nat.reduceAdd, Nat.reduceSub, X2, Hp_ne, Nat.reduceLeDiff, a3, hp, x2, b3, hi.1, hi.2, x3, c3, hok]); with_reducible exact rfl)))
        exact Wp.pure ⟨by simp only; omega, s3.trans (c2.less (show n ≤ n3 + 7 by omega)) (Nat.le_refl _), _, rfl, n3, by omega, by simp only; omega, At.nil⟩
    · (((repeat (first | (with_reducible apply Wp.step; case h => ((try simp (disch := omega) only [↓reduceIte, ask_true, ↓X0, X1, Nat.reduceEqDiff, Int.reduceEq, Nat.reduceAdd, Nat.reduceSub, X2, Hp_ne, Nat.reduceLeDiff, a3, hp, x2, b3, hi]); with_reducible exact rfl)) | (apply Wp.andS) | (apply Wp.orS) | ((with_reducible first | apply Wp.gs | apply Wp.cs | apply Wp.cselX | apply Wp.askT | apply Wp.iteKT | apply Wp.ikb); case h => ((try simp (disch := omega) only [↓reduceIte, ask_true, ↓X0, X1, Nat.reduceEqDiff, Int.reduceEq, Nat.reduceAdd, Nat.reduceSub, X2, Hp_ne, Nat.reduceLeDiff, a3, hp, x2, b3, hi]); (with_reducible first | done | exact bT | exact bF))) | (with_reducible apply Wp.gu) | (simp only [↓X3]) | (with_reducible apply Wp.assoc))); try simp only [outOf_exit, outOf_ret]); try (with_reducible apply Wp.cargs; case h => ((try simp (disch := omega) only [↓reduceIte, ask_true, ↓X0, X1, Nat.reduceEqDiff, Int.reduceEq, Nat.reduceAdd, Nat.reduceSub, X2, Hp_ne, Nat.reduceLeDiff, a3, hp, x2, b3, hi]); with_reducible exact rfl)))
      rw [if_neg (fun h => hi h.2)]
      exact Wp.pure ⟨by simp only; omega, s3, _, rfl, n, by omega, by simp only; omega, At.nil⟩
  · (((repeat (first | (with_reducible apply Wp.step; case h => ((try simp (disch := omega) only [↓reduceIte, ask_true, ↓X0, X1, Nat.reduceEqDiff, Int.reduceEq, Nat.reduceAdd, Nat.reduceSub, X2, Hp_ne, Nat.reduceLeDiff, a3, hp, x2]); with_reducible exact rfl)) | (apply Wp.andS) | (apply Wp.orS) | ((with_reducible first | apply Wp.gs | apply Wp.cs | apply Wp.cselX | apply Wp.askT | apply Wp.iteKT | apply Wp.ikb); case h => ((try simp (disch := omega) only [↓reduceIte, ask_true, ↓X0, X1, Nat.reduceEqDiff, Int.reduceEq, Nat.reduceAdd, Nat.reduceSub, X2, Hp_ne, Nat.reduceLeDiff, a3, hp, x2]); (with_reducible first | done | exact bT | exact bF))) | (with_reducible apply Wp.gu) | (simp only [↓X3]) | (with_reducible apply Wp.assoc))); try simp only [outOf_exit, outOf_ret]); try (with_reducible apply Wp.cargs; case h => ((try simp (disch := omega) only [↓reduceIte, ask_true, ↓X0, X1, Nat.reduceEqDiff, Int.reduceEq, Nat.reduceAdd, Nat.reduceSub, X2, Hp_ne, Nat.reduceLeDiff, a3, hp, x2]); with_reducible exact rfl)))
    rw [if_neg (fun h => hp h.1)]
    exact Wp.pure ⟨by simp only; omega, s2, _, rfl, n, by omega, by simp only; omega, At.nil⟩
end Go.Proofs.Ytfdnlokpadbjnaa.Ax
