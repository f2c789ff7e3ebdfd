/- Contracts: lists put behind a pool; MakeList. -/
import Derived.Test.YtpiicpcofjhakaaK15
set_option linter.unusedVariables false
set_option linter.unusedSimpArgs false
namespace Go.Proofs.Ytpiicpcofjhakaa.Ax
open Go
theorem Li.mv2 {α : Type} {E : Enc α} {n m c d : Nat} {H H' : Hp} {v : Value} {l : List α} (h : Li E n H v l) (hc : Off c v) (hd : Off d v) (hm : n ≤ m) (hs : ∀ i, i < n → i ≠ c → i ≠ d → H' i = H i) : Li E m H' v l := (h.keep' fun i o a k e => hs i (h.2 i o a k e) (hc i o a k e) (hd i o a k e)).up hm
abbrev ndPair (a b : Int) : Nd := ⟨5, 0, ⟨#[]⟩, a, b⟩
abbrev ndNil : Nd := ⟨1, 0, ⟨#[]⟩, 0, 0⟩
/-- The pairs of a list, the last one first, from number 'b' on. -/
def lPairs (b : Int) : List Int → List Nd
  | [] => []
  | a :: r => ndPair a b :: lPairs (b + 1) r
def lNodes (b : Int) (xs : List Int) : List Nd := ndNil :: lPairs b xs.reverse
theorem lPairs_len : ∀ (b : Int) (r : List Int), (lPairs b r).length = r.length
  | b, [] => rfl
  | b, a :: r => by simp [lPairs, lPairs_len (b + 1) r]
theorem lPairs_snoc : ∀ (b : Int) (r : List Int) (a : Int), lPairs b (r ++ [a]) = lPairs b r ++ [ndPair a (b + r.length)]
  | b, [], a => by simp [lPairs]
  | b, x :: r, a => by
    rw [List.cons_append, lPairs, lPairs_snoc (b + 1) r a, lPairs, List.cons_append, List.length_cons]
    congr 4; omega
theorem lNodes_len (b : Int) (xs : List Int) : (lNodes b xs).length = xs.length + 1 := by simp [lNodes, lPairs_len]
theorem lRev_next {xs : List Int} {k : Nat} (h : k < xs.length) : xs.reverse.take (k + 1) = xs.reverse.take k ++ [gi xs ((xs.length : Int) - 1 - k)] := by
  rw [take_next (by simpa using h)]
  congr 2
  rw [List.getElem_reverse, gi_at (by omega) (by omega)]
  congr 1; omega
/-! ### Is there one among numbers -/
theorem calleeP_fn (k : Nat) (cap args : List Value) : calleeP (.func (.func k) #[] ⟨cap⟩) args = some (k, args ++ cap) := rfl
theorem k101 {n : Nat} {H : Hp} {v : Value} {l : List Int} (hv : Li eInt n H v l) (hl : l.length ≤ 1048576) (k : Nat) (cap : List Value) (p : Int → Bool) (hp : ∀ x ∈ l, ∀ H' n', n ≤ n' → (∀ i, i < n → H' i = H i) → Rt Try.prog k (.int .i64 x :: cap) H' n' (.bool (p x))) : Rt Try.prog 101 [v, .func (.func k) #[] ⟨cap⟩] H n (.int .i64 (match l.findIdx? p with | some k => (k : Int) | none => -1)) := by
  apply Rt.mk
  rw [c101]; unfold S101
  (((repeat (first | (with_reducible apply Wp.step; case h => ((try simp (disch := omega) only [↓reduceIte, ask_true, ↓X0, X1, Nat.reduceEqDiff, Int.reduceEq, Nat.reduceAdd, Nat.reduceSub, hv.len]); with_reducible exact rfl)) | (apply Wp.andS) | (apply Wp.orS) | ((first | with_reducible apply Wp.gs | with_reducible apply Wp.cs | with_reducible apply Wp.cselX | with_reducible apply Wp.askT | with_reducible apply Wp.iteKT | with_reducible apply Wp.ikb | with_reducible apply Wp.askb); case h => ((try simp (disch := omega) only [↓reduceIte, ask_true, ↓X0, X1, Nat.reduceEqDiff, Int.reduceEq, Nat.reduceAdd, Nat.reduceSub, hv.len]); (first | done | with_reducible exact bT | with_reducible exact bF))) | (with_reducible apply Wp.gu) | (simp only [↓X3]) | (simp (disch := decide) only [asks_nil, asks_in, asks_out, askB_nil, askB_in, askB_out]) | (with_reducible apply Wp.assoc))); try simp only [outOf_exit, outOf_ret]); try (with_reducible apply Wp.cargs; case h => ((try simp (disch := omega) only [↓reduceIte, ask_true, ↓X0, X1, Nat.reduceEqDiff, Int.reduceEq, Nat.reduceAdd, Nat.reduceSub, hv.len]); with_reducible exact rfl)))
  refine Wp.bind (Loop_rule (fun d t H' n' => ∃ j : Nat, j + d = l.length ∧ n ≤ n' ∧ (∀ i, i < n → H' i = H i) ∧ t 0 = v ∧ t 1 = .func (.func k) #[] ⟨cap⟩ ∧ t 7 = .int .i64 l.length ∧ t 8 = .int .i64 j ∧ ∀ q (hq : q < l.length), q < j → p l[q] = false) (fun o => n ≤ o.n ∧ (∀ i, i < n → o.H i = H i) ∧ ((o.e = .exit 0 ∧ l.findIdx? p = none) ∨ (o.e = .ret ∧ ∃ j : Nat, o.t 4 = .int .i64 j ∧ l.findIdx? p = some j))) ?_ l.length _ H _ ⟨0, by omega, by omega, fun _ _ => rfl, by simp [put_at, argsT_at], by simp [put_at, argsT_at], by simp [put_at], by simp [put_at], by omega⟩) ?_
  · rintro d t H' n' ⟨j, hj, hn, s0, e0, e1, e7, e8, hno⟩
    unfold S101L0
    by_cases hlt : j < l.length
    · have hlti : (j : Int) < l.length := by omega
      have hw := wj (j := j) (len := l.length) hlt (by omega)
      have g := (hv.mv (Nat.le_refl _) s0).iAll (i := (j : Int)) (by omega) hlti
      rw [gi_nat hlt] at g
      (((repeat (first | (with_reducible apply Wp.step; case h => ((try simp (disch := omega) only [↓reduceIte, ask_true, ↓X0, X1, Nat.reduceEqDiff, Int.reduceEq, Nat.reduceAdd, Nat.reduceSub, e0, e1, e7, e8, hlti, g, calleeP_fn]); with_reducible exact rfl)) | (apply Wp.andS) | (apply Wp.orS) | ((first | with_reducible apply Wp.gs | with_reducible apply Wp.cs | with_reducible apply Wp.cselX | with_reducible apply Wp.askT | with_reducible apply Wp.iteKT | with_reducible apply Wp.ikb | with_reducible apply Wp.askb); case h => ((try simp (disch := omega) only [↓reduceIte, ask_true, ↓X0, X1, Nat.reduceEqDiff, Int.reduceEq, Nat.reduceAdd, Nat.reduceSub, e0, e1, e7, e8, hlti, g, calleeP_fn]); (first | done | with_reducible exact bT | with_reducible exact bF))) | (with_reducible apply Wp.gu) | (simp only [↓X3]) | (simp (disch := decide) only [asks_nil, asks_in, asks_out, askB_nil, askB_in, askB_out]) | (with_reducible apply Wp.assoc))); try simp only [outOf_exit, outOf_ret]); try (with_reducible apply Wp.cargs; case h => ((try simp (disch := omega) only [↓reduceIte, ask_true, ↓X0, X1, Nat.reduceEqDiff, Int.reduceEq, Nat.reduceAdd, Nat.reduceSub, e0, e1, e7, e8, hlti, g, calleeP_fn]); with_reducible exact rfl)))
      refine Wp.rt (hp l[j] (List.getElem_mem hlt) H' (n' + 9) (by omega) s0) ?_
      intro H1 n1 q1 s1
      by_cases hpj : p l[j] = true
      · (((repeat (first | (with_reducible apply Wp.step; case h => ((try simp (disch := omega) only [↓reduceIte, ask_true, ↓X0, X1, Nat.reduceEqDiff, Int.reduceEq, Nat.reduceAdd, Nat.reduceSub, hpj]); with_reducible exact rfl)) | (apply Wp.andS) | (apply Wp.orS) | ((first | with_reducible apply Wp.gs | with_reducible apply Wp.cs | with_reducible apply Wp.cselX | with_reducible apply Wp.askT | with_reducible apply Wp.iteKT | with_reducible apply Wp.ikb | with_reducible apply Wp.askb); case h => ((try simp (disch := omega) only [↓reduceIte, ask_true, ↓X0, X1, Nat.reduceEqDiff, Int.reduceEq, Nat.reduceAdd, Nat.reduceSub, hpj]); (first | done | with_reducible exact bT | with_reducible exact bF))) | (with_reducible apply Wp.gu) | (simp only [↓X3]) | (simp (disch := decide) only [asks_nil, asks_in, asks_out, askB_nil, askB_in, askB_out]) | (with_reducible apply Wp.assoc))); try simp only [outOf_exit, outOf_ret]); try (with_reducible apply Wp.cargs; case h => ((try simp (disch := omega) only [↓reduceIte, ask_true, ↓X0, X1, Nat.reduceEqDiff, Int.reduceEq, Nat.reduceAdd, Nat.reduceSub, hpj]); with_reducible exact rfl)))
        refine Wp.pure (Nxt.ret ⟨by simp only; omega, (by intros; first | with_reducible rfl | simp (disch := omega) only [Hp_ne, Hp_same, s1, s0]), .inr ⟨rfl, j, by simp [put_at, e8], ?_⟩⟩)
        exact List.findIdx?_eq_some_iff_getElem.2 ⟨hlt, hpj, fun q hq => by have := hno q (by omega) hq; simp [this]⟩
      · have hpj' : p l[j] = false := by simpa using hpj
        (((repeat (first | (with_reducible apply Wp.step; case h => ((try simp (disch := omega) only [↓reduceIte, ask_true, ↓X0, X1, Nat.reduceEqDiff, Int.reduceEq, Nat.reduceAdd, Nat.reduceSub, hpj', e8, hw]); with_reducible exact rfl)) | (apply Wp.andS) | (apply Wp.orS) | ((first | with_reducible apply Wp.gs | with_reducible apply Wp.cs | with_reducible apply Wp.cselX | with_reducible apply Wp.askT | with_reducible apply Wp.iteKT | with_reducible apply Wp.ikb | with_reducible apply Wp.askb); case h => ((try simp (disch := omega) only [↓reduceIte, ask_true, ↓X0, X1, Nat.reduceEqDiff, Int.reduceEq, Nat.reduceAdd, Nat.reduceSub, hpj', e8, hw]); (first | done | with_reducible exact bT | with_reducible exact bF))) | (with_reducible apply Wp.gu) | (simp only [↓X3]) | (simp (disch := decide) only [asks_nil, asks_in, asks_out, askB_nil, askB_in, askB_out]) | (with_reducible apply Wp.assoc))); try simp only [outOf_exit, outOf_ret]); try (with_reducible apply Wp.cargs; case h => ((try simp (disch := omega) only [↓reduceIte, ask_true, ↓X0, X1, Nat.reduceEqDiff, Int.reduceEq, Nat.reduceAdd, Nat.reduceSub, hpj', e8, hw]); with_reducible exact rfl)))
        refine Wp.pure (Nxt.go (d - 1) (by omega) ⟨j + 1, by omega, by omega, (by intros; first | with_reducible rfl | simp (disch := omega) only [Hp_ne, Hp_same, s1, s0]), by simp [put_at, e0], by simp [put_at, e1], by simp [put_at, e7], by simp [put_at], fun q hq hqj => ?_⟩)
        by_cases hqe : q = j
        · subst hqe; exact hpj'
        · exact hno q hq (by omega)
    · have hlti : ¬ (j : Int) < l.length := by omega
      (((repeat (first | (with_reducible apply Wp.step; case h => ((try simp (disch := omega) only [↓reduceIte, ask_true, ↓X0, X1, Nat.reduceEqDiff, Int.reduceEq, Nat.reduceAdd, Nat.reduceSub, e7, e8, hlti]); with_reducible exact rfl)) | (apply Wp.andS) | (apply Wp.orS) | ((first | with_reducible apply Wp.gs | with_reducible apply Wp.cs | with_reducible apply Wp.cselX | with_reducible apply Wp.askT | with_reducible apply Wp.iteKT | with_reducible apply Wp.ikb | with_reducible apply Wp.askb); case h => ((try simp (disch := omega) only [↓reduceIte, ask_true, ↓X0, X1, Nat.reduceEqDiff, Int.reduceEq, Nat.reduceAdd, Nat.reduceSub, e7, e8, hlti]); (first | done | with_reducible exact bT | with_reducible exact bF))) | (with_reducible apply Wp.gu) | (simp only [↓X3]) | (simp (disch := decide) only [asks_nil, asks_in, asks_out, askB_nil, askB_in, askB_out]) | (with_reducible apply Wp.assoc))); try simp only [outOf_exit, outOf_ret]); try (with_reducible apply Wp.cargs; case h => ((try simp (disch := omega) only [↓reduceIte, ask_true, ↓X0, X1, Nat.reduceEqDiff, Int.reduceEq, Nat.reduceAdd, Nat.reduceSub, e7, e8, hlti]); with_reducible exact rfl)))
      refine Wp.pure (Nxt.exit ⟨by simp only; omega, s0, .inl ⟨rfl, ?_⟩⟩)
      refine List.findIdx?_eq_none_iff.2 fun x hx => ?_
      obtain ⟨q, hq, rfl⟩ := List.mem_iff_getElem.1 hx
      exact hno q hq (by omega)
  · rintro ⟨oe, ot, oH, on⟩ ⟨f1, f2, f3⟩
    simp only at f1 f2 f3
    rcases f3 with ⟨rfl, f4⟩ | ⟨rfl, j, f4, f5⟩
    · simp (disch := omega) only [↓reduceIte, ask_true, ↓X0, X1, Nat.reduceEqDiff, Int.reduceEq, Nat.reduceAdd, Nat.reduceSub]
      exact Wp.pure ⟨by simp only; omega, f2, by simp only [f4]⟩
    · simp (disch := omega) only [↓reduceIte, ask_true, ↓X0, X1, Nat.reduceEqDiff, Int.reduceEq, Nat.reduceAdd, Nat.reduceSub, f4]
      exact Wp.pure ⟨by simp only; omega, f2, by simp only [f5]⟩
theorem k63 {n : Nat} {H : Hp} {v : Value} {l : List Int} (hv : Li eInt n H v l) (hl : l.length ≤ 1048576) (k : Nat) (cap : List Value) (p : Int → Bool) (hp : ∀ x ∈ l, ∀ H' n', n ≤ n' → (∀ i, i < n → H' i = H i) → Rt Try.prog k (.int .i64 x :: cap) H' n' (.bool (p x))) : Rt Try.prog 63 [v, .func (.func k) #[] ⟨cap⟩] H n (.bool (l.any p)) := by
  apply Rt.mk
  rw [c63]; unfold S63
  refine Wp.rt (k101 (hv.mv (by omega) (by intros; first | with_reducible rfl | simp (disch := omega) only [Hp_ne, Hp_same])) hl k cap p (fun x hx H' n' hn hs => hp x hx H' n' (by omega) fun i hi => hs i (by omega))) ?_
  intro H1 n1 q1 s1
  cases h : l.findIdx? p with
  | none =>
    have : l.any p = false := by
      rw [List.any_eq_false]
      intro x hx
      have := List.findIdx?_eq_none_iff.1 h x hx
      simp [this]
    (((repeat (first | (with_reducible apply Wp.step; case h => ((try simp (disch := omega) only [↓reduceIte, ask_true, ↓X0, X1, Nat.reduceEqDiff, Int.reduceEq, Nat.reduceAdd, Nat.reduceSub, (show ¬ (0 : Int) ≤ -1 by decide)]); with_reducible exact rfl)) | (apply Wp.andS) | (apply Wp.orS) | ((first | with_reducible apply Wp.gs | with_reducible apply Wp.cs | with_reducible apply Wp.cselX | with_reducible apply Wp.askT | with_reducible apply Wp.iteKT | with_reducible apply Wp.ikb | with_reducible apply Wp.askb); case h => ((try simp (disch := omega) only [↓reduceIte, ask_true, ↓X0, X1, Nat.reduceEqDiff, Int.reduceEq, Nat.reduceAdd, Nat.reduceSub, (show ¬ (0 : Int) ≤ -1 by decide)]); (first | done | with_reducible exact bT | with_reducible exact bF))) | (with_reducible apply Wp.gu) | (simp only [↓X3]) | (simp (disch := decide) only [asks_nil, asks_in, asks_out, askB_nil, askB_in, askB_out]) | (with_reducible apply Wp.assoc))); try simp only [outOf_exit, outOf_ret]); try (with_reducible apply Wp.cargs; case h => ((try simp (disch := omega) only [↓reduceIte, ask_true, ↓X0, X1, Nat.reduceEqDiff, Int.reduceEq, Nat.reduceAdd, Nat.reduceSub, (show ¬ (0 : Int) ≤ -1 by decide)]); with_reducible exact rfl)))
    exact Wp.pure ⟨by simp only; omega, (by intros; first | with_reducible rfl | simp (disch := omega) only [Hp_ne, Hp_same, s1]), by rw [this]⟩
  | some j =>
    obtain ⟨hj, hpj, _⟩ := List.findIdx?_eq_some_iff_getElem.1 h
    have : l.any p = true := List.any_eq_true.2 ⟨l[j], List.getElem_mem hj, hpj⟩
    (((repeat (first | (with_reducible apply Wp.step; case h => ((try simp (disch := omega) only [↓reduceIte, ask_true, ↓X0, X1, Nat.reduceEqDiff, Int.reduceEq, Nat.reduceAdd, Nat.reduceSub, (show (0 : Int) ≤ (j : Int) by omega)]); with_reducible exact rfl)) | (apply Wp.andS) | (apply Wp.orS) | ((first | with_reducible apply Wp.gs | with_reducible apply Wp.cs | with_reducible apply Wp.cselX | with_reducible apply Wp.askT | with_reducible apply Wp.iteKT | with_reducible apply Wp.ikb | with_reducible apply Wp.askb); case h => ((try simp (disch := omega) only [↓reduceIte, ask_true, ↓X0, X1, Nat.reduceEqDiff, Int.reduceEq, Nat.reduceAdd, Nat.reduceSub, (show (0 : Int) ≤ (j : Int) by omega)]); (first | done | with_reducible exact bT | with_reducible exact bF))) | (with_reducible apply Wp.gu) | (simp only [↓X3]) | (simp (disch := decide) only [asks_nil, asks_in, asks_out, askB_nil, askB_in, askB_out]) | (with_reducible apply Wp.assoc))); try simp only [outOf_exit, outOf_ret]); try (with_reducible apply Wp.cargs; case h => ((try simp (disch := omega) only [↓reduceIte, ask_true, ↓X0, X1, Nat.reduceEqDiff, Int.reduceEq, Nat.reduceAdd, Nat.reduceSub, (show (0 : Int) ≤ (j : Int) by omega)]); with_reducible exact rfl)))
    exact Wp.pure ⟨by simp only; omega, (by intros; first | with_reducible rfl | simp (disch := omega) only [Hp_ne, Hp_same, s1]), by rw [this]⟩
/-! ### MakeList -/
theorem lPairs_ok : ∀ (r : List Int) (b : Int) (i : Nat), (∀ a ∈ r, 0 ≤ a ∧ a < i) → 0 ≤ b → b + 1 = i → NodesOk (lPairs b r) i
  | [], _, _, _, _, _ => trivial
  | a :: r, b, i, ha, hb, hi => by
    refine ⟨?_, lPairs_ok r (b + 1) (i + 1) (fun x hx => by have := ha x (List.mem_cons_of_mem _ hx); omega) (by omega) (by omega)⟩
    have := ha a List.mem_cons_self
    show NodeOk ⟨5, 0, ⟨#[]⟩, a, b⟩ i
    unfold NodeOk
    exact .inr (.inr (.inr (.inr (.inl ⟨rfl, rfl, rfl, ⟨this.1, by simp only; omega⟩, ⟨hb, by simp only; omega⟩⟩))))
theorem lNodes_ok {l : List Nd} {xs : List Int} (hp : NodesOk l 0) (hx : ∀ v ∈ xs, 0 ≤ v ∧ v < l.length) : NodesOk (l ++ lNodes l.length xs) 0 := by
  rw [NodesOk_app]
  refine ⟨hp, ?_, ?_⟩
  · show NodeOk ⟨1, 0, ⟨#[]⟩, 0, 0⟩ _
    unfold NodeOk; exact .inl ⟨rfl, rfl, rfl, rfl, rfl⟩
  · exact lPairs_ok _ _ _ (fun a ha => by have := hx a (by simpa using ha); omega) (by omega) (by omega)
theorem lPairs_s : ∀ (r : List Int) (b : Int), ∀ x ∈ lPairs b r, x.s = ⟨#[]⟩
  | [], _, x, h => by cases h
  | a :: r, b, x, h => by
    rcases List.mem_cons.1 h with rfl | h
    · rfl
    · exact lPairs_s r (b + 1) x h
theorem lNodes_s {b : Int} {xs : List Int} {x : Nd} (h : x ∈ lNodes b xs) : x.s = ⟨#[]⟩ := by
  rcases List.mem_cons.1 h with rfl | h
  · rfl
  · exact lPairs_s _ _ x h
def makeListAns (l : List Nd) (xs : List Int) : List Nd × Int := if PoolOk l then (if (∀ v ∈ xs, 0 ≤ v ∧ v < (l.length : Int)) ∧ l.length + 1 + xs.length ≤ 3000 then (l ++ lNodes l.length xs, (l.length : Int) + xs.length) else (l, -1)) else ([], -1)
theorem mla_no {l : List Nd} {xs : List Int} (h : ¬ PoolOk l) : makeListAns l xs = ([], -1) := by unfold makeListAns; rw [if_neg h]
theorem mla_bad {l : List Nd} {xs : List Int} (h : PoolOk l) (h2 : ¬ ((∀ v ∈ xs, 0 ≤ v ∧ v < (l.length : Int)) ∧ l.length + 1 + xs.length ≤ 3000)) : makeListAns l xs = (l, -1) := by unfold makeListAns; rw [if_pos h, if_neg h2]
theorem mla_ok {l : List Nd} {xs : List Int} (h : PoolOk l) (h2 : (∀ v ∈ xs, 0 ≤ v ∧ v < (l.length : Int)) ∧ l.length + 1 + xs.length ≤ 3000) : makeListAns l xs = (l ++ lNodes l.length xs, (l.length : Int) + xs.length) := by unfold makeListAns; rw [if_pos h, if_pos h2]
theorem makeListAns_len (l : List Nd) (xs : List Int) : (makeListAns l xs).1.length ≤ 3000 := by
  unfold makeListAns
  split
  · rename_i h
    split
    · rename_i h'
      simp only [List.length_append, lNodes_len]
      omega
    · exact h.2
  · simp
theorem app_s {l : List Nd} {b : Int} {xs : List Int} (hs : ∀ x ∈ l, x.s.size ≤ 1048576) : ∀ x ∈ l ++ lNodes b xs, x.s.size ≤ 1048576 := fun x hx => by
  rcases List.mem_append.1 hx with h | h
  · exact hs x h
  · rw [lNodes_s h]; decide
end Go.Proofs.Ytpiicpcofjhakaa.Ax
