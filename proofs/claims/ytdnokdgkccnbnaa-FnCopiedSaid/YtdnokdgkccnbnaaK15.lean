/- Contracts: pools that are copied and grow; Make, MakeList. -/
import Derived.Test.YtdnokdgkccnbnaaAy7
import Derived.Test.YtdnokdgkccnbnaaK10
set_option linter.unusedVariables false
set_option linter.unusedSimpArgs false
namespace Go.Proofs.Ytdnokdgkccnbnaa.Ax
open Go
/-- A call that writes object 'c', and the list in object 'id' that a cell of it tells. -/
abbrev RtA (P : Program) (f : Nat) (args : List Value) (c id : Nat) (H : Hp) (n : Nat) (R : Value → Hp → Nat → Prop) : Prop := ∃ v H' n', n ≤ n' ∧ (∀ i, i < n → i ≠ c → i ≠ id → H' i = H i) ∧ Call P f args H n = some (v, H', n') ∧ R v H' n'
theorem Wp.rta {P : Program} {f : Nat} {args : List Value} {H : Hp} {n c id : Nat} {β : Type} {g : Value × Hp × Nat → Option β} {Q : β → Prop} {R : Value → Hp → Nat → Prop} (h : RtA P f args c id H n R) (k : ∀ v H' n', n ≤ n' → (∀ i, i < n → i ≠ c → i ≠ id → H' i = H i) → R v H' n' → Wp (g (v, H', n')) Q) : Wp ((Call P f args H n).bind g) Q := by
  obtain ⟨v, H', n', h1, h2, h3, h4⟩ := h
  rw [h3]; exact k v H' n' h1 h2 h4
theorem RtA.of {P : Program} {f : Nat} {args : List Value} {c id : Nat} {H : Hp} {n : Nat} {R : Value → Hp → Nat → Prop} (h : Wp (Call P f args H n) fun q => n ≤ q.2.2 ∧ (∀ i, i < n → i ≠ c → i ≠ id → q.2.1 i = H i) ∧ R q.1 q.2.1 q.2.2) : RtA P f args c id H n R := by
  obtain ⟨⟨v', H', n'⟩, h1, h2, h3, h4⟩ := h
  exact ⟨v', H', n', h2, h3, h1, h4⟩
theorem setAt_set {cs : List Value} {o : Nat} (v : Value) (h : o < cs.length) : setAt cs o [v] = cs.set o v := by
  unfold setAt
  rw [List.set_eq_take_append_cons_drop, if_pos h]
  simp
theorem st_cset {H : Hp} {c o : Nat} {cs : List Value} {e : Nat} {v : Value} (h : H c = some (.row cs e true)) (ho : o < cs.length) (hv : cell1 v = true) : st false 1 (ptr c o) v H = some (H.set c (some (.row (cs.set o v) e true))) := by
  rw [st_c hv, stv_box h, setAt_set v ho]
  rw [if_pos (by simp; omega)]
theorem lt_get {cs : List Value} {o : Nat} {v : Value} (h : cs[o]? = some v) : o < cs.length := (List.getElem?_eq_some_iff.1 h).1
/-- The pool that cell 'o' of object 'c' tells. -/
structure PC (c o id n : Nat) (H : Hp) (cs : List Value) (e : Nat) (v : Value) (l : List Nd) : Prop where
  hc : H c = some (.row cs e true)
  ho : cs[o]? = some v
  at_ : At eNode id H v l
  cn : c < n
  idn : id < n
  ne : id ≠ c
theorem PC.mv {c o id n m : Nat} {H H' : Hp} {cs : List Value} {e : Nat} {v : Value} {l : List Nd} (h : PC c o id n H cs e v l) (hm : n ≤ m) (h1 : H' c = H c) (h2 : H' id = H id) : PC c o id m H' cs e v l :=
  ⟨by rw [h1]; exact h.hc, h.ho, h.at_.mv h2, by have := h.cn; omega, by have := h.idn; omega, h.ne⟩
theorem sub1 {m : Nat} (h : m ≤ 9000000000000000000) : IntKind.i64.wrap (((m + 1 : Nat) : Int) - 1) = (m : Int) := by rw [w64 (by omega)]; omega
theorem k75 {c o id n : Nat} {H : Hp} {cs : List Value} {e : Nat} {v : Value} {l : List Nd} (h : PC c o id n H cs e v l) (hl : l.length ≤ 10000000) (x : Nd) :
    RtA Try.prog 75 [ptr c o, .agg ⟨x.cells⟩] c id H n (fun r H' n' => r = .int .i64 l.length ∧ ∃ v' id', n ≤ id' ∧ PC c o id' n' H' (cs.set o v') e v' (l ++ [x])) := by
  apply RtA.of
  rw [c75]; unfold S75
  obtain ⟨hc, ho, hat, hcn, hid, hne⟩ := h
  have hol := lt_get ho
  (((repeat (first | (with_reducible apply Wp.step; case h => ((try simp (disch := omega) only [↓reduceIte, ask_true, ↓X0, X1, Nat.reduceEqDiff, Int.reduceEq, Nat.reduceAdd, Nat.reduceSub, X2, Hp_ne, Nat.reduceLeDiff, hc, ho, Nd.cells, bsl_n]); with_reducible exact rfl)) | (apply Wp.andS) | (apply Wp.orS) | ((with_reducible first | apply Wp.gs | apply Wp.cs | apply Wp.cselX | apply Wp.askT | apply Wp.iteKT | apply Wp.ikb | apply Wp.askb); case h => ((try simp (disch := omega) only [↓reduceIte, ask_true, ↓X0, X1, Nat.reduceEqDiff, Int.reduceEq, Nat.reduceAdd, Nat.reduceSub, X2, Hp_ne, Nat.reduceLeDiff, hc, ho, Nd.cells, bsl_n]); (with_reducible first | done | exact bT | exact bF))) | (with_reducible apply Wp.gu) | (simp only [↓X3]) | (simp (disch := decide) only [asks_nil, asks_in, asks_out, askB_nil, askB_in, askB_out]) | (with_reducible apply Wp.assoc))); try simp only [outOf_exit, outOf_ret]); try (with_reducible apply Wp.cargs; case h => ((try simp (disch := omega) only [↓reduceIte, ask_true, ↓X0, X1, Nat.reduceEqDiff, Int.reduceEq, Nat.reduceAdd, Nat.reduceSub, X2, Hp_ne, Nat.reduceLeDiff, hc, ho, Nd.cells, bsl_n]); with_reducible exact rfl)))
  refine Wp.app1 (E := eNode) x (hat.mv (by intros; first | with_reducible rfl | simp (disch := omega) only [Hp_ne, Hp_same])) (by omega) (by decide) (by omega) ?_
  intro H4 r1 r2
  have hc4 : H4 c = some (.row cs e true) := by simp (disch := omega) only [r2, Hp_ne, hc]
  have hst := st_cset (v := sl (n + 9) 0 (l ++ [x]).length) hc4 hol rfl
  have hlast : (cs.set o (sl (n + 9) 0 (l ++ [x]).length))[o]? = some (sl (n + 9) 0 (l ++ [x]).length) := by rw [List.getElem?_set_self hol]
  have hw : IntKind.i64.wrap (((l ++ [x]).length : Int) - 1) = (l.length : Int) := by rw [List.length_append]; exact sub1 (by omega)
  (((repeat (first | (with_reducible apply Wp.step; case h => ((try simp (disch := omega) only [↓reduceIte, ask_true, ↓X0, X1, Nat.reduceEqDiff, Int.reduceEq, Nat.reduceAdd, Nat.reduceSub, hst, ld_r, Hp_same, rowGet_row, hlast, hw]); with_reducible exact rfl)) | (apply Wp.andS) | (apply Wp.orS) | ((with_reducible first | apply Wp.gs | apply Wp.cs | apply Wp.cselX | apply Wp.askT | apply Wp.iteKT | apply Wp.ikb | apply Wp.askb); case h => ((try simp (disch := omega) only [↓reduceIte, ask_true, ↓X0, X1, Nat.reduceEqDiff, Int.reduceEq, Nat.reduceAdd, Nat.reduceSub, hst, ld_r, Hp_same, rowGet_row, hlast, hw]); (with_reducible first | done | exact bT | exact bF))) | (with_reducible apply Wp.gu) | (simp only [↓X3]) | (simp (disch := decide) only [asks_nil, asks_in, asks_out, askB_nil, askB_in, askB_out]) | (with_reducible apply Wp.assoc))); try simp only [outOf_exit, outOf_ret]); try (with_reducible apply Wp.cargs; case h => ((try simp (disch := omega) only [↓reduceIte, ask_true, ↓X0, X1, Nat.reduceEqDiff, Int.reduceEq, Nat.reduceAdd, Nat.reduceSub, hst, ld_r, Hp_same, rowGet_row, hlast, hw]); with_reducible exact rfl)))
  refine Wp.pure ⟨by simp only; omega, ?_, rfl, _, n + 9, by omega, Hp_same _ _ _, hlast, .inr ⟨rfl, ?_⟩, by simp only; omega, by simp only; omega, by omega⟩
  · intro i hi h1 h2; simp (disch := omega) only [Hp_ne, r2]
  · exact (Hp_ne _ _ (by omega)).trans r1
theorem k40 {c o id n : Nat} {H : Hp} {cs : List Value} {e : Nat} {v : Value} {l : List Nd} (h : PC c o id n H cs e v l) (hl : l.length ≤ 10000000) (x : Nd) :
    RtA Try.prog 40 [ptr c o, .agg ⟨x.cells⟩] c id H n (fun r H' n' => r = .int .i64 l.length ∧ ∃ v' id', n ≤ id' ∧ PC c o id' n' H' (cs.set o v') e v' (l ++ [x])) := by
  apply RtA.of
  rw [c40]; unfold S40
  obtain ⟨hc, ho, hat, hcn, hid, hne⟩ := h
  have hol := lt_get ho
  (((repeat (first | (with_reducible apply Wp.step; case h => ((try simp (disch := omega) only [↓reduceIte, ask_true, ↓X0, X1, Nat.reduceEqDiff, Int.reduceEq, Nat.reduceAdd, Nat.reduceSub, X2, Hp_ne, Nat.reduceLeDiff, hc, ho, Nd.cells, bsl_n]); with_reducible exact rfl)) | (apply Wp.andS) | (apply Wp.orS) | ((with_reducible first | apply Wp.gs | apply Wp.cs | apply Wp.cselX | apply Wp.askT | apply Wp.iteKT | apply Wp.ikb | apply Wp.askb); case h => ((try simp (disch := omega) only [↓reduceIte, ask_true, ↓X0, X1, Nat.reduceEqDiff, Int.reduceEq, Nat.reduceAdd, Nat.reduceSub, X2, Hp_ne, Nat.reduceLeDiff, hc, ho, Nd.cells, bsl_n]); (with_reducible first | done | exact bT | exact bF))) | (with_reducible apply Wp.gu) | (simp only [↓X3]) | (simp (disch := decide) only [asks_nil, asks_in, asks_out, askB_nil, askB_in, askB_out]) | (with_reducible apply Wp.assoc))); try simp only [outOf_exit, outOf_ret]); try (with_reducible apply Wp.cargs; case h => ((try simp (disch := omega) only [↓reduceIte, ask_true, ↓X0, X1, Nat.reduceEqDiff, Int.reduceEq, Nat.reduceAdd, Nat.reduceSub, X2, Hp_ne, Nat.reduceLeDiff, hc, ho, Nd.cells, bsl_n]); with_reducible exact rfl)))
  refine Wp.app1 (E := eNode) x (hat.mv (by intros; first | with_reducible rfl | simp (disch := omega) only [Hp_ne, Hp_same])) (by omega) (by decide) (by omega) ?_
  intro H4 r1 r2
  have hc4 : H4 c = some (.row cs e true) := by simp (disch := omega) only [r2, Hp_ne, hc]
  have hst := st_cset (v := sl (n + 9) 0 (l ++ [x]).length) hc4 hol rfl
  have hlast : (cs.set o (sl (n + 9) 0 (l ++ [x]).length))[o]? = some (sl (n + 9) 0 (l ++ [x]).length) := by rw [List.getElem?_set_self hol]
  have hw : IntKind.i64.wrap (((l ++ [x]).length : Int) - 1) = (l.length : Int) := by rw [List.length_append]; exact sub1 (by omega)
  (((repeat (first | (with_reducible apply Wp.step; case h => ((try simp (disch := omega) only [↓reduceIte, ask_true, ↓X0, X1, Nat.reduceEqDiff, Int.reduceEq, Nat.reduceAdd, Nat.reduceSub, hst, ld_r, Hp_same, rowGet_row, hlast, hw]); with_reducible exact rfl)) | (apply Wp.andS) | (apply Wp.orS) | ((with_reducible first | apply Wp.gs | apply Wp.cs | apply Wp.cselX | apply Wp.askT | apply Wp.iteKT | apply Wp.ikb | apply Wp.askb); case h => ((try simp (disch := omega) only [↓reduceIte, ask_true, ↓X0, X1, Nat.reduceEqDiff, Int.reduceEq, Nat.reduceAdd, Nat.reduceSub, hst, ld_r, Hp_same, rowGet_row, hlast, hw]); (with_reducible first | done | exact bT | exact bF))) | (with_reducible apply Wp.gu) | (simp only [↓X3]) | (simp (disch := decide) only [asks_nil, asks_in, asks_out, askB_nil, askB_in, askB_out]) | (with_reducible apply Wp.assoc))); try simp only [outOf_exit, outOf_ret]); try (with_reducible apply Wp.cargs; case h => ((try simp (disch := omega) only [↓reduceIte, ask_true, ↓X0, X1, Nat.reduceEqDiff, Int.reduceEq, Nat.reduceAdd, Nat.reduceSub, hst, ld_r, Hp_same, rowGet_row, hlast, hw]); with_reducible exact rfl)))
  refine Wp.pure ⟨by simp only; omega, ?_, rfl, _, n + 9, by omega, Hp_same _ _ _, hlast, .inr ⟨rfl, ?_⟩, by simp only; omega, by simp only; omega, by omega⟩
  · intro i hi h1 h2; simp (disch := omega) only [Hp_ne, r2]
  · exact (Hp_ne _ _ (by omega)).trans r1
/-! ### Copies -/
theorem Li.nilOr {α : Type} {E : Enc α} {n : Nat} {H : Hp} {v : Value} {l : List α} (h : Li E n H v l) : (v = nilS ∧ l = []) ∨ ∃ a m c, v = .slice (some a) m c := by
  obtain ⟨⟨_, ⟨h0, rfl | ⟨i, o, q, c, rfl⟩⟩ | ⟨i, o, c, cs, e, rw, rfl, _⟩⟩, _⟩ := h
  · exact .inl ⟨rfl, List.length_eq_zero_iff.1 h0⟩
  · exact .inr ⟨_, _, _, rfl⟩
  · exact .inr ⟨_, _, _, rfl⟩
theorem bsl_z5 (id : Nat) (H : Hp) : bsl id 5 0 [.int .i64 0, .int .i64 0, .string ⟨#[]⟩, .int .i64 0, .int .i64 0] [] H = some (sl id 0 0, H.set id (some (.row [] 5 true))) := bsl_zn _ _ _ _ rfl
theorem k71 {n : Nat} {H : Hp} {v : Value} {l : List Nd} (hv : Li eNode n H v l) (hl : l.length ≤ 10000000) : RtN Try.prog 71 [v] H n (fun r H' n' => New eNode n n' H' r l) := by
  apply RtN.mk
  rw [c71]; unfold S71
  rcases hv.nilOr with ⟨rfl, rfl⟩ | ⟨a, m, c, rfl⟩
  · (((repeat (first | (with_reducible apply Wp.step; case h => ((try simp (disch := omega) only [↓reduceIte, ask_true, ↓X0, X1, Nat.reduceEqDiff, Int.reduceEq, Nat.reduceAdd, Nat.reduceSub, show binK .slice .eql nilS nilS = some (.bool true) from rfl]); with_reducible exact rfl)) | (apply Wp.andS) | (apply Wp.orS) | ((with_reducible first | apply Wp.gs | apply Wp.cs | apply Wp.cselX | apply Wp.askT | apply Wp.iteKT | apply Wp.ikb | apply Wp.askb); case h => ((try simp (disch := omega) only [↓reduceIte, ask_true, ↓X0, X1, Nat.reduceEqDiff, Int.reduceEq, Nat.reduceAdd, Nat.reduceSub, show binK .slice .eql nilS nilS = some (.bool true) from rfl]); (with_reducible first | done | exact bT | exact bF))) | (with_reducible apply Wp.gu) | (simp only [↓X3]) | (simp (disch := decide) only [asks_nil, asks_in, asks_out, askB_nil, askB_in, askB_out]) | (with_reducible apply Wp.assoc))); try simp only [outOf_exit, outOf_ret]); try (with_reducible apply Wp.cargs; case h => ((try simp (disch := omega) only [↓reduceIte, ask_true, ↓X0, X1, Nat.reduceEqDiff, Int.reduceEq, Nat.reduceAdd, Nat.reduceSub, show binK .slice .eql nilS nilS = some (.bool true) from rfl]); with_reducible exact rfl)))
    exact Wp.pure ⟨by simp only; omega, fun _ _ => rfl, n, by omega, by simp only; omega, At.nil⟩
  · (((repeat (first | (with_reducible apply Wp.step; case h => ((try simp (disch := omega) only [↓reduceIte, ask_true, ↓X0, X1, Nat.reduceEqDiff, Int.reduceEq, Nat.reduceAdd, Nat.reduceSub, show binK .slice .eql (.slice (some a) m c) nilS = some (.bool false) from rfl, bsl_z5]); with_reducible exact rfl)) | (apply Wp.andS) | (apply Wp.orS) | ((with_reducible first | apply Wp.gs | apply Wp.cs | apply Wp.cselX | apply Wp.askT | apply Wp.iteKT | apply Wp.ikb | apply Wp.askb); case h => ((try simp (disch := omega) only [↓reduceIte, ask_true, ↓X0, X1, Nat.reduceEqDiff, Int.reduceEq, Nat.reduceAdd, Nat.reduceSub, show binK .slice .eql (.slice (some a) m c) nilS = some (.bool false) from rfl, bsl_z5]); (with_reducible first | done | exact bT | exact bF))) | (with_reducible apply Wp.gu) | (simp only [↓X3]) | (simp (disch := decide) only [asks_nil, asks_in, asks_out, askB_nil, askB_in, askB_out]) | (with_reducible apply Wp.assoc))); try simp only [outOf_exit, outOf_ret]); try (with_reducible apply Wp.cargs; case h => ((try simp (disch := omega) only [↓reduceIte, ask_true, ↓X0, X1, Nat.reduceEqDiff, Int.reduceEq, Nat.reduceAdd, Nat.reduceSub, show binK .slice .eql (.slice (some a) m c) nilS = some (.bool false) from rfl, bsl_z5]); with_reducible exact rfl)))
    refine Wp.appL (E := eNode) (l := []) (id := n + 3) (.inr ⟨rfl, Hp_same _ _ _⟩) (hv.mv (m := n) (by omega) (by intros; first | with_reducible rfl | simp (disch := omega) only [Hp_ne, Hp_same])) (by decide) (by simp; omega) ?_
    intro v' H' a1 a2
    (((repeat (first | (with_reducible apply Wp.step; case h => ((try simp (disch := omega) only [↓reduceIte, ask_true, ↓X0, X1, Nat.reduceEqDiff, Int.reduceEq, Nat.reduceAdd, Nat.reduceSub]); with_reducible exact rfl)) | (apply Wp.andS) | (apply Wp.orS) | ((with_reducible first | apply Wp.gs | apply Wp.cs | apply Wp.cselX | apply Wp.askT | apply Wp.iteKT | apply Wp.ikb | apply Wp.askb); case h => ((try simp (disch := omega) only [↓reduceIte, ask_true, ↓X0, X1, Nat.reduceEqDiff, Int.reduceEq, Nat.reduceAdd, Nat.reduceSub]); (with_reducible first | done | exact bT | exact bF))) | (with_reducible apply Wp.gu) | (simp only [↓X3]) | (simp (disch := decide) only [asks_nil, asks_in, asks_out, askB_nil, askB_in, askB_out]) | (with_reducible apply Wp.assoc))); try simp only [outOf_exit, outOf_ret]); try (with_reducible apply Wp.cargs; case h => ((try simp (disch := omega) only [↓reduceIte, ask_true, ↓X0, X1, Nat.reduceEqDiff, Int.reduceEq, Nat.reduceAdd, Nat.reduceSub]); with_reducible exact rfl)))
    refine Wp.pure ⟨by simp only; omega, ?_, n + 5, by omega, by simp only; omega, by simpa using a1⟩
    intro i hi; simp (disch := omega) only [a2, Hp_ne]
theorem Wp.bld1 {z : Value} {v : Value} {β : Type} {g : Value → Option β} {Q : β → Prop} (hv : cell1 v = true) (k : Wp (g (.agg ⟨[v]⟩)) Q) : Wp ((bld [z] [(0, 1, v)]).bind g) Q := by
  have : bld [z] [(0, 1, v)] = some (.agg ⟨[v]⟩) := by
    simp [bld, fill, vcells1 hv, setAt]
  rw [this]; exact k
theorem k44 {n : Nat} {H : Hp} {v : Value} {l : List Nd} (hv : Li eNode n H v l) (hl : l.length ≤ 10000000) : RtN Try.prog 44 [.agg ⟨[v]⟩] H n (fun r H' n' => ∃ u, r = .agg ⟨[u]⟩ ∧ New eNode n n' H' u l) := by
  apply RtN.mk
  rw [c44]; unfold S44
  (((repeat (first | (with_reducible apply Wp.step; case h => ((try simp (disch := omega) only [↓reduceIte, ask_true, ↓X0, X1, Nat.reduceEqDiff, Int.reduceEq, Nat.reduceAdd, Nat.reduceSub, X2, Hp_ne, Nat.reduceLeDiff]); with_reducible exact rfl)) | (apply Wp.andS) | (apply Wp.orS) | ((with_reducible first | apply Wp.gs | apply Wp.cs | apply Wp.cselX | apply Wp.askT | apply Wp.iteKT | apply Wp.ikb | apply Wp.askb); case h => ((try simp (disch := omega) only [↓reduceIte, ask_true, ↓X0, X1, Nat.reduceEqDiff, Int.reduceEq, Nat.reduceAdd, Nat.reduceSub, X2, Hp_ne, Nat.reduceLeDiff]); (with_reducible first | done | exact bT | exact bF))) | (with_reducible apply Wp.gu) | (simp only [↓X3]) | (simp (disch := decide) only [asks_nil, asks_in, asks_out, askB_nil, askB_in, askB_out]) | (with_reducible apply Wp.assoc))); try simp only [outOf_exit, outOf_ret]); try (with_reducible apply Wp.cargs; case h => ((try simp (disch := omega) only [↓reduceIte, ask_true, ↓X0, X1, Nat.reduceEqDiff, Int.reduceEq, Nat.reduceAdd, Nat.reduceSub, X2, Hp_ne, Nat.reduceLeDiff]); with_reducible exact rfl)))
  refine Wp.rtn (k71 (hv.mv (by omega) (by intros; first | with_reducible rfl | simp (disch := omega) only [Hp_ne, Hp_same])) hl) ?_
  rintro u H1 n1 q1 s1 ⟨id, i1, i2, i3⟩
  refine Wp.bld1 i3.cell ?_
  (((repeat (first | (with_reducible apply Wp.step; case h => ((try simp (disch := omega) only [↓reduceIte, ask_true, ↓X0, X1, Nat.reduceEqDiff, Int.reduceEq, Nat.reduceAdd, Nat.reduceSub, X2, Hp_ne, Nat.reduceLeDiff, s1]); with_reducible exact rfl)) | (apply Wp.andS) | (apply Wp.orS) | ((with_reducible first | apply Wp.gs | apply Wp.cs | apply Wp.cselX | apply Wp.askT | apply Wp.iteKT | apply Wp.ikb | apply Wp.askb); case h => ((try simp (disch := omega) only [↓reduceIte, ask_true, ↓X0, X1, Nat.reduceEqDiff, Int.reduceEq, Nat.reduceAdd, Nat.reduceSub, X2, Hp_ne, Nat.reduceLeDiff, s1]); (with_reducible first | done | exact bT | exact bF))) | (with_reducible apply Wp.gu) | (simp only [↓X3]) | (simp (disch := decide) only [asks_nil, asks_in, asks_out, askB_nil, askB_in, askB_out]) | (with_reducible apply Wp.assoc))); try simp only [outOf_exit, outOf_ret]); try (with_reducible apply Wp.cargs; case h => ((try simp (disch := omega) only [↓reduceIte, ask_true, ↓X0, X1, Nat.reduceEqDiff, Int.reduceEq, Nat.reduceAdd, Nat.reduceSub, X2, Hp_ne, Nat.reduceLeDiff, s1]); with_reducible exact rfl)))
  exact Wp.pure ⟨by simp only; omega, (by intros; first | with_reducible rfl | simp (disch := omega) only [Hp_ne, Hp_same, s1]), u, rfl, id, by omega, by simp only; omega, i3.mv (by intros; first | with_reducible rfl | simp (disch := omega) only [Hp_ne, Hp_same])⟩
theorem k46 {n : Nat} {H : Hp} {v : Value} {l : List Nd} (hv : Li eNode n H v l) (hl : l.length ≤ 10000000) : RtN Try.prog 46 [.agg ⟨[v]⟩] H n (fun r H' n' => ∃ u, r = .agg ⟨[u]⟩ ∧ New eNode n n' H' u l) := by
  apply RtN.mk
  rw [c46]; unfold S46
  (((repeat (first | (with_reducible apply Wp.step; case h => ((try simp (disch := omega) only [↓reduceIte, ask_true, ↓X0, X1, Nat.reduceEqDiff, Int.reduceEq, Nat.reduceAdd, Nat.reduceSub, X2, Hp_ne, Nat.reduceLeDiff, bsl_z5]); with_reducible exact rfl)) | (apply Wp.andS) | (apply Wp.orS) | ((with_reducible first | apply Wp.gs | apply Wp.cs | apply Wp.cselX | apply Wp.askT | apply Wp.iteKT | apply Wp.ikb | apply Wp.askb); case h => ((try simp (disch := omega) only [↓reduceIte, ask_true, ↓X0, X1, Nat.reduceEqDiff, Int.reduceEq, Nat.reduceAdd, Nat.reduceSub, X2, Hp_ne, Nat.reduceLeDiff, bsl_z5]); (with_reducible first | done | exact bT | exact bF))) | (with_reducible apply Wp.gu) | (simp only [↓X3]) | (simp (disch := decide) only [asks_nil, asks_in, asks_out, askB_nil, askB_in, askB_out]) | (with_reducible apply Wp.assoc))); try simp only [outOf_exit, outOf_ret]); try (with_reducible apply Wp.cargs; case h => ((try simp (disch := omega) only [↓reduceIte, ask_true, ↓X0, X1, Nat.reduceEqDiff, Int.reduceEq, Nat.reduceAdd, Nat.reduceSub, X2, Hp_ne, Nat.reduceLeDiff, bsl_z5]); with_reducible exact rfl)))
  refine Wp.appL (E := eNode) (l := []) (id := n + 2) (.inr ⟨rfl, Hp_same _ _ _⟩) (hv.mv (m := n) (by omega) (by intros; first | with_reducible rfl | simp (disch := omega) only [Hp_ne, Hp_same])) (by decide) (by simp; omega) ?_
  intro v' H' a1 a2
  refine Wp.bld1 a1.cell ?_
  (((repeat (first | (with_reducible apply Wp.step; case h => ((try simp (disch := omega) only [↓reduceIte, ask_true, ↓X0, X1, Nat.reduceEqDiff, Int.reduceEq, Nat.reduceAdd, Nat.reduceSub, X2, Hp_ne, Nat.reduceLeDiff, a2]); with_reducible exact rfl)) | (apply Wp.andS) | (apply Wp.orS) | ((with_reducible first | apply Wp.gs | apply Wp.cs | apply Wp.cselX | apply Wp.askT | apply Wp.iteKT | apply Wp.ikb | apply Wp.askb); case h => ((try simp (disch := omega) only [↓reduceIte, ask_true, ↓X0, X1, Nat.reduceEqDiff, Int.reduceEq, Nat.reduceAdd, Nat.reduceSub, X2, Hp_ne, Nat.reduceLeDiff, a2]); (with_reducible first | done | exact bT | exact bF))) | (with_reducible apply Wp.gu) | (simp only [↓X3]) | (simp (disch := decide) only [asks_nil, asks_in, asks_out, askB_nil, askB_in, askB_out]) | (with_reducible apply Wp.assoc))); try simp only [outOf_exit, outOf_ret]); try (with_reducible apply Wp.cargs; case h => ((try simp (disch := omega) only [↓reduceIte, ask_true, ↓X0, X1, Nat.reduceEqDiff, Int.reduceEq, Nat.reduceAdd, Nat.reduceSub, X2, Hp_ne, Nat.reduceLeDiff, a2]); with_reducible exact rfl)))
  refine Wp.pure ⟨by simp only; omega, ?_, v', rfl, n + 5, by omega, by simp only; omega, ?_⟩
  · intro i hi; simp (disch := omega) only [a2, Hp_ne]
  · simpa using a1.mv (H' := H'.set (n + 1) (some (.row [v'] 0 true))) (by rw [Hp_ne _ _ (by omega)])
/-! ### Make -/
theorem PoolOk_snoc (l : List Nd) (x : Nd) : PoolOk (l ++ [x]) ↔ NodesOk l 0 ∧ NodeOk x l.length ∧ l.length + 1 ≤ 3000 := by
  unfold PoolOk
  rw [NodesOk_app, List.length_append]
  simp [NodesOk, and_assoc]
def makeAns (l : List Nd) (x : Nd) : List Nd × Int := if PoolOk l then (if PoolOk (l ++ [x]) then (l ++ [x], (l.length : Int)) else (l, -1)) else ([], -1)
theorem makeAns_len (l : List Nd) (x : Nd) : (makeAns l x).1.length ≤ 3000 := by
  unfold makeAns
  split
  · rename_i h
    split
    · rename_i h'; exact h'.2
    · exact h.2
  · simp
end Go.Proofs.Ytdnokdgkccnbnaa.Ax
