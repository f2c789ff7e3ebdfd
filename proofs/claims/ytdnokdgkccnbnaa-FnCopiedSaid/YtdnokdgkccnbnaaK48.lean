/- Numbers in decimal digits, values as texts; contracts of the digits. -/
import Derived.Test.YtdnokdgkccnbnaaAy7
import Derived.Test.YtdnokdgkccnbnaaK10
set_option linter.unusedVariables false
set_option linter.unusedSimpArgs false
set_option maxHeartbeats 4000000
namespace Go.Proofs.Ytdnokdgkccnbnaa.Ax
open Go
theorem ByteArray.of_nums {a b : ByteArray} (h : numsOf a = numsOf b) : a = b := by
  have h2 : a.data.toList = b.data.toList := by
    unfold numsOf at h
    exact (List.map_inj_right (fun x y hxy => by have : x.toNat = y.toNat := by omega
                                                 exact UInt8.toNat_inj.1 this)).1 h
  cases a; cases b
  simpa using h2
theorem nums_str {l : List Int} (h : ∀ x ∈ l, 0 ≤ x ∧ x < 256) : numsOf (strOf l) = l := by
  simp only [numsOf, strOf, List.map_map]
  conv => rhs; rw [← List.map_id l]
  apply List.map_congr_left
  intro x hx
  have := h x hx
  simp only [Function.comp, id, UInt8.toNat_ofNat']
  omega
theorem str_nums (s : ByteArray) : strOf (numsOf s) = s := by
  apply ByteArray.of_nums
  apply nums_str
  intro x hx
  simp only [numsOf, List.mem_map] at hx
  obtain ⟨b, _, rfl⟩ := hx
  have := b.toNat_lt
  omega
theorem nums_app (a b : ByteArray) : numsOf (a ++ b) = numsOf a ++ numsOf b := by simp [numsOf]
theorem str_app (a b : List Int) : strOf (a ++ b) = strOf a ++ strOf b := by
  simp [strOf, ByteArray.ext_iff]
theorem enc_digit {d : Int} (h0 : 0 ≤ d) (h1 : d ≤ 9) : Utf8.encode (48 + d) = strOf [48 + d] := by
  have : d = 0 ∨ d = 1 ∨ d = 2 ∨ d = 3 ∨ d = 4 ∨ d = 5 ∨ d = 6 ∨ d = 7 ∨ d = 8 ∨ d = 9 := by omega
  rcases this with rfl | rfl | rfl | rfl | rfl | rfl | rfl | rfl | rfl | rfl <;> rfl
/-! ### Digits -/
def digs (n : Nat) : List Int := if n < 10 then [48 + (n : Int)] else digs (n / 10) ++ [48 + ((n % 10 : Nat) : Int)]
termination_by n
decreasing_by omega
theorem digs_lt {n : Nat} (h : n < 10) : digs n = [48 + (n : Int)] := by rw [digs, if_pos h]
theorem digs_ge {n : Nat} (h : ¬ n < 10) : digs n = digs (n / 10) ++ [48 + ((n % 10 : Nat) : Int)] := by rw [digs, if_neg h]
theorem digs_len : ∀ (k n : Nat), n < 10 ^ (k + 1) → (digs n).length ≤ k + 1
  | 0, n, h => by rw [digs_lt (by simpa using h)]; simp
  | k + 1, n, h => by
    by_cases h1 : n < 10
    · rw [digs_lt h1]; simp
    · rw [digs_ge h1, List.length_append]
      have := digs_len k (n / 10) (by rw [Nat.pow_succ] at h; omega)
      simp; omega
theorem digs_rng : ∀ (n : Nat), ∀ x ∈ digs n, 48 ≤ x ∧ x ≤ 57 := by
  intro n
  induction n using Nat.strongRecOn with
  | ind n ih =>
    intro x hx
    by_cases h1 : n < 10
    · rw [digs_lt h1] at hx; simp at hx; omega
    · rw [digs_ge h1] at hx
      rcases List.mem_append.1 hx with h | h
      · exact ih (n / 10) (by omega) x h
      · simp at h; omega
def decOf (x : Int) : List Int := if x < 0 then 45 :: digs x.natAbs else digs x.natAbs
theorem decOf_neg {x : Int} (h : x < 0) : decOf x = 45 :: digs x.natAbs := by unfold decOf; rw [if_pos h]
theorem decOf_nat {x : Int} (h : ¬ x < 0) : decOf x = digs x.natAbs := by unfold decOf; rw [if_neg h]
theorem decOf_rng (x : Int) : ∀ y ∈ decOf x, 45 ≤ y ∧ y ≤ 57 := by
  intro y hy
  unfold decOf at hy
  split at hy
  · rcases List.mem_cons.1 hy with h | h
    · omega
    · have := digs_rng _ y h; omega
  · have := digs_rng _ y hy; omega
theorem decOf_len {x : Int} (h : -1000000000 ≤ x ∧ x ≤ 1000000000) : (decOf x).length ≤ 11 := by
  have := digs_len 9 x.natAbs (by omega)
  unfold decOf
  split <;> simp <;> omega
/-! ### Texts -/
/-- What a value is written as that is no pair and not the empty list. -/
def leafT (x : Nd) : List Int :=
  if x.k = 2 then (if x.n = 1 then [35, 116] else [35, 102])
  else if x.k = 3 then decOf x.n
  else if x.k = 4 then numsOf x.s
  else if x.k = 6 then [35, 102, 117, 110] ++ decOf x.n
  else if x.k = 7 then [35, 107, 111, 110, 116] ++ decOf x.n
  else if x.k = 8 then [35, 112, 114, 105, 109] ++ decOf x.n
  else if x.k = 9 then [35, 112, 105, 100] ++ decOf x.n
  else []
def brT (x : Nd) (t : List Int) : List Int := if x.k = 5 ∨ x.k = 1 then 40 :: (t ++ [41]) else t
def tlT (x : Nd) (t : List Int) : List Int := if x.k = 5 then 32 :: t else if x.k = 1 then [] else [32, 46, 32] ++ t
/-- What a value is written as, a list without its brackets. -/
def inT (l : List Nd) (v : Int) : List Int :=
  if (gi l v).k = 5 then
    (if h : 0 ≤ (gi l v).a ∧ (gi l v).a < v then brT (gi l (gi l v).a) (inT l (gi l v).a) else []) ++
    (if h : 0 ≤ (gi l v).b ∧ (gi l v).b < v then tlT (gi l (gi l v).b) (inT l (gi l v).b) else [])
  else leafT (gi l v)
termination_by v.toNat
decreasing_by all_goals omega
/-- What a value is written as. -/
def txT (l : List Nd) (v : Int) : List Int := brT (gi l v) (inT l v)
theorem inT_leaf {l : List Nd} {v : Int} (h : (gi l v).k ≠ 5) : inT l v = leafT (gi l v) := by rw [inT, if_neg h]
theorem inT_pair {l : List Nd} {v : Int} (hp : PoolOk l) (h0 : 0 ≤ v) (h1 : v < l.length) (h : (gi l v).k = 5) : inT l v = txT l (gi l v).a ++ tlT (gi l (gi l v).b) (inT l (gi l v).b) := by
  have hk := (hp.at h0 h1).pair h
  rw [inT, if_pos h, dif_pos hk.1, dif_pos hk.2]; rfl
theorem leafT_len {x : Nd} {m : Int} (h : NodeOk x m) : (leafT x).length ≤ 16 := by
  rcases h with h | h | h | h | h | h | h | h | h <;> obtain ⟨h1, h2, h3, h4, h5⟩ := h
  · simp [leafT, h1]
  · simp [leafT, h1]; split <;> simp
  · have := decOf_len h2
    simp [leafT, h1]; omega
  · simp only [leafT, h1]
    simp only [nameOk, Bool.and_eq_true, decide_eq_true_eq] at h3
    simp [numsOf_length]; omega
  · simp [leafT, h1]
  · have := decOf_len (x := x.n) (by omega)
    simp [leafT, h1]; omega
  · have := decOf_len (x := x.n) (by omega)
    simp [leafT, h1]; omega
  · have := decOf_len (x := x.n) (by omega)
    simp [leafT, h1]; omega
  · have := decOf_len (x := x.n) (by omega)
    simp [leafT, h1]; omega
/-! ### Written as long as there is room -/
/-- Behind 'o' the text 't' is written, as long as there is room. -/
def Cut (o t o' : List Int) : Prop := (o.length + t.length ≤ 400 → o' = o ++ t) ∧ (400 < o.length + t.length → 400 < o'.length)
theorem Cut.refl (o : List Int) : Cut o [] o := ⟨fun _ => by simp, fun h => by simpa using h⟩
theorem Cut.app (o t : List Int) : Cut o t (o ++ t) := ⟨fun _ => rfl, fun h => by simpa using h⟩
theorem Cut.full {o t o' : List Int} (h : 400 < o.length) (h2 : o.length ≤ o'.length) : Cut o t o' := ⟨fun h3 => by omega, fun _ => by omega⟩
theorem Cut.seq {o t o1 u o2 : List Int} (h1 : Cut o t o1) (h2 : Cut o1 u o2) : Cut o (t ++ u) o2 := by
  refine ⟨fun h => ?_, fun h => ?_⟩
  · rw [List.length_append] at h
    have e1 := h1.1 (by omega)
    have e2 := h2.1 (by rw [e1, List.length_append]; omega)
    rw [e2, e1, List.append_assoc]
  · rw [List.length_append] at h
    by_cases h3 : o.length + t.length ≤ 400
    · have e1 := h1.1 h3
      exact h2.2 (by rw [e1, List.length_append]; omega)
    · have e1 := h1.2 (by omega)
      exact h2.2 (by omega)
theorem Cut.add {o t o1 : List Int} (h1 : Cut o t o1) (u : List Int) : Cut o (t ++ u) (o1 ++ u) := h1.seq (Cut.app _ _)
theorem Cut.eq {t : List Int} {o' : List Int} (h : Cut [] t o') : (if o'.length ≤ 400 then o' else []) = (if t.length ≤ 400 then t else []) := by
  by_cases h1 : t.length ≤ 400
  · have := h.1 (by simpa using h1)
    rw [List.nil_append] at this
    rw [this]
  · have := h.2 (by simp; omega)
    rw [if_neg (by omega), if_neg h1]
/-- What is written of a value; nothing of one that is too long. -/
def wText (l : List Nd) (v : Int) : List Int := if PoolOk l ∧ 0 ≤ v ∧ v < (l.length : Int) then (if (txT l v).length ≤ 400 then txT l v else []) else []
theorem wText_len (l : List Nd) (v : Int) : (wText l v).length ≤ 400 := by
  unfold wText; repeat' split
  · assumption
  · simp
  · simp
/-- How long a text may grow while a value is written. -/
def wBnd (v : Int) : Nat := 440 + 8 * v.toNat
theorem conv_is (id : Nat) (k : IntKind) (x : Int) (H : Hp) : conv .intToStr id (.int k x) H = some (.string (Utf8.encode x), H) := rfl
theorem nt_div (m : Nat) : ((m : Int)).tdiv 10 = ((m / 10 : Nat) : Int) := by rw [Int.tdiv_eq_ediv_of_nonneg (by omega)]; omega
theorem nt_mod (m : Nat) : ((m : Int)).tmod 10 = ((m % 10 : Nat) : Int) := by rw [Int.tmod_eq_emod_of_nonneg (by omega)]; omega
theorem ng_div (m : Nat) : (-(m : Int)).tdiv 10 = -((m / 10 : Nat) : Int) := by rw [Int.neg_tdiv, nt_div]
theorem ng_mod (m : Nat) : (-(m : Int)).tmod 10 = -((m % 10 : Nat) : Int) := by rw [Int.neg_tmod, nt_mod]
theorem digs_sz {m : Nat} (h : m ≤ 1000000000000) : (strOf (digs m)).size ≤ 13 := by
  rw [strOf_size]; exact digs_len 12 m (by omega)
theorem kN57 : ∀ (m : Nat), m ≤ 1000000000000 → ∀ (H : Hp) (n : Nat), Rt Try.prog 57 [.int .i64 (m : Int)] H n (.string (strOf (digs m))) := by
  intro m
  induction m using Nat.strongRecOn with
  | ind m ih =>
    intro hm H n
    apply Rt.mk
    rw [c57]; unfold S57
    have c0 : ¬ (m : Int) < 0 := by omega
    by_cases h : m < 10
    · have c1 : (m : Int) < 10 := by omega
      have hw : IntKind.i64.wrap (48 + (m : Int)) = 48 + m := w64 (by omega)
      have hw2 : IntKind.i32.wrap (48 + (m : Int)) = 48 + m := IntWalk.i32_in _ (by omega)
      (((repeat (first | (with_reducible apply Wp.step; case h => ((try simp (disch := omega) only [↓reduceIte, ask_true, ↓X0, X1, Nat.reduceEqDiff, Int.reduceEq, Nat.reduceAdd, Nat.reduceSub, X2, Hp_ne, Nat.reduceLeDiff, c0, c1, hw, hw2, conv_is]); with_reducible exact rfl)) | (apply Wp.andS) | (apply Wp.orS) | ((with_reducible first | apply Wp.gs | apply Wp.cs | apply Wp.cselX | apply Wp.askT | apply Wp.iteKT | apply Wp.ikb | apply Wp.askb); case h => ((try simp (disch := omega) only [↓reduceIte, ask_true, ↓X0, X1, Nat.reduceEqDiff, Int.reduceEq, Nat.reduceAdd, Nat.reduceSub, X2, Hp_ne, Nat.reduceLeDiff, c0, c1, hw, hw2, conv_is]); (with_reducible first | done | exact bT | exact bF))) | (with_reducible apply Wp.gu) | (simp only [↓X3]) | (simp (disch := decide) only [asks_nil, asks_in, asks_out, askB_nil, askB_in, askB_out]) | (with_reducible apply Wp.assoc))); try simp only [outOf_exit, outOf_ret]); try (with_reducible apply Wp.cargs; case h => ((try simp (disch := omega) only [↓reduceIte, ask_true, ↓X0, X1, Nat.reduceEqDiff, Int.reduceEq, Nat.reduceAdd, Nat.reduceSub, X2, Hp_ne, Nat.reduceLeDiff, c0, c1, hw, hw2, conv_is]); with_reducible exact rfl)))
      exact Wp.pure ⟨by simp only; omega, (by intros; first | with_reducible rfl | simp (disch := omega) only [Hp_ne, Hp_same]), by rw [enc_digit (by omega) (by omega), digs_lt h]⟩
    · have c1 : ¬ (m : Int) < 10 := by omega
      have hw : IntKind.i64.wrap (((m / 10 : Nat) : Int)) = ((m / 10 : Nat) : Int) := w64 (by omega)
      have hw1 : IntKind.i64.wrap (48 + ((m % 10 : Nat) : Int)) = 48 + ((m % 10 : Nat) : Int) := w64 (by omega)
      have hw2 : IntKind.i32.wrap (48 + ((m % 10 : Nat) : Int)) = 48 + ((m % 10 : Nat) : Int) := IntWalk.i32_in _ (by omega)
      have he := enc_digit (d := ((m % 10 : Nat) : Int)) (by omega) (by omega)
      have hz := digs_sz (m := m / 10) (by omega)
      have ha := s_add (a := strOf (digs (m / 10))) (b := strOf [48 + ((m % 10 : Nat) : Int)]) (by rw [strOf1_size]; omega)
      (((repeat (first | (with_reducible apply Wp.step; case h => ((try simp (disch := omega) only [↓reduceIte, ask_true, ↓X0, X1, Nat.reduceEqDiff, Int.reduceEq, Nat.reduceAdd, Nat.reduceSub, X2, Hp_ne, Nat.reduceLeDiff, c0, c1, nt_div, hw]); with_reducible exact rfl)) | (apply Wp.andS) | (apply Wp.orS) | ((with_reducible first | apply Wp.gs | apply Wp.cs | apply Wp.cselX | apply Wp.askT | apply Wp.iteKT | apply Wp.ikb | apply Wp.askb); case h => ((try simp (disch := omega) only [↓reduceIte, ask_true, ↓X0, X1, Nat.reduceEqDiff, Int.reduceEq, Nat.reduceAdd, Nat.reduceSub, X2, Hp_ne, Nat.reduceLeDiff, c0, c1, nt_div, hw]); (with_reducible first | done | exact bT | exact bF))) | (with_reducible apply Wp.gu) | (simp only [↓X3]) | (simp (disch := decide) only [asks_nil, asks_in, asks_out, askB_nil, askB_in, askB_out]) | (with_reducible apply Wp.assoc))); try simp only [outOf_exit, outOf_ret]); try (with_reducible apply Wp.cargs; case h => ((try simp (disch := omega) only [↓reduceIte, ask_true, ↓X0, X1, Nat.reduceEqDiff, Int.reduceEq, Nat.reduceAdd, Nat.reduceSub, X2, Hp_ne, Nat.reduceLeDiff, c0, c1, nt_div, hw]); with_reducible exact rfl)))
      refine Wp.rt (ih (m / 10) (by omega) (by omega) _ _) ?_
      intro H1 n1 q1 s1
      (((repeat (first | (with_reducible apply Wp.step; case h => ((try simp (disch := omega) only [↓reduceIte, ask_true, ↓X0, X1, Nat.reduceEqDiff, Int.reduceEq, Nat.reduceAdd, Nat.reduceSub, X2, Hp_ne, Nat.reduceLeDiff, nt_mod, hw1, hw2, conv_is, he, ha]); with_reducible exact rfl)) | (apply Wp.andS) | (apply Wp.orS) | ((with_reducible first | apply Wp.gs | apply Wp.cs | apply Wp.cselX | apply Wp.askT | apply Wp.iteKT | apply Wp.ikb | apply Wp.askb); case h => ((try simp (disch := omega) only [↓reduceIte, ask_true, ↓X0, X1, Nat.reduceEqDiff, Int.reduceEq, Nat.reduceAdd, Nat.reduceSub, X2, Hp_ne, Nat.reduceLeDiff, nt_mod, hw1, hw2, conv_is, he, ha]); (with_reducible first | done | exact bT | exact bF))) | (with_reducible apply Wp.gu) | (simp only [↓X3]) | (simp (disch := decide) only [asks_nil, asks_in, asks_out, askB_nil, askB_in, askB_out]) | (with_reducible apply Wp.assoc))); try simp only [outOf_exit, outOf_ret]); try (with_reducible apply Wp.cargs; case h => ((try simp (disch := omega) only [↓reduceIte, ask_true, ↓X0, X1, Nat.reduceEqDiff, Int.reduceEq, Nat.reduceAdd, Nat.reduceSub, X2, Hp_ne, Nat.reduceLeDiff, nt_mod, hw1, hw2, conv_is, he, ha]); with_reducible exact rfl)))
      exact Wp.pure ⟨by simp only; omega, (by intros; first | with_reducible rfl | simp (disch := omega) only [Hp_ne, Hp_same, s1]), by rw [digs_ge h, str_app]⟩
theorem kM57 : ∀ (m : Nat), 0 < m → m ≤ 1000000000000 → ∀ (H : Hp) (n : Nat), Rt Try.prog 57 [.int .i64 (-(m : Int))] H n (.string (strOf (45 :: digs m))) := by
  intro m
  induction m using Nat.strongRecOn with
  | ind m ih =>
    intro h0 hm H n
    apply Rt.mk
    rw [c57]; unfold S57
    have c0 : -(m : Int) < 0 := by omega
    by_cases h : m < 10
    · have c1 : -10 < -(m : Int) := by omega
      have hw : IntKind.i64.wrap (0 - -(m : Int)) = (m : Int) := by rw [w64 (by omega)]; omega
      have hz := digs_sz hm
      have ha := s_add (a := ⟨#[45]⟩) (b := strOf (digs m)) (by show 1 + _ ≤ _; omega)
      (((repeat (first | (with_reducible apply Wp.step; case h => ((try simp (disch := omega) only [↓reduceIte, ask_true, ↓X0, X1, Nat.reduceEqDiff, Int.reduceEq, Nat.reduceAdd, Nat.reduceSub, X2, Hp_ne, Nat.reduceLeDiff, c0, c1, hw]); with_reducible exact rfl)) | (apply Wp.andS) | (apply Wp.orS) | ((with_reducible first | apply Wp.gs | apply Wp.cs | apply Wp.cselX | apply Wp.askT | apply Wp.iteKT | apply Wp.ikb | apply Wp.askb); case h => ((try simp (disch := omega) only [↓reduceIte, ask_true, ↓X0, X1, Nat.reduceEqDiff, Int.reduceEq, Nat.reduceAdd, Nat.reduceSub, X2, Hp_ne, Nat.reduceLeDiff, c0, c1, hw]); (with_reducible first | done | exact bT | exact bF))) | (with_reducible apply Wp.gu) | (simp only [↓X3]) | (simp (disch := decide) only [asks_nil, asks_in, asks_out, askB_nil, askB_in, askB_out]) | (with_reducible apply Wp.assoc))); try simp only [outOf_exit, outOf_ret]); try (with_reducible apply Wp.cargs; case h => ((try simp (disch := omega) only [↓reduceIte, ask_true, ↓X0, X1, Nat.reduceEqDiff, Int.reduceEq, Nat.reduceAdd, Nat.reduceSub, X2, Hp_ne, Nat.reduceLeDiff, c0, c1, hw]); with_reducible exact rfl)))
      refine Wp.rt (kN57 m hm _ _) ?_
      intro H1 n1 q1 s1
      (((repeat (first | (with_reducible apply Wp.step; case h => ((try simp (disch := omega) only [↓reduceIte, ask_true, ↓X0, X1, Nat.reduceEqDiff, Int.reduceEq, Nat.reduceAdd, Nat.reduceSub, X2, Hp_ne, Nat.reduceLeDiff, ha]); with_reducible exact rfl)) | (apply Wp.andS) | (apply Wp.orS) | ((with_reducible first | apply Wp.gs | apply Wp.cs | apply Wp.cselX | apply Wp.askT | apply Wp.iteKT | apply Wp.ikb | apply Wp.askb); case h => ((try simp (disch := omega) only [↓reduceIte, ask_true, ↓X0, X1, Nat.reduceEqDiff, Int.reduceEq, Nat.reduceAdd, Nat.reduceSub, X2, Hp_ne, Nat.reduceLeDiff, ha]); (with_reducible first | done | exact bT | exact bF))) | (with_reducible apply Wp.gu) | (simp only [↓X3]) | (simp (disch := decide) only [asks_nil, asks_in, asks_out, askB_nil, askB_in, askB_out]) | (with_reducible apply Wp.assoc))); try simp only [outOf_exit, outOf_ret]); try (with_reducible apply Wp.cargs; case h => ((try simp (disch := omega) only [↓reduceIte, ask_true, ↓X0, X1, Nat.reduceEqDiff, Int.reduceEq, Nat.reduceAdd, Nat.reduceSub, X2, Hp_ne, Nat.reduceLeDiff, ha]); with_reducible exact rfl)))
      exact Wp.pure ⟨by simp only; omega, (by intros; first | with_reducible rfl | simp (disch := omega) only [Hp_ne, Hp_same, s1]), by rw [show (45 :: digs m) = [45] ++ digs m from rfl, str_app]; rfl⟩
    · have c1 : ¬ -10 < -(m : Int) := by omega
      have hw : IntKind.i64.wrap (-((m / 10 : Nat) : Int)) = -((m / 10 : Nat) : Int) := w64 (by omega)
      have hw1 : IntKind.i64.wrap (0 - -((m % 10 : Nat) : Int)) = ((m % 10 : Nat) : Int) := by rw [w64 (by omega)]; omega
      have hz := digs_sz (m := m / 10) (by omega)
      have hz2 := digs_sz (m := m % 10) (by omega)
      have ha := s_add (a := strOf (45 :: digs (m / 10))) (b := strOf (digs (m % 10))) (by rw [strOf_size] at hz hz2; rw [strOf_size, strOf_size, List.length_cons]; omega)
      (((repeat (first | (with_reducible apply Wp.step; case h => ((try simp (disch := omega) only [↓reduceIte, ask_true, ↓X0, X1, Nat.reduceEqDiff, Int.reduceEq, Nat.reduceAdd, Nat.reduceSub, X2, Hp_ne, Nat.reduceLeDiff, c0, c1, ng_div, hw]); with_reducible exact rfl)) | (apply Wp.andS) | (apply Wp.orS) | ((with_reducible first | apply Wp.gs | apply Wp.cs | apply Wp.cselX | apply Wp.askT | apply Wp.iteKT | apply Wp.ikb | apply Wp.askb); case h => ((try simp (disch := omega) only [↓reduceIte, ask_true, ↓X0, X1, Nat.reduceEqDiff, Int.reduceEq, Nat.reduceAdd, Nat.reduceSub, X2, Hp_ne, Nat.reduceLeDiff, c0, c1, ng_div, hw]); (with_reducible first | done | exact bT | exact bF))) | (with_reducible apply Wp.gu) | (simp only [↓X3]) | (simp (disch := decide) only [asks_nil, asks_in, asks_out, askB_nil, askB_in, askB_out]) | (with_reducible apply Wp.assoc))); try simp only [outOf_exit, outOf_ret]); try (with_reducible apply Wp.cargs; case h => ((try simp (disch := omega) only [↓reduceIte, ask_true, ↓X0, X1, Nat.reduceEqDiff, Int.reduceEq, Nat.reduceAdd, Nat.reduceSub, X2, Hp_ne, Nat.reduceLeDiff, c0, c1, ng_div, hw]); with_reducible exact rfl)))
      refine Wp.rt (ih (m / 10) (by omega) (by omega) (by omega) _ _) ?_
      intro H1 n1 q1 s1
      (((repeat (first | (with_reducible apply Wp.step; case h => ((try simp (disch := omega) only [↓reduceIte, ask_true, ↓X0, X1, Nat.reduceEqDiff, Int.reduceEq, Nat.reduceAdd, Nat.reduceSub, X2, Hp_ne, Nat.reduceLeDiff, ng_mod, hw1]); with_reducible exact rfl)) | (apply Wp.andS) | (apply Wp.orS) | ((with_reducible first | apply Wp.gs | apply Wp.cs | apply Wp.cselX | apply Wp.askT | apply Wp.iteKT | apply Wp.ikb | apply Wp.askb); case h => ((try simp (disch := omega) only [↓reduceIte, ask_true, ↓X0, X1, Nat.reduceEqDiff, Int.reduceEq, Nat.reduceAdd, Nat.reduceSub, X2, Hp_ne, Nat.reduceLeDiff, ng_mod, hw1]); (with_reducible first | done | exact bT | exact bF))) | (with_reducible apply Wp.gu) | (simp only [↓X3]) | (simp (disch := decide) only [asks_nil, asks_in, asks_out, askB_nil, askB_in, askB_out]) | (with_reducible apply Wp.assoc))); try simp only [outOf_exit, outOf_ret]); try (with_reducible apply Wp.cargs; case h => ((try simp (disch := omega) only [↓reduceIte, ask_true, ↓X0, X1, Nat.reduceEqDiff, Int.reduceEq, Nat.reduceAdd, Nat.reduceSub, X2, Hp_ne, Nat.reduceLeDiff, ng_mod, hw1]); with_reducible exact rfl)))
      refine Wp.rt (kN57 (m % 10) (by omega) _ _) ?_
      intro H2 n2 q2 s2
      (((repeat (first | (with_reducible apply Wp.step; case h => ((try simp (disch := omega) only [↓reduceIte, ask_true, ↓X0, X1, Nat.reduceEqDiff, Int.reduceEq, Nat.reduceAdd, Nat.reduceSub, X2, Hp_ne, Nat.reduceLeDiff, ha]); with_reducible exact rfl)) | (apply Wp.andS) | (apply Wp.orS) | ((with_reducible first | apply Wp.gs | apply Wp.cs | apply Wp.cselX | apply Wp.askT | apply Wp.iteKT | apply Wp.ikb | apply Wp.askb); case h => ((try simp (disch := omega) only [↓reduceIte, ask_true, ↓X0, X1, Nat.reduceEqDiff, Int.reduceEq, Nat.reduceAdd, Nat.reduceSub, X2, Hp_ne, Nat.reduceLeDiff, ha]); (with_reducible first | done | exact bT | exact bF))) | (with_reducible apply Wp.gu) | (simp only [↓X3]) | (simp (disch := decide) only [asks_nil, asks_in, asks_out, askB_nil, askB_in, askB_out]) | (with_reducible apply Wp.assoc))); try simp only [outOf_exit, outOf_ret]); try (with_reducible apply Wp.cargs; case h => ((try simp (disch := omega) only [↓reduceIte, ask_true, ↓X0, X1, Nat.reduceEqDiff, Int.reduceEq, Nat.reduceAdd, Nat.reduceSub, X2, Hp_ne, Nat.reduceLeDiff, ha]); with_reducible exact rfl)))
      exact Wp.pure ⟨by simp only; omega, (by intros; first | with_reducible rfl | simp (disch := omega) only [Hp_ne, Hp_same, s2, s1]), by rw [digs_ge h, digs_lt (n := m % 10) (by omega), ← str_app]; rfl⟩
theorem k57 (x : Int) (hx : -1000000000 ≤ x ∧ x ≤ 1000000000) (H : Hp) (n : Nat) : Rt Try.prog 57 [.int .i64 x] H n (.string (strOf (decOf x))) := by
  by_cases h : x < 0
  · rw [decOf_neg h]
    have := kM57 x.natAbs (by omega) (by omega) H n
    rw [show -(x.natAbs : Int) = x by omega] at this
    exact this
  · rw [decOf_nat h]
    have := kN57 x.natAbs (by omega) H n
    rw [show (x.natAbs : Int) = x by omega] at this
    exact this
def digs0 (m : Nat) : List Int := if m = 0 then [] else digs m
theorem digs0_step {m : Nat} (h : 0 < m) : digs0 m = digs0 (m / 10) ++ [48 + ((m % 10 : Nat) : Int)] := by
  unfold digs0
  rw [if_neg (by omega)]
  by_cases h1 : m < 10
  · rw [digs_lt h1, if_pos (by omega)]; simp; omega
  · rw [digs_ge h1, if_neg (by omega)]
theorem digs0_len {m : Nat} (h : m ≤ 1000000000000) : (digs0 m).length ≤ 13 := by
  unfold digs0; split
  · simp
  · exact digs_len 12 m (by omega)
end Go.Proofs.Ytdnokdgkccnbnaa.Ax
