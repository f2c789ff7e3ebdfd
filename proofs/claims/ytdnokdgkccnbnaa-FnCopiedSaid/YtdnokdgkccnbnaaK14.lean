/- Contracts: which values are alike. -/
import Derived.Test.YtdnokdgkccnbnaaAy7
import Derived.Test.YtdnokdgkccnbnaaK10
set_option linter.unusedVariables false
set_option linter.unusedSimpArgs false
namespace Go.Proofs.Ytdnokdgkccnbnaa.Ax
open Go
/-- A node with its parts' classes for its parts. -/
def clKey (out : List Int) (x : Nd) : Nd := if x.k = 5 then ⟨x.k, x.n, x.s, gi out x.a, gi out x.b⟩ else if x.k = 6 ∨ x.k = 7 then ⟨x.k, x.n, x.s, gi out x.a, x.b⟩ else x
def nIdx (y : Nd) (ks : List Nd) : Option Nat := ks.findIdx? (fun z => decide (z = y))
def clOf (ks : List Nd) (y : Nd) : Int := match nIdx y ks with | some k => (k : Int) | none => (ks.length : Int)
def clStep (st : List Nd × List Int) (x : Nd) : List Nd × List Int := (st.1 ++ [clKey st.2 x], st.2 ++ [clOf st.1 (clKey st.2 x)])
def clRun (l : List Nd) : List Nd × List Int := l.foldl clStep ([], [])
/-- Of each node the number of the first one that is alike. -/
def classes (l : List Nd) : List Int := (clRun l).2
theorem clRun_snoc (l : List Nd) (x : Nd) : clRun (l ++ [x]) = clStep (clRun l) x := by simp [clRun, List.foldl_append]
theorem clRun_len (l : List Nd) : (clRun l).1.length = l.length ∧ (clRun l).2.length = l.length := by
  suffices ∀ (m : List Nd) (st : List Nd × List Int), (m.foldl clStep st).1.length = st.1.length + m.length ∧ (m.foldl clStep st).2.length = st.2.length + m.length by simpa [clRun] using this l ([], [])
  intro m
  induction m with
  | nil => intro st; simp
  | cons x m ih => intro st; rw [List.foldl_cons]; have := ih (clStep st x); simp [clStep] at this ⊢; omega
theorem clRun_take {l : List Nd} {j : Nat} (hj : j < l.length) : clRun (l.take (j + 1)) = clStep (clRun (l.take j)) (gi l (j : Int)) := by
  rw [take_next hj, clRun_snoc, gi_nat hj]
theorem classes_len (l : List Nd) : (classes l).length = l.length := (clRun_len l).2
theorem nIdx_snoc (y x : Nd) (ks : List Nd) : nIdx y (ks ++ [x]) = (nIdx y ks).or (if x = y then some ks.length else none) := by
  unfold nIdx
  rw [List.findIdx?_append]
  congr 1
  by_cases h : x = y <;> simp [h]
theorem nIdx_lt {y : Nd} {ks : List Nd} {k : Nat} (h : nIdx y ks = some k) : k < ks.length := by
  have := List.findIdx?_eq_some_iff_getElem.1 h
  exact this.1
theorem clOf_rng (ks : List Nd) (y : Nd) : 0 ≤ clOf ks y ∧ clOf ks y ≤ ks.length := by
  unfold clOf
  split
  · rename_i k h
    have := nIdx_lt h
    omega
  · omega
abbrev nfs : List (Nat × TypeDesc) := [(0, (.int .i64)), (1, (.int .i64)), (2, .string), (3, (.int .i64)), (4, (.int .i64))]
theorem node_agg (x y : Nd) : aggEq nfs (.agg ⟨x.cells⟩) (.agg ⟨y.cells⟩) = some (decide (x = y)) := by
  have := node_eql x.k x.n x.s x.a x.b y.k y.n y.s y.a y.b
  have h2 : (aggEq nfs (.agg ⟨x.cells⟩) (.agg ⟨y.cells⟩)).bind (fun b => some (Value.bool b)) = some (.bool (decide (x.k = y.k ∧ x.n = y.n ∧ x.s = y.s ∧ x.a = y.a ∧ x.b = y.b))) := this
  cases h : aggEq nfs (.agg ⟨x.cells⟩) (.agg ⟨y.cells⟩) with
  | none => rw [h] at h2; cases h2
  | some b =>
    rw [h] at h2
    simp only [Option.bind_some, Option.some.injEq, Value.bool.injEq] at h2
    rw [h2]
    congr 1
    apply decide_eq_decide.2
    constructor
    · rintro ⟨a, b, c, d, e⟩; cases x; cases y; simp_all
    · rintro rfl; exact ⟨rfl, rfl, rfl, rfl, rfl⟩
theorem node_binK (x y : Nd) : binK (.agg nfs) .eql (.agg ⟨x.cells⟩) (.agg ⟨y.cells⟩) = some (.bool (decide (x = y))) := by
  show eqV .eql (aggEq nfs (.agg ⟨x.cells⟩) (.agg ⟨y.cells⟩)) = _
  rw [node_agg]; rfl
/-! ### The map of the first ones -/
def cFind (y : Nd) : List (Nd × Int) → Option Int
  | [] => none
  | (x, i) :: m => if y = x then some i else cFind y m
def cEnc (m : List (Nd × Int)) : List (Value × Value) := m.map fun p => (.agg ⟨p.1.cells⟩, .int .i64 p.2)
theorem findK_enc (y : Nd) : ∀ m : List (Nd × Int), findK nfs (.agg ⟨y.cells⟩) (cEnc m) = some ((cFind y m).map (Value.int .i64))
  | [] => rfl
  | (x, i) :: m => by
    show ((aggEq nfs (.agg ⟨y.cells⟩) (.agg ⟨x.cells⟩)).bind fun b => if b then some (some (.int .i64 i)) else findK nfs (.agg ⟨y.cells⟩) (cEnc m)) = _
    rw [node_agg, Option.bind_some]
    unfold cFind
    by_cases h : y = x
    · simp [h]
    · simp [h, findK_enc y m]
theorem cFind_snoc (y x : Nd) (i : Int) : ∀ m : List (Nd × Int), cFind y (m ++ [(x, i)]) = (cFind y m).or (if y = x then some i else none)
  | [] => by simp [cFind]
  | (z, k) :: m => by
    rw [List.cons_append]
    unfold cFind
    by_cases h : y = z
    · simp [h]
    · simp [h, cFind_snoc y x i m]
theorem look_enc {H : Hp} {i : Nat} {m : List (Nd × Int)} (y : Nd) (h : H i = some (.map (cEnc m))) : lookV nfs (.int .i64 0) true (.map (some i)) (.agg ⟨y.cells⟩) H = some (.tuple ⟨[.int .i64 ((cFind y m).getD 0), .bool (cFind y m).isSome]⟩) := by
  simp only [lookV, h, node_agg, findK_enc, Option.bind_some]
  cases cFind y m <;> rfl
theorem upd_enc {H : Hp} {i : Nat} {m : List (Nd × Int)} (y : Nd) (k : Int) (h : H i = some (.map (cEnc m))) (hn : cFind y m = none) : updV nfs (.map (some i)) (.agg ⟨y.cells⟩) (.int .i64 k) H = some (H.set i (some (.map (cEnc (m ++ [(y, k)]))))) := by
  simp only [updV, h, node_agg, findK_enc, Option.bind_some, hn]
  simp [aggV, isCell, cEnc]
/-- The map has of each key the first place. -/
def First (m : List (Nd × Int)) (ks : List Nd) : Prop := ∀ y, cFind y m = (nIdx y ks).map (fun k => (k : Int))
theorem First.none {m : List (Nd × Int)} {ks : List Nd} (h : First m ks) {y : Nd} (hn : cFind y m = none) : First (m ++ [(y, (ks.length : Int))]) (ks ++ [y]) ∧ clOf ks y = ks.length := by
  have h1 := h y
  rw [hn] at h1
  have h2 : nIdx y ks = Option.none := by
    cases h3 : nIdx y ks with
    | none => rfl
    | some q => rw [h3] at h1; cases h1
  refine ⟨fun z => ?_, by unfold clOf; rw [h2]⟩
  rw [cFind_snoc, nIdx_snoc, h z]
  by_cases hz : z = y
  · subst hz; simp [h2]
  · rw [if_neg hz, if_neg (Ne.symm hz)]; simp
theorem First.some {m : List (Nd × Int)} {ks : List Nd} (h : First m ks) {y : Nd} {k : Int} (hs : cFind y m = some k) : First m (ks ++ [y]) ∧ clOf ks y = k := by
  have h1 := h y
  rw [hs] at h1
  cases h3 : nIdx y ks with
  | none => rw [h3] at h1; cases h1
  | some q =>
    rw [h3] at h1
    refine ⟨fun z => ?_, by unfold clOf; rw [h3]; simpa using h1.symm⟩
    rw [nIdx_snoc, h z]
    by_cases hz : z = y
    · subst hz; simp [h3]
    · rw [if_neg (Ne.symm hz)]; simp
theorem flat_i {l : List Int} {i : Int} (h0 : 0 ≤ i) (h1 : i < l.length) : (l.flatMap eInt.cells)[i.toNat]? = some (.int .i64 (gi l i)) := by
  have := flat_cell eInt (l := l) (j := i.toNat) (f := 0) (by omega) (by decide)
  rw [Nat.mul_one, Nat.add_zero] at this
  rw [this, gi_at h0 h1]; rfl
theorem nIdx_first {y : Nd} {ks : List Nd} {k : Nat} (hk : k < ks.length) (he : ks[k] = y) (hn : ∀ q (hq : q < ks.length), q < k → ks[q] ≠ y) : nIdx y ks = some k := by
  refine List.findIdx?_eq_some_iff_getElem.2 ⟨hk, by simpa using he, fun q hq => by simpa using hn q (by omega) hq⟩
theorem nIdx_none {y : Nd} {ks : List Nd} (hn : ∀ q (hq : q < ks.length), ks[q] ≠ y) : nIdx y ks = none := by
  refine List.findIdx?_eq_none_iff.2 fun x hx => ?_
  obtain ⟨q, hq, rfl⟩ := List.mem_iff_getElem.1 hx
  simpa using hn q hq
theorem bsl_z5 (id : Nat) (H : Hp) : bsl id 5 0 [.int .i64 0, .int .i64 0, .string ⟨#[]⟩, .int .i64 0, .int .i64 0] [] H = some (sl id 0 0, H.set id (some (.row [] 5 true))) := bsl_zn _ _ _ _ rfl
def sameAns (l : List Nd) (a b : Int) : Bool := decide (PoolOk l ∧ (0 ≤ a ∧ a < l.length) ∧ (0 ≤ b ∧ b < l.length) ∧ gi (classes l) a = gi (classes l) b)
end Go.Proofs.Ytdnokdgkccnbnaa.Ax
