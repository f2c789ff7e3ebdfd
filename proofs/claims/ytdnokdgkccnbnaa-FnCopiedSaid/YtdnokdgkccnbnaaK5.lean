/- Contracts: what is drawn from bytes. -/
import Derived.Test.YtdnokdgkccnbnaaAy6
import Derived.Test.YtdnokdgkccnbnaaSh
set_option linter.unusedVariables false
set_option linter.unusedSimpArgs false
namespace Go.Proofs.Ytdnokdgkccnbnaa.Ax
open Go

theorem k68 {c n : Nat} {H : Hp} (hc : Cu c n H) : RtD Try.prog 68 [ptr c 0] c H n (fun v _ _ => ∃ x : Int, v = .int .i64 x ∧ 0 ≤ x ∧ x ≤ 255) := by
  obtain ⟨h1, b, l, i, x, h2, h3, h4, h5, h6, h7⟩ := hc
  unfold RtD
  rw [c68]; unfold S68
  have b0 := fun o sz => ld_box (o := o) h7 sz
  have s0 := fun o vs => stv_box (o := o) (vs := vs) h7
  simp (disch := omega) only [↓reduceIte, ask_true, ↓X0, X1, Nat.reduceEqDiff, Int.reduceEq, Nat.reduceAdd, Nat.reduceSub, b0, s0, st_i, i_shr' _ _ _ _ (show (0 : Int) ≤ 33 by decide), i_shr' _ _ _ _ (show (0 : Int) ≤ 45 by decide), i_xor, i_and, ld_set, setAt, List.take_succ_cons, List.take_zero, List.cons_append, List.nil_append, List.drop_succ_cons, List.drop_zero, List.length_cons, List.length_nil, Nat.reduceLeDiff, h2.len]
  have hA := fun a => and_le a 255 (by decide)
  generalize IntKind.i64.wrap _ = h' 
  generalize hz : IntKind.i64.wrap ((BitVec.ofInt IntKind.i64.bits _ &&& BitVec.ofInt IntKind.i64.bits 255).toNat : Int) = z
  have hz1 : 0 ≤ z ∧ z ≤ 255 := by rw [← hz]; exact hA _
  by_cases hi : i < (l.length : Int)
  · have h2' : Li eByte c (H.set c (some (.row [b, .int .i64 i, .int .i64 h'] 0 true))) b l := h2.keep' fun j o a k e => Hp_ne _ _ (by have := h2.2 j o a k e; omega)
    have hw : IntKind.i64.wrap (i + 1) = i + 1 := w64 (by omega)
    simp (disch := omega) only [↓reduceIte, ask_true, ↓X0, X1, Nat.reduceEqDiff, Int.reduceEq, Nat.reduceAdd, Nat.reduceSub, hi, h2'.bAll h5 hi, stv_set, List.length_cons, List.length_nil, Nat.reduceLeDiff, ld_set, st_i, setAt, List.take_succ_cons, List.take_zero, List.cons_append, List.nil_append, List.drop_succ_cons, List.drop_zero, hw, i_and]
    refine ⟨_, _, _, ?_, ?_, ?_, rfl, _, rfl, hA _⟩
    · omega
    · exact (Upd.refl _ _ _).set _
    · exact ⟨by omega, b, l, i + 1, h', h2.keep' fun j o a k e => Hp_ne _ _ (by have := h2.2 j o a k e; omega), h3, h4, by omega, by omega, Hp_same _ _ _⟩
  · simp (disch := omega) only [↓reduceIte, ask_true, ↓X0, X1, Nat.reduceEqDiff, Int.reduceEq, Nat.reduceAdd, Nat.reduceSub, hi]
    refine ⟨_, _, _, ?_, ?_, ?_, rfl, _, rfl, hz1⟩
    · omega
    · exact (Upd.refl _ _ _).set _
    · exact ⟨by omega, b, l, i, h', h2.keep' fun j o a k e => Hp_ne _ _ (by have := h2.2 j o a k e; omega), h3, h4, by omega, by omega, Hp_same _ _ _⟩

theorem k39 {c n : Nat} {H : Hp} (hc : Cu c n H) (m : Int) : RtD Try.prog 39 [ptr c 0, .int .i64 m] c H n (fun v _ _ => ∃ x : Int, v = .int .i64 x ∧ (m ≤ 0 → x = 0) ∧ (0 < m → 0 ≤ x ∧ x < m)) := by
  unfold RtD
  rw [c39]; unfold S39
  by_cases h1 : m ≤ 0
  · simp (disch := omega) only [↓reduceIte, ask_true, ↓X0, X1, Nat.reduceEqDiff, Int.reduceEq, Nat.reduceAdd, Nat.reduceSub, h1]
    exact ⟨_, _, _, by omega, Upd.refl _ _ _, hc.up (by omega), rfl, 0, rfl, fun _ => rfl, fun h => by omega⟩
  · have hm : ¬ m = 0 := by omega
    have tm : ∀ y : Int, 0 ≤ y → 0 ≤ y.tmod m ∧ y.tmod m < m := fun y hy => ⟨Int.tmod_nonneg _ hy, Int.tmod_lt_of_pos _ (by omega)⟩
    by_cases h2 : m ≤ 256
    · obtain ⟨v, H1, n1, a1, a2, a3, a4, x, rfl, a5, a6⟩ := k68 (hc.up (show n ≤ n + 10 by omega))
      simp (disch := omega) only [↓reduceIte, ask_true, ↓X0, X1, Nat.reduceEqDiff, Int.reduceEq, Nat.reduceAdd, Nat.reduceSub, h1, h2, a4, hm]
      have := tm x a5
      exact ⟨_, _, _, by omega, a2.less (by omega), a3, rfl, _, rfl, fun h => h.elim, fun _ => this⟩
    · obtain ⟨_, H1, n1, a1, a2, a3, a4, x, rfl, a5, a6⟩ := k68 (hc.up (show n ≤ n + 8 by omega))
      obtain ⟨_, H2, n2, b1, b2, b3, b4, y, rfl, b5, b6⟩ := k68 (a3.up (show n1 ≤ n1 + 3 by omega))
      obtain ⟨_, H3, n3, c1, c2, c3, c4, z, rfl, c5, c6⟩ := k68 (b3.up (show n2 ≤ n2 + 3 by omega))
      obtain ⟨_, H4, n4, d1, d2, d3, d4, w, rfl, d5, d6⟩ := k68 (c3.up (show n3 ≤ n3 + 3 by omega))
      have w1 : IntKind.i64.wrap (x * 16777216) = x * 16777216 := w64 (by omega)
      have w2 : IntKind.i64.wrap (y * 65536) = y * 65536 := w64 (by omega)
      have w3 : IntKind.i64.wrap (z * 256) = z * 256 := w64 (by omega)
      have w4 : IntKind.i64.wrap (x * 16777216 + y * 65536) = x * 16777216 + y * 65536 := w64 (by omega)
      have w5 : IntKind.i64.wrap (x * 16777216 + y * 65536 + z * 256) = x * 16777216 + y * 65536 + z * 256 := w64 (by omega)
      have w6 : IntKind.i64.wrap (x * 16777216 + y * 65536 + z * 256 + w) = x * 16777216 + y * 65536 + z * 256 + w := w64 (by omega)
      simp (disch := omega) only [↓reduceIte, ask_true, ↓X0, X1, Nat.reduceEqDiff, Int.reduceEq, Nat.reduceAdd, Nat.reduceSub, h1, h2, a4, b4, c4, d4, w1, w2, w3, w4, w5, w6, hm]
      have := tm (x * 16777216 + y * 65536 + z * 256 + w) (by omega)
      refine ⟨_, _, _, ?_, ?_, ?_, rfl, _, rfl, fun h => h.elim, fun _ => this⟩
      · omega
      · exact (a2.less (by omega)).tr ((b2.less (show n1 ≤ n1 + 3 by omega)).tr ((c2.less (show n2 ≤ n2 + 3 by omega)).tr (d2.less (show n3 ≤ n3 + 3 by omega)) (by omega)) (by omega)) (by omega)
      · exact d3.up (by omega)
theorem k38 {c n : Nat} {H : Hp} (hc : Cu c n H) (m : Int) : RtD Try.prog 38 [ptr c 0, .int .i64 m] c H n (fun v _ _ => ∃ b : Bool, v = .bool b) := by
  unfold RtD
  rw [c38]; unfold S38
  obtain ⟨_, H1, n1, a1, a2, a3, a4, x, rfl, _⟩ := k39 (hc.up (show n ≤ n + 6 by omega)) m
  simp (disch := omega) only [↓reduceIte, ask_true, ↓X0, X1, Nat.reduceEqDiff, Int.reduceEq, Nat.reduceAdd, Nat.reduceSub, a4]
  exact ⟨_, _, _, by omega, a2.less (by omega), a3, rfl, _, rfl⟩
theorem k69 {c n : Nat} {H : Hp} (hc : Cu c n H) {w : Value} {xs : List Int} (hw : Li eInt n H w xs) (ho : Off c w) (hne : xs ≠ []) : RtD Try.prog 69 [ptr c 0, w] c H n (fun v _ _ => ∃ x : Int, v = .int .i64 x ∧ x ∈ xs) := by
  unfold RtD
  rw [c69]; unfold S69
  have hl : 0 < xs.length := List.length_pos_iff.2 hne
  obtain ⟨_, H1, n1, a1, a2, a3, a4, x, rfl, _, a5⟩ := k39 (hc.up (show n ≤ n + 9 by omega)) (xs.length : Int)
  have a5 := a5 (by omega)
  have g := (hw.upd1 a2 (by omega) ho).iAll a5.1 a5.2
  simp (disch := omega) only [↓reduceIte, ask_true, ↓X0, X1, Nat.reduceEqDiff, Int.reduceEq, Nat.reduceAdd, Nat.reduceSub, hw.len, a4, g]
  exact ⟨_, _, _, by omega, a2.less (by omega), a3, rfl, _, rfl, gi_mem a5.1 a5.2⟩
theorem k77 {c n : Nat} {H : Hp} (hc : Cu c n H) {w : Value} {xs : List ByteArray} (hw : Li eStr n H w xs) (ho : Off c w) (hne : xs ≠ []) : RtD Try.prog 77 [ptr c 0, w] c H n (fun v _ _ => ∃ x : ByteArray, v = .string x ∧ x ∈ xs) := by
  unfold RtD
  rw [c77]; unfold S77
  have hl : 0 < xs.length := List.length_pos_iff.2 hne
  obtain ⟨_, H1, n1, a1, a2, a3, a4, x, rfl, _, a5⟩ := k39 (hc.up (show n ≤ n + 9 by omega)) (xs.length : Int)
  have a5 := a5 (by omega)
  have g := (hw.upd1 a2 (by omega) ho).tAll a5.1 a5.2
  simp (disch := omega) only [↓reduceIte, ask_true, ↓X0, X1, Nat.reduceEqDiff, Int.reduceEq, Nat.reduceAdd, Nat.reduceSub, hw.len, a4, g]
  exact ⟨_, _, _, by omega, a2.less (by omega), a3, rfl, _, rfl, gi_mem a5.1 a5.2⟩
theorem l36 {n0 : Nat} {H : Hp} {v : Value} {l : List Int} (hv : Li eByte n0 H v l) (hb : ∀ x ∈ l, 0 ≤ x ∧ x ≤ 255) (hl : l.length ≤ 1048576) : ∀ t n (h : Int), t 0 = v → t 3 = .int .i64 h → t 4 = .int .i64 0 →
    Wp (Loop (S36L0 (Call Try.prog) Loop) t H n) (fun o => n ≤ o.n ∧ o.H = H ∧ o.e = .exit 0 ∧ o.t 0 = v ∧ ∃ h, o.t 3 = .int .i64 h) := by
  intro t n h e0 e3 e4
  refine Loop_rule (fun d t H' n' => ∃ j : Nat, j + d = l.length ∧ n ≤ n' ∧ H' = H ∧ t 0 = v ∧ (∃ h, t 3 = .int .i64 h) ∧ t 4 = .int .i64 j) _ ?_ l.length t H n ⟨0, by omega, by omega, rfl, e0, ⟨h, e3⟩, e4⟩
  rintro d t H' n' ⟨j, hj, hn, rfl, e0, ⟨h, e3⟩, e4⟩
  unfold S36L0
  by_cases h1 : (j : Int) < l.length
  · by_cases h2 : (j : Int) < 4000
    · have hw := wj (j := j) (len := l.length) (by omega) (by omega)
      simp (disch := omega) only [↓reduceIte, ask_true, ↓X0, X1, Nat.reduceEqDiff, Int.reduceEq, Nat.reduceAdd, Nat.reduceSub, e0, e3, e4, hv.len, h1, h2, hv.bAll (by omega) h1, i_and, hw]
      exact Wp.pure (Nxt.go (d - 1) (by omega) ⟨j + 1, by omega, by omega, rfl, by simp [put_at, e0], ⟨_, by simp [put_at]; rfl⟩, by simp [put_at]⟩)
    · simp (disch := omega) only [↓reduceIte, ask_true, ↓X0, X1, Nat.reduceEqDiff, Int.reduceEq, Nat.reduceAdd, Nat.reduceSub, e0, e3, e4, hv.len, h1, h2]
      exact Wp.pure (Nxt.exit ⟨by simp only; omega, rfl, rfl, by simp [put_at, e0], ⟨h, by simp [put_at, e3]⟩⟩)
  · simp (disch := omega) only [↓reduceIte, ask_true, ↓X0, X1, Nat.reduceEqDiff, Int.reduceEq, Nat.reduceAdd, Nat.reduceSub, e0, e3, e4, hv.len, h1]
    exact Wp.pure (Nxt.exit ⟨by simp only; omega, rfl, rfl, by simp [put_at, e0], ⟨h, by simp [put_at, e3]⟩⟩)
/-- A new cursor. -/
theorem k36 {n : Nat} {H : Hp} {v : Value} {l : List Int} (hv : Li eByte n H v l) (hb : ∀ x ∈ l, 0 ≤ x ∧ x ≤ 255) (hl : l.length ≤ 1048576) : ∃ c H' n', n ≤ c ∧ Same n H H' ∧ Cu c n' H' ∧ Call Try.prog 36 [v] H n = some (ptr c 0, H', n') := by
  rw [c36]; unfold S36
  have w1 : IntKind.i64.wrap (17000 + (l.length : Int)) = 17000 + (l.length : Int) := w64 (by omega)
  simp (disch := omega) only [↓reduceIte, ask_true, ↓X0, X1, Nat.reduceEqDiff, Int.reduceEq, Nat.reduceAdd, Nat.reduceSub, hv.len, w1]
  generalize hT : put _ _ _ = T
  obtain ⟨⟨oe, ot, oH, on⟩, f1, f2, f3, f4, f5, h, f6⟩ := l36 hv hb hl T (n + 6) _ (by rw [← hT]; simp [put_at, argsT_at]) (by rw [← hT]; simp [put_at, argsT_at]; rfl) (by rw [← hT]; simp [put_at])
  simp only at f2 f3 f4 f5 f6
  subst f3
  have hcell : vcells v = some [v] := by
    obtain ⟨⟨_, h | ⟨i, o, c, cs, e, rw, rfl, _⟩⟩, _⟩ := hv
    · obtain ⟨_, rfl | ⟨i, o, q, c, rfl⟩⟩ := h <;> rfl
    · rfl
  have hbld : bld [nilS, .int .i64 0, .int .i64 0] [(0, 1, v), (2, 1, .int .i64 h)] = some (.agg ⟨[v, .int .i64 0, .int .i64 h]⟩) := by
    simp only [bld, fill, hcell, Option.bind_some]; rfl
  rw [f1]
  simp (disch := omega) only [↓reduceIte, ask_true, ↓X0, X1, Nat.reduceEqDiff, Int.reduceEq, Nat.reduceAdd, Nat.reduceSub, f5, f6, hbld, vcells_agg]
  exact ⟨_, _, _, by omega, (Same.refl _ _).set (by omega) _, ⟨by omega, v, l, 0, h, (hv.up (by omega)).keep' fun i o a k e => Hp_ne _ _ (by have := hv.2 i o a k e; omega), hb, hl, by omega, by omega, Hp_same _ _ _⟩, rfl⟩
end Go.Proofs.Ytdnokdgkccnbnaa.Ax
