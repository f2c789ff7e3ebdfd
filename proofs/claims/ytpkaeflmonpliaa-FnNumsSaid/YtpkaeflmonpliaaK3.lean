/- Contracts: numbers read from bytes. -/
import Derived.Test.YtpkaeflmonpliaaK2
set_option linter.unusedVariables false
set_option linter.unusedSimpArgs false
namespace Go.Proofs.Ytpkaeflmonpliaa.Ax
open Go
theorem mks_bytes (id : Nat) (k : Nat) (hk : k ≤ 1048576) (H : Hp) : mks id 1 1 [.int .u8 0] (.int .i64 k) (.int .i64 k) H = some (sl id 0 k, H.set id (some (.row (bytesV (List.replicate k 0)) 1 true))) := by
  have hf : ∀ k : Nat, (List.replicate k [Value.int .u8 0]).flatten = bytesV (List.replicate k 0) := by
    intro k; induction k with
    | zero => rfl
    | succ k ih => rw [List.replicate_succ, List.flatten_cons, ih]; rfl
  unfold mks
  show (if (k : Int) = k ∧ (0 : Int) ≤ k ∧ 1 ≤ 1 ∧ (k : Int) * ((1 : Nat) : Int) ≤ 140737488355328 ∧ [Value.int IntKind.u8 0].length = 1 then _ else none) = _
  rw [if_pos ⟨rfl, by omega, by omega, by omega, rfl⟩]
  simp [hf]
theorem l17 {v : Value} {id : Nat} (ho : Old id v) : ∀ (rest pre : List Int) (t : Tm) (H : Hp) (n : Nat), View H 1 v (bytesV (pre ++ rest)) (pre ++ rest).length → (pre ++ rest).length ≤ 1048576 → H id = some (.row (bytesV (pre ++ List.replicate rest.length 0)) 1 true) →
    t 0 = v → t 3 = sl id 0 (pre ++ rest).length → t 4 = .int .i64 pre.length →
    ∃ o, Loop (S17L0 (Call Try.prog) Loop) t H n = some o ∧ n ≤ o.n ∧ o.e = .exit 0 ∧ o.t 3 = sl id 0 (pre ++ rest).length ∧ o.H id = some (.row (bytesV (pre ++ rest)) 1 true) ∧ ∀ i, i ≠ id → o.H i = H i := by
  intro rest
  induction rest with
  | nil =>
    intro pre t H n hv hl hH e0 e3 e4
    rw [Loop_eq]
    unfold S17L0
    have hlt : ¬ (pre.length : Int) < ((pre ++ []).length : Nat) := by simp
    refine ⟨⟨.exit 0, put (put (put (put t 8 (.int .i64 pre.length)) 9 v) 10 (.int .i64 (pre ++ []).length)) 11 (.bool false), H, n + 4⟩, ?_, by simp, rfl, by simp [put_at, e3], by simpa using hH, fun i _ => rfl⟩
    simp only [e0, e4, hv.len, Option.bind_some, i_lss, hlt, decide_false, csel_bool, Bool.false_eq_true, if_false, thenO]
  | cons r rest ih =>
    intro pre t H n hv hl hH e0 e3 e4
    rw [Loop_eq]
    generalize hLL : Loop (S17L0 (Call Try.prog) Loop) = LL at ih ⊢
    unfold S17L0
    have hlen : (pre ++ r :: rest).length = pre.length + (rest.length + 1) := by simp
    have hlt : (pre.length : Int) < ((pre ++ r :: rest).length : Nat) := by rw [hlen]; omega
    obtain ⟨p, p1, p2, _⟩ := hv.idx (k := .i64) (j := (pre.length : Int)) (by omega) hlt
    have hp := p2 (.int .u8 r) rfl (by simp)
    have hix : idxA 1 (sl id 0 (pre ++ r :: rest).length) (.int .i64 pre.length) = some (ptr id pre.length) := by
      simp only [idxA]
      rw [if_pos ⟨by omega, hlt⟩]
      simp
    have hst := st_cell (k := .u8) (b := r) hH (show pre.length < (bytesV (pre ++ List.replicate (r :: rest).length 0)).length by simp)
    have hset : setAt (bytesV (pre ++ List.replicate (r :: rest).length 0)) pre.length [.int .u8 r] = bytesV ((pre ++ [r]) ++ List.replicate rest.length 0) := by
      have := setAt_mid (bytesV pre) (bytesV (List.replicate rest.length 0)) (.int .u8 0) (.int .u8 r) ()
      rw [List.length_map] at this
      simpa [bytesV, List.replicate_succ] using this
    rw [hset] at hst
    have hw2 : IntKind.i64.wrap ((pre.length : Int) + 1) = (((pre ++ [r]).length : Nat) : Int) := by
      rw [hlen] at hl
      rw [w64 (by omega)]; simp
    simp only [e0, e3, e4, hv.len, Option.bind_some, i_lss, hlt, decide_true, csel_bool, if_true, p1, hp, hix, hst, i_add, hw2, thenO]
    generalize hT : put _ _ _ = T
    have hll : (pre ++ [r]) ++ rest = pre ++ r :: rest := by simp
    obtain ⟨o, f1, f2, f3, f4, f5, f6⟩ := ih (pre ++ [r]) T (H.set id (some (.row (bytesV ((pre ++ [r]) ++ List.replicate rest.length 0)) 1 true))) (n + 15) (by rw [hll]; exact hv.le fun i o a c hvi => Hp_ne _ _ (by have := ho i o a c hvi; omega)) (by rw [hll]; exact hl) (Hp_same _ _ _) (by rw [← hT]; simp [put_at, e0]) (by rw [← hT, hll]; simp [put_at, e3]) (by rw [← hT]; simp [put_at])
    rw [hll] at f4 f5
    exact ⟨o, f1, by omega, f3, f4, f5, fun i hi => by rw [f6 i hi, Hp_ne _ _ hi]⟩
theorem k17 {H : Hp} {v : Value} {l : List Int} (hv : View H 1 v (bytesV l) l.length) (hl : l.length ≤ 1048576) (n : Nat) (ho : Old n v) : ∃ v' H' n', n ≤ n' ∧ Same n H H' ∧ Call Try.prog 17 [v] H n = some (v', H', n') ∧ ∃ id, n ≤ id ∧ id < n' ∧ v' = sl id 0 l.length ∧ H' id = some (.row (bytesV l) 1 true) := by
  rw [c17]; unfold S17
  have hm := mks_bytes (n + 3) l.length hl H
  simp only [argsT_at, List.getD_cons_zero, hv.len, Option.bind_some, hm]
  generalize hT : put _ _ _ = T
  obtain ⟨o, f1, f2, f3, f4, f5, f6⟩ := l17 (v := v) (id := n + 3) (fun i o a c h => by have := ho i o a c h; omega) l [] T (H.set (n + 3) (some (.row (bytesV (List.replicate l.length 0)) 1 true))) (n + 6) (hv.le fun i o a c hvi => Hp_ne _ _ (by have := ho i o a c hvi; omega)) hl (Hp_same _ _ _) (by rw [← hT]; simp [put_at, argsT_at]) (by rw [← hT]; simp [put_at]) (by rw [← hT]; simp [put_at])
  rw [f1]
  refine ⟨sl (n + 3) 0 l.length, o.H, o.n + 2, by omega, ?_, by simp only [Option.bind_some, f4]; rfl, n + 3, by omega, by omega, rfl, f5⟩
  intro i hi
  rw [f6 i (by omega), Hp_ne _ _ (by omega)]
/-- What the bytes from a place on tell: 'd' rounds are left, 'k' were, 'x' is what they told. -/
def gl : Nat → List Int → Nat → Nat → Option (Nat × Nat)
  | 0, _, _, _ => none
  | _ + 1, [], _, _ => none
  | d + 1, c :: bs, k, x => if c < 128 then (if c = 0 ∧ 0 < k then none else some (x + c.toNat * 128 ^ k, k + 1)) else gl d bs (k + 1) (x + (c.toNat % 128) * 128 ^ k)
theorem or_add {x c i : Nat} (hx : x < 128 ^ i) (hc : c < 128) (hi : i ≤ 8) : IntKind.i64.wrap (BitVec.ofInt IntKind.i64.bits (x : Int) ||| BitVec.ofInt IntKind.i64.bits ((c * 128 ^ i : Nat) : Int)).toNat = ((x + c * 128 ^ i : Nat) : Int) := by
  have h1 : (128 : Nat) ^ i ≤ 128 ^ 8 := Nat.pow_le_pow_right (by decide) hi
  have h8 : (128 : Nat) ^ 8 = 72057594037927936 := by decide
  have hm : c * 128 ^ i ≤ 127 * 128 ^ i := Nat.mul_le_mul_right _ (by omega)
  have hbits : IntKind.i64.bits = 64 := rfl
  have e1 : (BitVec.ofInt 64 (x : Int)).toNat = x := by
    rw [BitVec.toNat_ofInt]; omega
  have e2 : (BitVec.ofInt 64 ((c * 128 ^ i : Nat) : Int)).toNat = c * 128 ^ i := by
    rw [BitVec.toNat_ofInt]
    generalize c * 128 ^ i = z at *
    omega
  rw [hbits, BitVec.toNat_or, e1, e2]
  have hp : (128 : Nat) ^ i = 2 ^ (7 * i) := by rw [show (128 : Nat) = 2 ^ 7 by decide, ← Nat.pow_mul]
  have hor : x ||| c * 128 ^ i = x + c * 128 ^ i := by
    rw [hp] at hx ⊢
    rw [Nat.or_comm, Nat.mul_comm, ← Nat.two_pow_add_eq_or_of_lt hx, Nat.add_comm]
  rw [hor]
  generalize c * 128 ^ i = z at *
  exact w64 (by omega)
/-- What a loop that reads a number comes to. -/
def GotNum (H : Hp) (at_ : Nat) (r : Option (Nat × Nat)) (o : Out) : Prop :=
  o.H = H ∧ match r with
  | none => o.e = .exit 0 ∨ (o.e = .ret ∧ o.t 4 = .int .i64 0 ∧ o.t 5 = .int .i64 0 ∧ o.t 6 = .bool false)
  | some (y, m) => o.e = .ret ∧ o.t 4 = .int .i64 y ∧ o.t 5 = .int .i64 ((at_ + m : Nat) : Int) ∧ o.t 6 = .bool true
theorem l16 {H : Hp} {v : Value} {l : List Int} (hv : View H 1 v (bytesV l) l.length) (hl : l.length ≤ 1048576) (hb : ∀ c ∈ l, 0 ≤ c ∧ c ≤ 255) (at_ : Nat) : ∀ (d k x : Nat) (t : Tm) (n : Nat), k + d = 9 → at_ < l.length → x < 128 ^ k → t 0 = v → t 1 = .int .i64 at_ → t 7 = .int .i64 x → (k ≤ 8 → t 8 = .int .i64 ((128 ^ k : Nat) : Int)) → (∃ u, t 8 = .int .i64 u) → t 9 = .int .i64 k →
    ∃ o, Loop (S16L0 (Call Try.prog) Loop) t H n = some o ∧ n ≤ o.n ∧ GotNum H at_ (gl d (l.drop (at_ + k)) k x) o := by
  intro d
  induction d with
  | zero =>
    intro k x t n hk hat hx e0 e1 e7 e8 e8' e9
    rw [Loop_eq]
    unfold S16L0
    have hk9 : ¬ (k : Int) < 9 := by omega
    simp [e0, e1, e7, e9, i_lss, gsel_true, hk9, pickV_bool, csel_bool, thenO, put_at, GotNum, gl]
  | succ d ih =>
    intro k x t n hk hat hx e0 e1 e7 e8 e8' e9
    have hk9 : (k : Int) < 9 := by omega
    have e8 := e8 (by omega)
    have hw1 : IntKind.i64.wrap ((at_ : Int) + k) = ((at_ + k : Nat) : Int) := by rw [w64 (by omega)]; omega
    rw [Loop_eq]
    generalize hLL : Loop (S16L0 (Call Try.prog) Loop) = LL at ih ⊢
    unfold S16L0
    by_cases hlt : at_ + k < l.length
    · have hlti : ((at_ + k : Nat) : Int) < l.length := by omega
      obtain ⟨p, p1, p2, _⟩ := hv.idx (k := .i64) (j := ((at_ + k : Nat) : Int)) (by omega) hlti
      have hp := p2 (.int .u8 l[at_ + k]) rfl (by rw [Int.toNat_natCast, List.getElem?_map, List.getElem?_eq_getElem hlt]; rfl)
      have da : l.drop (at_ + k) = l[at_ + k] :: l.drop (at_ + k + 1) := List.drop_eq_getElem_cons hlt
      obtain ⟨c0, c1⟩ := hb l[at_ + k] (List.getElem_mem hlt)
      generalize hc : l[at_ + k] = c at hp da c0 c1
      obtain ⟨cn, rfl⟩ := Int.eq_ofNat_of_zero_le c0
      have hpk : (128 : Nat) ^ k ≤ 128 ^ 8 := Nat.pow_le_pow_right (by decide) (by omega)
      have hp8 : (128 : Nat) ^ 8 = 72057594037927936 := by decide
      have hm : (cn % 128) * 128 ^ k ≤ 127 * 128 ^ k := Nat.mul_le_mul_right _ (by omega)
      have w1 : IntKind.i64.wrap (cn : Int) = (cn : Int) := w64 (by omega)
      have w2 : (cn : Int).tmod 128 = ((cn % 128 : Nat) : Int) := by rw [Int.tmod_eq_emod_of_nonneg (by omega)]; omega
      have w3 : IntKind.i64.wrap (((cn % 128 : Nat) : Int) * ((128 ^ k : Nat) : Int)) = (((cn % 128) * 128 ^ k : Nat) : Int) := by
        rw [show ((cn % 128 : Nat) : Int) * ((128 ^ k : Nat) : Int) = (((cn % 128) * 128 ^ k : Nat) : Int) by simp]
        exact w64 (by omega)
      have w4 : IntKind.i64.wrap ((x : Int) + (((cn % 128) * 128 ^ k : Nat) : Int)) = ((x + (cn % 128) * 128 ^ k : Nat) : Int) := by
        rw [show (x : Int) + (((cn % 128) * 128 ^ k : Nat) : Int) = ((x + (cn % 128) * 128 ^ k : Nat) : Int) by simp]
        exact w64 (by omega)
      by_cases h128 : cn < 128
      · have h128i : (cn : Int) < 128 := by omega
        have hmod : cn % 128 = cn := by omega
        by_cases hz : cn = 0 ∧ 0 < k
        · obtain ⟨rfl, hk0⟩ := hz
          have hk0i : (0 : Int) < k := by omega
          have hg : gl (d + 1) (l.drop (at_ + k)) k x = none := by rw [da]; unfold gl; simp [hk0]
          rw [hg]
          simp only [e0, e1, e7, e8, e9, i_lss, i_leq, i_gtr, i_eql, i_add, i_mul, i_rem, hk9, decide_true, gsel_true, if_true, Option.bind_some, put_at, Nat.reduceEqDiff, if_false, reduceIte, hv.len, hw1, hlti, pickV_bool, csel_bool, p1, hp, conv_int, w1, show ((128 : Int) = 0) = False by simp, w2, w3, w4, h128i, show (((0 : Nat) : Int) = 0) = True by simp, hk0i, thenO]
          exact ⟨_, rfl, by simp; omega, rfl, .inr ⟨rfl, by simp [put_at], by simp [put_at], by simp [put_at]⟩⟩
        · have hg : gl (d + 1) (l.drop (at_ + k)) k x = some (x + cn * 128 ^ k, k + 1) := by
            rw [da]; unfold gl
            rw [if_pos h128i, if_neg (by omega)]
            simp
          rw [hg]
          have hw5 : IntKind.i64.wrap (((at_ + k : Nat) : Int) + 1) = ((at_ + (k + 1) : Nat) : Int) := by rw [w64 (by omega)]; omega
          by_cases hz0 : cn = 0
          · subst hz0
            have hk0i : ¬ (0 : Int) < k := by omega
            simp only [e0, e1, e7, e8, e9, i_lss, i_leq, i_gtr, i_eql, i_add, i_mul, i_rem, hk9, decide_true, gsel_true, if_true, Option.bind_some, put_at, Nat.reduceEqDiff, if_false, reduceIte, hv.len, hw1, hlti, pickV_bool, csel_bool, p1, hp, conv_int, w1, show ((128 : Int) = 0) = False by simp, w2, w3, w4, h128i, show (((0 : Nat) : Int) = 0) = True by simp, hk0i, decide_false, Bool.false_eq_true, hw5, thenO]
            refine ⟨_, rfl, by simp; omega, rfl, rfl, by simp [put_at], by simp [put_at], by simp [put_at]⟩
          · have hz0i : ¬ (cn : Int) = 0 := by omega
            simp only [e0, e1, e7, e8, e9, i_lss, i_leq, i_gtr, i_eql, i_add, i_mul, i_rem, hk9, decide_true, gsel_true, if_true, Option.bind_some, put_at, Nat.reduceEqDiff, if_false, reduceIte, hv.len, hw1, hlti, pickV_bool, csel_bool, p1, hp, conv_int, w1, show ((128 : Int) = 0) = False by simp, w2, w3, w4, h128i, hz0i, decide_false, Bool.false_eq_true, hw5, thenO]
            refine ⟨_, rfl, by simp; omega, rfl, rfl, by simp [put_at, hmod], by simp [put_at], by simp [put_at]⟩
      · have h128i : ¬ (cn : Int) < 128 := by omega
        have hg : gl (d + 1) (l.drop (at_ + k)) k x = gl d (l.drop (at_ + (k + 1))) (k + 1) (x + (cn % 128) * 128 ^ k) := by
          rw [da, gl, if_neg h128i]
          rfl
        rw [hg]
        have hw6 : IntKind.i64.wrap ((k : Int) + 1) = ((k + 1 : Nat) : Int) := by rw [w64 (by omega)]; omega
        simp only [e0, e1, e7, e8, e9, i_lss, i_leq, i_gtr, i_eql, i_add, i_mul, i_rem, hk9, decide_true, gsel_true, if_true, Option.bind_some, put_at, Nat.reduceEqDiff, if_false, reduceIte, hv.len, hw1, hlti, pickV_bool, csel_bool, p1, hp, conv_int, w1, show ((128 : Int) = 0) = False by simp, w2, w3, w4, h128i, decide_false, Bool.false_eq_true, hw6, thenO]
        generalize hT : put _ _ _ = T
        have hx2 : x + (cn % 128) * 128 ^ k < 128 ^ (k + 1) := by rw [Nat.pow_succ]; omega
        have h8 : k + 1 ≤ 8 → IntKind.i64.wrap (((128 ^ k : Nat) : Int) * 128) = ((128 ^ (k + 1) : Nat) : Int) := by
          intro h
          have : (128 : Nat) ^ (k + 1) ≤ 128 ^ 8 := Nat.pow_le_pow_right (by decide) h
          rw [show ((128 ^ k : Nat) : Int) * 128 = ((128 ^ (k + 1) : Nat) : Int) by rw [Nat.pow_succ]; simp]
          exact w64 (by omega)
        obtain ⟨o, f1, f2, f3⟩ := ih (k + 1) (x + (cn % 128) * 128 ^ k) T (n + 33) (by omega) hat hx2 (by rw [← hT]; simp [put_at, e0]) (by rw [← hT]; simp [put_at, e1]) (by rw [← hT]; simp [put_at]) (by intro h; rw [← hT]; simp only [put_at, Nat.reduceEqDiff, if_false, reduceIte]; rw [h8 h]) (by rw [← hT]; simp [put_at]) (by rw [← hT]; simp [put_at])
        exact ⟨o, f1, by omega, f3⟩
    · have hlti : ¬ ((at_ + k : Nat) : Int) < l.length := by omega
      have hg : gl (d + 1) (l.drop (at_ + k)) k x = none := by rw [List.drop_eq_nil_of_le (by omega)]; rfl
      rw [hg]
      simp only [e0, e1, e7, e8, e9, i_lss, i_add, hk9, decide_true, gsel_true, if_true, Option.bind_some, put_at, Nat.reduceEqDiff, if_false, reduceIte, hv.len, hw1, hlti, decide_false, Bool.false_eq_true, pickV_bool, csel_bool, thenO]
      exact ⟨_, rfl, by simp, rfl, .inl rfl⟩
theorem i_or (k : IntKind) (a b : Int) : binK .plain .or (.int k a) (.int k b) = some (.int k (k.wrap (BitVec.ofInt k.bits a ||| BitVec.ofInt k.bits b).toNat)) := by simp [binK, bin, isShift, intBin]
theorem l18 {H : Hp} {v : Value} {l : List Int} (hv : View H 1 v (bytesV l) l.length) (hl : l.length ≤ 1048576) (hb : ∀ c ∈ l, 0 ≤ c ∧ c ≤ 255) (at_ : Nat) : ∀ (d k x : Nat) (t : Tm) (n : Nat), k + d = 9 → at_ < l.length → x < 128 ^ k → t 0 = v → t 1 = .int .i64 at_ → t 7 = .int .i64 x → t 8 = .int .i64 k →
    ∃ o, Loop (S18L0 (Call Try.prog) Loop) t H n = some o ∧ n ≤ o.n ∧ GotNum H at_ (gl d (l.drop (at_ + k)) k x) o := by
  intro d
  induction d with
  | zero =>
    intro k x t n hk hat hx e0 e1 e7 e8
    rw [Loop_eq]
    unfold S18L0
    have hk9 : ¬ (k : Int) < 9 := by omega
    simp [e0, e1, e7, e8, i_lss, gsel_true, hk9, pickV_bool, csel_bool, thenO, put_at, GotNum, gl]
  | succ d ih =>
    intro k x t n hk hat hx e0 e1 e7 e8
    have hk9 : (k : Int) < 9 := by omega
    have hw1 : IntKind.i64.wrap ((at_ : Int) + k) = ((at_ + k : Nat) : Int) := by rw [w64 (by omega)]; omega
    rw [Loop_eq]
    generalize hLL : Loop (S18L0 (Call Try.prog) Loop) = LL at ih ⊢
    unfold S18L0
    by_cases hlt : at_ + k < l.length
    · have hlti : ((at_ + k : Nat) : Int) < l.length := by omega
      obtain ⟨p, p1, p2, _⟩ := hv.idx (k := .i64) (j := ((at_ + k : Nat) : Int)) (by omega) hlti
      have hp := p2 (.int .u8 l[at_ + k]) rfl (by rw [Int.toNat_natCast, List.getElem?_map, List.getElem?_eq_getElem hlt]; rfl)
      have da : l.drop (at_ + k) = l[at_ + k] :: l.drop (at_ + k + 1) := List.drop_eq_getElem_cons hlt
      obtain ⟨c0, c1⟩ := hb l[at_ + k] (List.getElem_mem hlt)
      generalize hc : l[at_ + k] = c at hp da c0 c1
      obtain ⟨cn, rfl⟩ := Int.eq_ofNat_of_zero_le c0
      have hpk : (128 : Nat) ^ k ≤ 128 ^ 8 := Nat.pow_le_pow_right (by decide) (by omega)
      have hp8 : (128 : Nat) ^ 8 = 72057594037927936 := by decide
      have hm : (cn % 128) * 128 ^ k ≤ 127 * 128 ^ k := Nat.mul_le_mul_right _ (by omega)
      have w2 : (cn : Int).tmod 128 = ((cn % 128 : Nat) : Int) := by rw [Int.tmod_eq_emod_of_nonneg (by omega)]; omega
      have w1 : IntKind.i64.wrap ((cn % 128 : Nat) : Int) = ((cn % 128 : Nat) : Int) := w64 (by omega)
      have w5 : IntKind.i64.wrap (7 * (k : Int)) = ((7 * k : Nat) : Int) := by rw [w64 (by omega)]; omega
      have w6 : ¬ (((7 * k : Nat) : Int) < 0) := by omega
      have hpe : (2 : Int) ^ (min (((7 * k : Nat) : Int).toNat) IntKind.i64.bits) = ((128 ^ k : Nat) : Int) := by
        have hb : IntKind.i64.bits = 64 := rfl
        rw [hb, Int.toNat_natCast, Nat.min_eq_left (by omega)]
        have : (128 : Nat) ^ k = 2 ^ (7 * k) := by rw [show (128 : Nat) = 2 ^ 7 by decide, ← Nat.pow_mul]
        rw [this]; simp
      have w3 : IntKind.i64.wrap (((cn % 128 : Nat) : Int) * ((128 ^ k : Nat) : Int)) = (((cn % 128) * 128 ^ k : Nat) : Int) := by
        rw [show ((cn % 128 : Nat) : Int) * ((128 ^ k : Nat) : Int) = (((cn % 128) * 128 ^ k : Nat) : Int) by simp]
        exact w64 (by omega)
      have w4 := or_add (c := cn % 128) hx (by omega) (show k ≤ 8 by omega)
      by_cases h128 : cn < 128
      · have h128i : (cn : Int) < 128 := by omega
        have hmod : cn % 128 = cn := by omega
        by_cases hz : cn = 0 ∧ 0 < k
        · obtain ⟨rfl, hk0⟩ := hz
          have hk0i : (0 : Int) < k := by omega
          have hg : gl (d + 1) (l.drop (at_ + k)) k x = none := by rw [da]; unfold gl; simp [hk0]
          rw [hg]
          simp only [e0, e1, e7, e8, i_lss, i_leq, i_gtr, i_eql, i_add, i_mul, i_rem, i_shl, i_or, hk9, decide_true, gsel_true, if_true, Option.bind_some, put_at, Nat.reduceEqDiff, if_false, reduceIte, hv.len, hw1, hlti, pickV_bool, csel_bool, p1, hp, conv_int, w1, show ((128 : Int) = 0) = False by simp, w2, w5, w6, hpe, w3, w4, h128i, show (((0 : Nat) : Int) = 0) = True by simp, hk0i, thenO]
          exact ⟨_, rfl, by simp; omega, rfl, .inr ⟨rfl, by simp [put_at], by simp [put_at], by simp [put_at]⟩⟩
        · have hg : gl (d + 1) (l.drop (at_ + k)) k x = some (x + cn * 128 ^ k, k + 1) := by
            rw [da]; unfold gl
            rw [if_pos h128i, if_neg (by omega)]
            simp
          rw [hg]
          have hw5 : IntKind.i64.wrap (((at_ + k : Nat) : Int) + 1) = ((at_ + (k + 1) : Nat) : Int) := by rw [w64 (by omega)]; omega
          by_cases hz0 : cn = 0
          · subst hz0
            have hk0i : ¬ (0 : Int) < k := by omega
            simp only [e0, e1, e7, e8, i_lss, i_leq, i_gtr, i_eql, i_add, i_mul, i_rem, i_shl, i_or, hk9, decide_true, gsel_true, if_true, Option.bind_some, put_at, Nat.reduceEqDiff, if_false, reduceIte, hv.len, hw1, hlti, pickV_bool, csel_bool, p1, hp, conv_int, w1, show ((128 : Int) = 0) = False by simp, w2, w5, w6, hpe, w3, w4, h128i, show (((0 : Nat) : Int) = 0) = True by simp, hk0i, decide_false, Bool.false_eq_true, hw5, thenO]
            refine ⟨_, rfl, by simp; omega, rfl, rfl, by simp [put_at], by simp [put_at], by simp [put_at]⟩
          · have hz0i : ¬ (cn : Int) = 0 := by omega
            simp only [e0, e1, e7, e8, i_lss, i_leq, i_gtr, i_eql, i_add, i_mul, i_rem, i_shl, i_or, hk9, decide_true, gsel_true, if_true, Option.bind_some, put_at, Nat.reduceEqDiff, if_false, reduceIte, hv.len, hw1, hlti, pickV_bool, csel_bool, p1, hp, conv_int, w1, show ((128 : Int) = 0) = False by simp, w2, w5, w6, hpe, w3, w4, h128i, hz0i, decide_false, Bool.false_eq_true, hw5, thenO]
            refine ⟨_, rfl, by simp; omega, rfl, rfl, by simp [put_at, hmod], by simp [put_at], by simp [put_at]⟩
      · have h128i : ¬ (cn : Int) < 128 := by omega
        have hg : gl (d + 1) (l.drop (at_ + k)) k x = gl d (l.drop (at_ + (k + 1))) (k + 1) (x + (cn % 128) * 128 ^ k) := by
          rw [da, gl, if_neg h128i]
          rfl
        rw [hg]
        have hw6 : IntKind.i64.wrap ((k : Int) + 1) = ((k + 1 : Nat) : Int) := by rw [w64 (by omega)]; omega
        simp only [e0, e1, e7, e8, i_lss, i_leq, i_gtr, i_eql, i_add, i_mul, i_rem, i_shl, i_or, hk9, decide_true, gsel_true, if_true, Option.bind_some, put_at, Nat.reduceEqDiff, if_false, reduceIte, hv.len, hw1, hlti, pickV_bool, csel_bool, p1, hp, conv_int, w1, show ((128 : Int) = 0) = False by simp, w2, w5, w6, hpe, w3, w4, h128i, decide_false, Bool.false_eq_true, hw6, thenO]
        generalize hT : put _ _ _ = T
        have hx2 : x + (cn % 128) * 128 ^ k < 128 ^ (k + 1) := by rw [Nat.pow_succ]; omega
        obtain ⟨o, f1, f2, f3⟩ := ih (k + 1) (x + (cn % 128) * 128 ^ k) T (n + 10 + 21) (by omega) hat hx2 (by rw [← hT]; simp [put_at, e0]) (by rw [← hT]; simp [put_at, e1]) (by rw [← hT]; simp [put_at]) (by rw [← hT]; simp [put_at])
        exact ⟨o, f1, by omega, f3⟩
    · have hlti : ¬ ((at_ + k : Nat) : Int) < l.length := by omega
      have hg : gl (d + 1) (l.drop (at_ + k)) k x = none := by rw [List.drop_eq_nil_of_le (by omega)]; rfl
      rw [hg]
      simp only [e0, e1, e7, e8, i_lss, i_add, hk9, decide_true, gsel_true, if_true, Option.bind_some, put_at, Nat.reduceEqDiff, if_false, reduceIte, hv.len, hw1, hlti, decide_false, Bool.false_eq_true, pickV_bool, csel_bool, thenO]
      exact ⟨_, rfl, by simp, rfl, .inl rfl⟩
end Go.Proofs.Ytpkaeflmonpliaa.Ax
