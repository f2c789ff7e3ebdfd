/- How the abstract machine's bodies are gone through: small laws. -/
import Derived.Test.YtdnokdgkccnbnaaAx3
import Derived.IntWalk
set_option linter.unusedSimpArgs false
set_option linter.unusedVariables false
namespace Go.Proofs.Ytdnokdgkccnbnaa.Ax
open Go

theorem put_same (t : Tm) (d : Nat) (v : Value) : put t d v d = v := by simp [put]
theorem put_at (t : Tm) (d : Nat) (v : Value) (i : Nat) : put t d v i = if i = d then v else t i := rfl
theorem csel_bool {α : Type} (b : Bool) (A B : Option α) : csel (.bool b) A B = if b = true then A else B := rfl
theorem gsel_true {α : Type} (b : Bool) (A B : α) : gsel (.bool b) true A B = if b = true then A else B := rfl
theorem gsel_false {α : Type} (b : Bool) (A B : α) : gsel (.bool b) false A B = if b = true then B else A := by cases b <;> rfl
theorem gsel_undef {α : Type} (l : Array Value) (w : Bool) (A B : α) : gsel (.tuple l) w A B = B := rfl
theorem pickV_true (x y : Value) : pickV (.bool true) x y = some x := rfl
theorem pickV_false (x y : Value) : pickV (.bool false) x y = some y := rfl
theorem pickV_bool (b : Bool) (x y : Value) : pickV (.bool b) x y = some (if b = true then x else y) := rfl
theorem un_not (b : Bool) : un .not (.bool b) = some (.bool !b) := rfl
theorem un_neg (k : IntKind) (n : Int) : un .neg (.int k n) = some (.int k (k.wrap (0 - n))) := rfl
theorem bool_eq (a b : Bool) : binK .bool .eql (.bool a) (.bool b) = some (.bool (a == b)) := rfl
theorem bool_ne (a b : Bool) : binK .bool .neq (.bool a) (.bool b) = some (.bool !(a == b)) := rfl
theorem i_add (k : IntKind) (a b : Int) : binK .plain .add (.int k a) (.int k b) = some (.int k (k.wrap (a + b))) := by simp [binK, bin, isShift, intBin]
theorem i_sub (k : IntKind) (a b : Int) : binK .plain .sub (.int k a) (.int k b) = some (.int k (k.wrap (a - b))) := by simp [binK, bin, isShift, intBin]
theorem i_mul (k : IntKind) (a b : Int) : binK .plain .mul (.int k a) (.int k b) = some (.int k (k.wrap (a * b))) := by simp [binK, bin, isShift, intBin]
theorem i_quo (k : IntKind) (a b : Int) : binK .plain .quo (.int k a) (.int k b) = if b = 0 then none else some (.int k (k.wrap (a.tdiv b))) := by simp [binK, bin, isShift, intBin]
theorem i_rem (k : IntKind) (a b : Int) : binK .plain .rem (.int k a) (.int k b) = if b = 0 then none else some (.int k (a.tmod b)) := by simp [binK, bin, isShift, intBin]
theorem i_eql (k : IntKind) (a b : Int) : binK .plain .eql (.int k a) (.int k b) = some (.bool (decide (a = b))) := by simp [binK, bin, isShift, intBin]; rfl
theorem i_neq (k : IntKind) (a b : Int) : binK .plain .neq (.int k a) (.int k b) = some (.bool (decide (a ≠ b))) := by simp [binK, bin, isShift, intBin, bne]; rfl
theorem i_lss (k : IntKind) (a b : Int) : binK .plain .lss (.int k a) (.int k b) = some (.bool (decide (a < b))) := by simp [binK, bin, isShift, intBin]
theorem i_leq (k : IntKind) (a b : Int) : binK .plain .leq (.int k a) (.int k b) = some (.bool (decide (a ≤ b))) := by simp [binK, bin, isShift, intBin]
theorem i_gtr (k : IntKind) (a b : Int) : binK .plain .gtr (.int k a) (.int k b) = some (.bool (decide (b < a))) := by simp [binK, bin, isShift, intBin]
theorem i_geq (k : IntKind) (a b : Int) : binK .plain .geq (.int k a) (.int k b) = some (.bool (decide (b ≤ a))) := by simp [binK, bin, isShift, intBin]
theorem i_shl (k k' : IntKind) (a b : Int) : binK .plain .shl (.int k a) (.int k' b) = if b < 0 then none else some (.int k (k.wrap (a * 2 ^ (min b.toNat k.bits)))) := by simp [binK, bin, isShift, shiftBin]
theorem i_shr (k k' : IntKind) (a b : Int) : binK .plain .shr (.int k a) (.int k' b) = if b < 0 then none else some (.int k (a.fdiv (2 ^ (min b.toNat k.bits)))) := by simp [binK, bin, isShift, shiftBin]
theorem s_eql (a b : ByteArray) : binK .plain .eql (.string a) (.string b) = some (.bool (a.toList == b.toList)) := rfl
theorem s_neq (a b : ByteArray) : binK .plain .neq (.string a) (.string b) = some (.bool !(a.toList == b.toList)) := rfl
theorem len_str (s : ByteArray) : lenV true (.string s) = some (.int .i64 s.size) := rfl
theorem len_sl (a : Option Addr) (n c : Nat) : lenV false (.slice a n c) = some (.int .i64 n) := rfl
theorem idx_str {s : ByteArray} {k : IntKind} {j : Int} (h0 : 0 ≤ j) (h1 : j < s.size) : idxS (.string s) (.int k j) = some (.int .u8 (s.data.toList.getD j.toNat 0).toNat) := by simp [idxS, h0, h1]
theorem thenK_normal {α : Type} {t : Tm} {H : Hp} {n : Nat} (x y : Option α) : thenK ⟨.normal, t, H, n⟩ x y = x := rfl
theorem thenK_ret {α : Type} {t : Tm} {H : Hp} {n : Nat} (x y : Option α) : thenK ⟨.ret, t, H, n⟩ x y = y := rfl
theorem thenK_exit {α : Type} {j : Nat} {t : Tm} {H : Hp} {n : Nat} (x y : Option α) : thenK ⟨.exit j, t, H, n⟩ x y = y := rfl
theorem outOf_exit (j : Nat) (t : Tm) (H : Hp) (n : Nat) : outOf j ⟨.exit j, t, H, n⟩ = ⟨.normal, t, H, n⟩ := by simp [outOf]
theorem outOf_ret (j : Nat) (t : Tm) (H : Hp) (n : Nat) : outOf j ⟨.ret, t, H, n⟩ = ⟨.ret, t, H, n⟩ := rfl
theorem notTup_i (k : IntKind) (x : Int) : notTup (.int k x) = true := rfl
theorem notTup_b (x : Bool) : notTup (.bool x) = true := rfl
theorem notTup_s (x : ByteArray) : notTup (.string x) = true := rfl
theorem notTup_l (p : Option Addr) (n c : Nat) : notTup (.slice p n c) = true := rfl
theorem notTup_a (x : Array Value) : notTup (.agg x) = true := rfl
theorem notTup_p (p : Option Addr) : notTup (.pointer p) = true := rfl
theorem argsT_at (l : List Value) (i : Nat) : argsT l i = l.getD i (.tuple #[]) := rfl

theorem w64 {n : Int} (h : -9223372036854775808 ≤ n ∧ n ≤ 9223372036854775807) : IntKind.i64.wrap n = n := IntWalk.i64_in n h

end Go.Proofs.Ytdnokdgkccnbnaa.Ax
