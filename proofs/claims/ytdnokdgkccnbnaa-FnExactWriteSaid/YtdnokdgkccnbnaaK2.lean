/- Contracts: numbers and texts as bytes. -/
import Derived.Test.YtdnokdgkccnbnaaK1
set_option linter.unusedVariables false
set_option linter.unusedSimpArgs false
namespace Go.Proofs.Ytdnokdgkccnbnaa.Ax
open Go
/-- The bytes of a number. -/
def putBytes (x : Nat) : List Int := if h : 127 < x then ((x % 128 + 128 : Nat) : Int) :: putBytes (x / 128) else [(x : Int)]
termination_by x
decreasing_by omega
theorem putBytes_big {x : Nat} (h : 127 < x) : putBytes x = ((x % 128 + 128 : Nat) : Int) :: putBytes (x / 128) := by rw [putBytes, dif_pos h]
theorem putBytes_small {x : Nat} (h : ¬ 127 < x) : putBytes x = [(x : Int)] := by rw [putBytes, dif_neg h]
/-- One byte is put behind a row of ours. -/
theorem app_byte {H : Hp} {id0 id1 id2 : Nat} {acc : List Int} {b : Int} (h : H id0 = some (.row (bytesV acc) 1 true)) (h01 : id0 ≠ id1) (hl : acc.length ≤ 1000000000) :
    app id2 1 1 (sl id0 0 acc.length) (sl id1 0 1) (H.set id1 (some (.row [.int .u8 b] 1 true))) =
      some (sl id2 0 (acc.length + 1), ((H.set id1 (some (.row [.int .u8 b] 1 true))).set id0 none).set id2 (some (.row (bytesV (acc ++ [b])) 1 true))) := by
  have hb : 2 * (acc.length + 1) + 1024 ≤ 281474976710656 := by omega
  simp [app, src, Hp.set, h, h01, bytesV, List.take_of_length_le]
  omega
theorem conv_int (k k' : IntKind) (id : Nat) (n : Int) (H : Hp) : conv (.toInt k) id (.int k' n) H = some (.int k (k.wrap n), H) := rfl
theorem bsl_byte (id : Nat) (z : Value) (k : IntKind) (b : Int) (H : Hp) : bsl id 1 1 [z] [(0, 1, .int k b)] H = some (sl id 0 1, H.set id (some (.row [.int k b] 1 true))) := by simp [bsl, fill, vcells, setAt]

/-- A row of bytes that is made between two numbers, or none. -/
def Mine (n n' : Nat) (H : Hp) (v : Value) (l : List Int) : Prop := (v = nilS ∧ l = []) ∨ ∃ id, n ≤ id ∧ id < n' ∧ v = sl id 0 l.length ∧ H id = some (.row (bytesV l) 1 true)
theorem Mine.view {n n' : Nat} {H : Hp} {v : Value} {l : List Int} (h : Mine n n' H v l) : View H 1 v (bytesV l) l.length := by
  rcases h with ⟨rfl, rfl⟩ | ⟨id, _, _, rfl, h⟩
  · exact View.nil
  · exact View.new h (by simp)
theorem Mine.keep {n n' m : Nat} {H H' : Hp} {v : Value} {l : List Int} (h : Mine n n' H v l) (hs : Same m H H') (hm : n' ≤ m) : Mine n n' H' v l := by
  rcases h with h | ⟨id, h1, h2, h3, h4⟩
  · exact .inl h
  · exact .inr ⟨id, h1, h2, h3, by rw [hs id (by omega)]; exact h4⟩
theorem putBytes_len : ∀ (d x : Nat), x < 128 ^ (d + 1) → (putBytes x).length ≤ d + 1
  | 0, x, h => by rw [putBytes_small (by simp at h; omega)]; simp
  | d + 1, x, h => by
    by_cases hb : 127 < x
    · rw [putBytes_big hb, List.length_cons]
      have := putBytes_len d (x / 128) (by rw [Nat.div_lt_iff_lt_mul (by decide)]; rw [Nat.pow_succ] at h; exact h)
      omega
    · rw [putBytes_small hb]; simp
def putNum (x : Int) : List Int := if x < 0 then [] else putBytes x.toNat
theorem putNum_len (x : Int) (h : x ≤ 9223372036854775807) : (putNum x).length ≤ 9 := by
  unfold putNum
  split
  · simp
  · exact putBytes_len 8 _ (by have : (128 : Nat) ^ (8 + 1) = 9223372036854775808 := by decide
                               omega)
/-- What markByteS writes. -/
def marks (m : Int) : Nat → List Int
  | 0 => []
  | n + 1 => IntKind.u8.wrap m :: marks (m + 1) n
theorem marks_len (m : Int) : ∀ n, (marks m n).length = n
  | 0 => rfl
  | n + 1 => by simp [marks, marks_len]
theorem st_cell {H : Hp} {i p : Nat} {cs : List Value} {e : Nat} {k : IntKind} {b : Int} (h : H i = some (.row cs e true)) (hp : p < cs.length) : st false 1 (ptr i p) (.int k b) H = some (H.set i (some (.row (setAt cs p [.int k b]) e true))) := by
  simp [st, stv, h]; omega
theorem setAt_mid {α : Type} (pre rest : List Value) (x y : Value) (_ : α) : setAt (pre ++ x :: rest) pre.length [y] = pre ++ y :: rest := by
  unfold setAt
  rw [List.take_left' rfl, show pre ++ x :: rest = (pre ++ [x]) ++ rest by simp, List.drop_left' (by simp)]
  simp
theorem app_row {H : Hp} {id0 id2 : Nat} {acc b : List Int} {x : Value} (h : H id0 = some (.row (bytesV acc) 1 true)) (hx : src 1 x H = some (bytesV b, b.length)) (hl : acc.length + b.length ≤ 1000000000) :
    app id2 1 1 (sl id0 0 acc.length) x H = some (sl id2 0 (acc.length + b.length), (H.set id0 none).set id2 (some (.row (bytesV (acc ++ b)) 1 true))) := by
  have hb : 2 * (acc.length + b.length) + 1024 ≤ 281474976710656 := by omega
  simp [app, hx, h, bytesV, List.take_of_length_le]
  omega
def putText (s : ByteArray) : List Int := putNum s.size ++ numsOf s
theorem bytesOf_nums (s : ByteArray) : bytesOf s = bytesV (numsOf s) := by simp [bytesOf, numsOf, bytesV]
theorem src_str (s : ByteArray) (H : Hp) : src 1 (.string s) H = some (bytesV (numsOf s), (numsOf s).length) := by
  simp [src, numsOf, bytesV]
theorem src_row {H : Hp} {id : Nat} {l : List Int} (h : H id = some (.row (bytesV l) 1 true)) : src 1 (sl id 0 l.length) H = some (bytesV l, l.length) := by
  simp [src, h, bytesV, List.take_of_length_le]
theorem putNum_ne (n : Nat) : putNum n ≠ [] := by
  unfold putNum
  rw [if_neg (by omega)]
  by_cases h : 127 < ((n : Int).toNat)
  · rw [putBytes_big h]; simp
  · rw [putBytes_small h]; simp
end Go.Proofs.Ytdnokdgkccnbnaa.Ax
