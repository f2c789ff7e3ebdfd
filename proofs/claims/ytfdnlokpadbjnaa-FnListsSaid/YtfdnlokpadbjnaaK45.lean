/- Pure laws of lists that are made. -/
import Derived.Test.YtfdnlokpadbjnaaK11
import Derived.Test.YtfdnlokpadbjnaaK17
set_option linter.unusedVariables false
set_option linter.unusedSimpArgs false
set_option maxHeartbeats 4000000
namespace Go.Proofs.Ytfdnlokpadbjnaa.Ax
open Go
theorem lPairs_get : ∀ (b : Int) (r : List Int) (i : Nat) (h : i < r.length), gi (lPairs b r) (i : Int) = ndPair r[i] (b + i)
  | b, a :: r, 0, h => by show ndPair a b = ndPair a (b + 0); rw [Int.add_zero]
  | b, a :: r, i + 1, h => by
    have hi : i < r.length := by simpa using h
    have := lPairs_get (b + 1) r i hi
    have e : gi (lPairs b (a :: r)) ((i + 1 : Nat) : Int) = gi (lPairs (b + 1) r) (i : Int) := rfl
    rw [e, this]
    show ndPair r[i] (b + 1 + i) = ndPair r[i] (b + ((i + 1 : Nat) : Int))
    congr 1; omega
theorem gi_appR {α : Type} [Inhabited α] (l m : List α) (i : Nat) : gi (l ++ m) ((l.length + i : Nat) : Int) = gi m (i : Int) := by
  unfold gi
  rw [List.getD_eq_getElem?_getD, List.getD_eq_getElem?_getD, Int.toNat_natCast, Int.toNat_natCast, List.getElem?_append_right (by omega)]
  congr 2; omega
theorem made_nil (l : List Nd) (xs : List Int) : gi (l ++ lNodes l.length xs) (l.length : Int) = ndNil := by
  have := gi_appR l (lNodes l.length xs) 0
  rw [Nat.add_zero] at this
  rw [this]; rfl
theorem made_pair (l : List Nd) (xs : List Int) (i : Nat) (h : i < xs.reverse.length) : gi (l ++ lNodes l.length xs) ((l.length + (i + 1) : Nat) : Int) = ndPair xs.reverse[i] ((l.length : Int) + i) := by
  rw [gi_appR]
  have e : gi (lNodes l.length xs) ((i + 1 : Nat) : Int) = gi (lPairs l.length xs.reverse) (i : Int) := rfl
  rw [e, lPairs_get _ _ _ h]
theorem made_chain {l : List Nd} {xs : List Int} (hp : PoolOk (l ++ lNodes l.length xs)) : ∀ m : Nat, m ≤ xs.reverse.length → chainOf (l ++ lNodes l.length xs) ((l.length + m : Nat) : Int) = ((xs.reverse.take m).reverse, true)
  | 0, _ => by
    have hl : ((l ++ lNodes l.length xs).length : Int) = l.length + (xs.length + 1) := by rw [List.length_append, lNodes_len]; simp
    rw [Nat.add_zero, chainOf_eq hp (by omega) (by omega), made_nil]
    rfl
  | m + 1, h => by
    have hl : ((l ++ lNodes l.length xs).length : Int) = l.length + (xs.length + 1) := by rw [List.length_append, lNodes_len]; simp
    have hr : xs.reverse.length = xs.length := List.length_reverse
    rw [chainOf_eq hp (by omega) (by omega), made_pair l xs m (by omega)]
    have ih := made_chain hp m (by omega)
    rw [if_pos rfl]
    show (xs.reverse[m] :: (chainOf (l ++ lNodes l.length xs) ((l.length : Int) + m)).1, (chainOf (l ++ lNodes l.length xs) ((l.length : Int) + m)).2) = _
    rw [show ((l.length : Int) + m) = ((l.length + m : Nat) : Int) by omega, ih, take_next (by omega : m < xs.reverse.length), List.reverse_append]
    rfl
theorem made_list {l : List Nd} {xs : List Int} (hp : PoolOk (l ++ lNodes l.length xs)) : listAns (l ++ lNodes l.length xs) ((l.length : Int) + xs.length) = (xs, true) := by
  have hl : ((l ++ lNodes l.length xs).length : Int) = l.length + (xs.length + 1) := by rw [List.length_append, lNodes_len]; simp
  have hc := made_chain hp xs.length (by simp)
  rw [show ((l.length + xs.length : Nat) : Int) = (l.length : Int) + xs.length by omega] at hc
  unfold listAns
  rw [if_pos ⟨hp, by omega, by omega⟩]
  unfold listOf
  rw [hc, if_pos rfl]
  congr 1
  rw [List.take_of_length_le (by simp), List.reverse_reverse]
end Go.Proofs.Ytfdnlokpadbjnaa.Ax
