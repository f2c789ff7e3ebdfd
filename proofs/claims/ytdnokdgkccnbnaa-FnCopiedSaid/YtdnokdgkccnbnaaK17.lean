/- Contracts: lists put behind a pool; MakeList. -/
import Derived.Test.YtdnokdgkccnbnaaK15
set_option linter.unusedVariables false
set_option linter.unusedSimpArgs false
namespace Go.Proofs.Ytdnokdgkccnbnaa.Ax
open Go
theorem Li.mv2 {α : Type} {E : Enc α} {n m c d : Nat} {H H' : Hp} {v : Value} {l : List α} (h : Li E n H v l) (hc : Off c v) (hd : Off d v) (hm : n ≤ m) (hs : ∀ i, i < n → i ≠ c → i ≠ d → H' i = H i) : Li E m H' v l := (h.keep' fun i o a k e => hs i (h.2 i o a k e) (hc i o a k e) (hd i o a k e)).up hm
abbrev ndPair (a b : Int) : Nd := ⟨5, 0, ⟨#[]⟩, a, b⟩
abbrev ndNil : Nd := ⟨1, 0, ⟨#[]⟩, 0, 0⟩
/-- The pairs of a list, the last one first, from number 'b' on. -/
def lPairs (b : Int) : List Int → List Nd
  | [] => []
  | a :: r => ndPair a b :: lPairs (b + 1) r
def lNodes (b : Int) (xs : List Int) : List Nd := ndNil :: lPairs b xs.reverse
theorem lPairs_len : ∀ (b : Int) (r : List Int), (lPairs b r).length = r.length
  | b, [] => rfl
  | b, a :: r => by simp [lPairs, lPairs_len (b + 1) r]
theorem lPairs_snoc : ∀ (b : Int) (r : List Int) (a : Int), lPairs b (r ++ [a]) = lPairs b r ++ [ndPair a (b + r.length)]
  | b, [], a => by simp [lPairs]
  | b, x :: r, a => by
    rw [List.cons_append, lPairs, lPairs_snoc (b + 1) r a, lPairs, List.cons_append, List.length_cons]
    congr 4; omega
theorem lNodes_len (b : Int) (xs : List Int) : (lNodes b xs).length = xs.length + 1 := by simp [lNodes, lPairs_len]
theorem lRev_next {xs : List Int} {k : Nat} (h : k < xs.length) : xs.reverse.take (k + 1) = xs.reverse.take k ++ [gi xs ((xs.length : Int) - 1 - k)] := by
  rw [take_next (by simpa using h)]
  congr 2
  rw [List.getElem_reverse, gi_at (by omega) (by omega)]
  congr 1; omega
/-! ### Is there one among numbers -/
theorem calleeP_fn (k : Nat) (cap args : List Value) : calleeP (.func (.func k) #[] ⟨cap⟩) args = some (k, args ++ cap) := rfl
/-! ### MakeList -/
theorem lPairs_ok : ∀ (r : List Int) (b : Int) (i : Nat), (∀ a ∈ r, 0 ≤ a ∧ a < i) → 0 ≤ b → b + 1 = i → NodesOk (lPairs b r) i
  | [], _, _, _, _, _ => trivial
  | a :: r, b, i, ha, hb, hi => by
    refine ⟨?_, lPairs_ok r (b + 1) (i + 1) (fun x hx => by have := ha x (List.mem_cons_of_mem _ hx); omega) (by omega) (by omega)⟩
    have := ha a List.mem_cons_self
    show NodeOk ⟨5, 0, ⟨#[]⟩, a, b⟩ i
    unfold NodeOk
    exact .inr (.inr (.inr (.inr (.inl ⟨rfl, rfl, rfl, ⟨this.1, by simp only; omega⟩, ⟨hb, by simp only; omega⟩⟩))))
theorem lNodes_ok {l : List Nd} {xs : List Int} (hp : NodesOk l 0) (hx : ∀ v ∈ xs, 0 ≤ v ∧ v < l.length) : NodesOk (l ++ lNodes l.length xs) 0 := by
  rw [NodesOk_app]
  refine ⟨hp, ?_, ?_⟩
  · show NodeOk ⟨1, 0, ⟨#[]⟩, 0, 0⟩ _
    unfold NodeOk; exact .inl ⟨rfl, rfl, rfl, rfl, rfl⟩
  · exact lPairs_ok _ _ _ (fun a ha => by have := hx a (by simpa using ha); omega) (by omega) (by omega)
theorem lPairs_s : ∀ (r : List Int) (b : Int), ∀ x ∈ lPairs b r, x.s = ⟨#[]⟩
  | [], _, x, h => by cases h
  | a :: r, b, x, h => by
    rcases List.mem_cons.1 h with rfl | h
    · rfl
    · exact lPairs_s r (b + 1) x h
theorem lNodes_s {b : Int} {xs : List Int} {x : Nd} (h : x ∈ lNodes b xs) : x.s = ⟨#[]⟩ := by
  rcases List.mem_cons.1 h with rfl | h
  · rfl
  · exact lPairs_s _ _ x h
def makeListAns (l : List Nd) (xs : List Int) : List Nd × Int := if PoolOk l then (if (∀ v ∈ xs, 0 ≤ v ∧ v < (l.length : Int)) ∧ l.length + 1 + xs.length ≤ 3000 then (l ++ lNodes l.length xs, (l.length : Int) + xs.length) else (l, -1)) else ([], -1)
theorem mla_no {l : List Nd} {xs : List Int} (h : ¬ PoolOk l) : makeListAns l xs = ([], -1) := by unfold makeListAns; rw [if_neg h]
theorem mla_bad {l : List Nd} {xs : List Int} (h : PoolOk l) (h2 : ¬ ((∀ v ∈ xs, 0 ≤ v ∧ v < (l.length : Int)) ∧ l.length + 1 + xs.length ≤ 3000)) : makeListAns l xs = (l, -1) := by unfold makeListAns; rw [if_pos h, if_neg h2]
theorem mla_ok {l : List Nd} {xs : List Int} (h : PoolOk l) (h2 : (∀ v ∈ xs, 0 ≤ v ∧ v < (l.length : Int)) ∧ l.length + 1 + xs.length ≤ 3000) : makeListAns l xs = (l ++ lNodes l.length xs, (l.length : Int) + xs.length) := by unfold makeListAns; rw [if_pos h, if_pos h2]
theorem makeListAns_len (l : List Nd) (xs : List Int) : (makeListAns l xs).1.length ≤ 3000 := by
  unfold makeListAns
  split
  · rename_i h
    split
    · rename_i h'
      simp only [List.length_append, lNodes_len]
      omega
    · exact h.2
  · simp
theorem app_s {l : List Nd} {b : Int} {xs : List Int} (hs : ∀ x ∈ l, x.s.size ≤ 1048576) : ∀ x ∈ l ++ lNodes b xs, x.s.size ≤ 1048576 := fun x hx => by
  rcases List.mem_append.1 hx with h | h
  · exact hs x h
  · rw [lNodes_s h]; decide
end Go.Proofs.Ytdnokdgkccnbnaa.Ax
