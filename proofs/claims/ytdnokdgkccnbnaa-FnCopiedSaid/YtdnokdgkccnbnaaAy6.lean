/- Bundles of laws for going through bodies; calls by their contracts; what stays, told element by element. -/
import Derived.Test.YtdnokdgkccnbnaaAy5
set_option linter.unusedVariables false
set_option linter.unusedSimpArgs false
namespace Go.Proofs.Ytdnokdgkccnbnaa.Ax
open Go
theorem finE_normal {α : Type} (x : Option α) : finE .normal x = x := rfl
theorem finE_ret {α : Type} (x : Option α) : finE .ret x = x := rfl
theorem finE_exit {α : Type} (j : Nat) (x : Option α) : finE (.exit j) x = none := rfl
theorem iteK_true {α : Type} (x : Option α) : iteK true x = x := rfl
theorem bld_eq (z : List Value) (ps : List (Nat × Nat × Value)) : bld z ps = (fill z ps).bind fun cs => some (.agg ⟨cs⟩) := rfl
theorem fill_nil (cs : List Value) : fill cs [] = some cs := rfl
theorem fill_cons (cs : List Value) (off sz : Nat) (v : Value) (r : List (Nat × Nat × Value)) : fill cs ((off, sz, v) :: r) = (vcells v).bind fun vs => if vs.length = sz ∧ off + sz ≤ cs.length then fill (setAt cs off vs) r else none := rfl
theorem setAt_eq (cs : List Value) (o : Nat) (vs : List Value) : setAt cs o vs = cs.take o ++ vs ++ cs.drop (o + vs.length) := rfl
theorem vcells_p (p : Option Addr) : vcells (.pointer p) = some [.pointer p] := rfl
theorem X0 : type_of% (And.intro @csel_bool (And.intro @gsel_true (And.intro @gsel_false (And.intro @gsel_undef (And.intro @thenK_normal (And.intro @thenK_ret @thenK_exit)))))) := (And.intro @csel_bool (And.intro @gsel_true (And.intro @gsel_false (And.intro @gsel_undef (And.intro @thenK_normal (And.intro @thenK_ret @thenK_exit))))))
theorem X1 : type_of% (And.intro @argsT_at (And.intro @List.getD_cons_zero.{0} (And.intro @List.getD_cons_succ.{0} (And.intro @Option.bind_some.{0,0} (And.intro @Option.bind_none.{0,0} (And.intro @put_at (And.intro @pickV_true (And.intro @pickV_false (And.intro @un_not (And.intro @un_neg (And.intro @b_eql (And.intro @b_neq (And.intro @i_add (And.intro @i_sub (And.intro @i_mul (And.intro @i_quo (And.intro @i_rem (And.intro @i_eql (And.intro @i_neq (And.intro @i_lss (And.intro @i_leq (And.intro @i_gtr (And.intro @i_geq (And.intro @t_eql (And.intro @t_neq (And.intro @len_str (And.intro @len_sl (And.intro @outOf_exit (And.intro @outOf_ret (And.intro @finE_normal (And.intro @finE_ret (And.intro @finE_exit (And.intro @decide_eq_true_eq (And.intro @Bool.false_eq_true (And.intro @Bool.not_true (And.intro @Bool.not_false (And.intro @decide_true (And.intro @decide_false (And.intro @if_true.{1} (And.intro @if_false.{1} (And.intro @ne_eq.{1} (And.intro @not_true_eq_false (And.intro @not_false_eq_true (And.intro @conv_i (And.intro @conv_ss (And.intro @partV_c (And.intro @partV_a (And.intro @ext_tup (And.intro @nilchk_ptr (And.intro @fieldA_ptr (And.intro @iteK_true (And.intro @List.all_cons.{0} (And.intro @List.all_nil.{0} (And.intro @notTup_i (And.intro @notTup_b (And.intro @notTup_s (And.intro @notTup_l (And.intro @notTup_a (And.intro @notTup_p (And.intro @Bool.and_self (And.intro @List.getElem?_cons_zero.{0} (And.intro @List.getElem?_cons_succ.{0} (And.intro @Bool.not_eq_true (And.intro @Bool.not_eq_false (And.intro @decide_eq_false_iff_not (And.intro @Nat.zero_add @Nat.add_zero)))))))))))))))))))))))))))))))))))))))))))))))))))))))))))))))))) := (And.intro @argsT_at (And.intro @List.getD_cons_zero.{0} (And.intro @List.getD_cons_succ.{0} (And.intro @Option.bind_some.{0,0} (And.intro @Option.bind_none.{0,0} (And.intro @put_at (And.intro @pickV_true (And.intro @pickV_false (And.intro @un_not (And.intro @un_neg (And.intro @b_eql (And.intro @b_neq (And.intro @i_add (And.intro @i_sub (And.intro @i_mul (And.intro @i_quo (And.intro @i_rem (And.intro @i_eql (And.intro @i_neq (And.intro @i_lss (And.intro @i_leq (And.intro @i_gtr (And.intro @i_geq (And.intro @t_eql (And.intro @t_neq (And.intro @len_str (And.intro @len_sl (And.intro @outOf_exit (And.intro @outOf_ret (And.intro @finE_normal (And.intro @finE_ret (And.intro @finE_exit (And.intro @decide_eq_true_eq (And.intro @Bool.false_eq_true (And.intro @Bool.not_true (And.intro @Bool.not_false (And.intro @decide_true (And.intro @decide_false (And.intro @if_true.{1} (And.intro @if_false.{1} (And.intro @ne_eq.{1} (And.intro @not_true_eq_false (And.intro @not_false_eq_true (And.intro @conv_i (And.intro @conv_ss (And.intro @partV_c (And.intro @partV_a (And.intro @ext_tup (And.intro @nilchk_ptr (And.intro @fieldA_ptr (And.intro @iteK_true (And.intro @List.all_cons.{0} (And.intro @List.all_nil.{0} (And.intro @notTup_i (And.intro @notTup_b (And.intro @notTup_s (And.intro @notTup_l (And.intro @notTup_a (And.intro @notTup_p (And.intro @Bool.and_self (And.intro @List.getElem?_cons_zero.{0} (And.intro @List.getElem?_cons_succ.{0} (And.intro @Bool.not_eq_true (And.intro @Bool.not_eq_false (And.intro @decide_eq_false_iff_not (And.intro @Nat.zero_add @Nat.add_zero))))))))))))))))))))))))))))))))))))))))))))))))))))))))))))))))))
theorem X2 : type_of% (And.intro @Hp_set_set (And.intro @and_self (And.intro @and_true (And.intro @true_and (And.intro @bld_eq (And.intro @fill_nil (And.intro @fill_cons (And.intro @vcells_i (And.intro @vcells_s (And.intro @vcells_b (And.intro @vcells_l (And.intro @vcells_p (And.intro @node_eql (And.intro @vcells_agg (And.intro @ld_r (And.intro @ldA_r (And.intro @stv_r (And.intro @rowGet_row (And.intro @rowAgg_row (And.intro @rowSt_row (And.intro @st_i (And.intro @st_s (And.intro @st_b (And.intro @st_l (And.intro @st_p (And.intro @st_agg (And.intro @setAt_eq (And.intro @List.take_succ_cons.{0} (And.intro @List.take_zero.{0} (And.intro @List.cons_append.{0} (And.intro @List.nil_append.{0} (And.intro @List.drop_succ_cons.{0} (And.intro @List.drop_zero.{0} (And.intro @List.length_cons.{0} (And.intro @List.length_nil.{0} (And.intro @Nat.add_eq_left (And.intro @Nat.left_eq_add @Hp_same))))))))))))))))))))))))))))))))))))) := (And.intro @Hp_set_set (And.intro @and_self (And.intro @and_true (And.intro @true_and (And.intro @bld_eq (And.intro @fill_nil (And.intro @fill_cons (And.intro @vcells_i (And.intro @vcells_s (And.intro @vcells_b (And.intro @vcells_l (And.intro @vcells_p (And.intro @node_eql (And.intro @vcells_agg (And.intro @ld_r (And.intro @ldA_r (And.intro @stv_r (And.intro @rowGet_row (And.intro @rowAgg_row (And.intro @rowSt_row (And.intro @st_i (And.intro @st_s (And.intro @st_b (And.intro @st_l (And.intro @st_p (And.intro @st_agg (And.intro @setAt_eq (And.intro @List.take_succ_cons.{0} (And.intro @List.take_zero.{0} (And.intro @List.cons_append.{0} (And.intro @List.nil_append.{0} (And.intro @List.drop_succ_cons.{0} (And.intro @List.drop_zero.{0} (And.intro @List.length_cons.{0} (And.intro @List.length_nil.{0} (And.intro @Nat.add_eq_left (And.intro @Nat.left_eq_add @Hp_same)))))))))))))))))))))))))))))))))))))
theorem X3 : type_of% (And.intro @thenK_normal (And.intro @thenK_ret (And.intro @thenK_exit (And.intro @outOf_exit (And.intro @outOf_ret (And.intro @finE_normal (And.intro @finE_ret @finE_exit))))))) := (And.intro @thenK_normal (And.intro @thenK_ret (And.intro @thenK_exit (And.intro @outOf_exit (And.intro @outOf_ret (And.intro @finE_normal (And.intro @finE_ret @finE_exit)))))))

/-! ### Steps of a body -/
theorem bT : Value.bool true = .bool true := rfl
theorem bF : Value.bool false = .bool false := rfl
abbrev sel {α : Type} (c : Bool) (A B : Option α) : Option α :=
  match c with
  | true => A
  | false => B
abbrev sel2 {α : Type} (c w : Bool) (A B : Option α) : Option α :=
  match w with
  | true => sel c A B
  | false => sel c B A
theorem Wp.cselX {α : Type} {v : Value} {c : Bool} {A B : Option α} {Q : α → Prop} (h : v = .bool c) (k : Wp (sel c A B) Q) : Wp (csel v A B) Q := by subst h; cases c <;> exact k
theorem Wp.assoc {α β γ : Type} {x : Option α} {f : α → Option β} {g : β → Option γ} {Q : γ → Prop} (k : Wp (x.bind fun a => (f a).bind g) Q) : Wp ((x.bind f).bind g) Q := by cases x <;> exact k
theorem Wp.gs {α β : Type} {v : Value} {c w : Bool} {A B : Option α} {f : α → Option β} {Q : β → Prop} (h : v = .bool c) (k : Wp ((sel2 c w A B).bind f) Q) : Wp ((gsel v w A B).bind f) Q := by
  subst h; cases c <;> cases w <;> exact k
theorem Wp.ikb {α β : Type} {b : Bool} {A : Option α} {f : α → Option β} {Q : β → Prop} (h : b = true) (k : Wp (A.bind f) Q) : Wp ((iteK b A).bind f) Q := by subst h; exact k
theorem Wp.askb {α β : Type} {p : Prop} {A : Option α} {f : α → Option β} {Q : β → Prop} (h : p) (k : Wp (A.bind f) Q) : Wp ((ask p A).bind f) Q := by rw [ask_same h]; exact k
theorem Wp.gu {α β : Type} {l : Array Value} {w : Bool} {A B : Option α} {f : α → Option β} {Q : β → Prop} (k : Wp (B.bind f) Q) : Wp ((gsel (.tuple l) w A B).bind f) Q := k
theorem Wp.cs {α β : Type} {v : Value} {c : Bool} {A B : Option α} {f : α → Option β} {Q : β → Prop} (h : v = .bool c) (k : Wp ((sel c A B).bind f) Q) : Wp ((csel v A B).bind f) Q := by
  subst h; cases c <;> exact k
theorem Wp.tk {α : Type} {t : Tm} {H : Hp} {n : Nat} {x y : Option α} {Q : α → Prop} (k : Wp x Q) : Wp (thenK ⟨.normal, t, H, n⟩ x y) Q := k

theorem asks_nil {α : Type} (m : Nat) (H : Hp) (k : Option α) : asks m H [] k = k := rfl
theorem asks_in {α : Type} {m i : Nat} (h : m.testBit i = true) (H : Hp) (ag : Bool) (sz : Nat) (a v : Value) (rs : List Rd) (k : Option α) : asks m H (⟨i, ag, sz, a, v⟩ :: rs) k = asks m H rs k := by rw [asks, if_pos h]
theorem asks_out {α : Type} {m i : Nat} (h : m.testBit i = false) (H : Hp) (ag : Bool) (sz : Nat) (a v : Value) (rs : List Rd) (k : Option α) : asks m H (⟨i, ag, sz, a, v⟩ :: rs) k = ask (ld ag sz a H = some v) (asks m H rs k) := by rw [asks, if_neg (by rw [h]; decide)]
theorem askB_nil {α : Type} (m : Nat) (ag : Bool) (sz : Nat) (a v : Value) (k : Option α) : askB m ag sz a v [] k = k := rfl
theorem askB_in {α : Type} {m i : Nat} (h : m.testBit i = true) (H : Hp) (ag : Bool) (sz : Nat) (a v : Value) (hs : List (Nat × Hp)) (k : Option α) : askB m ag sz a v ((i, H) :: hs) k = askB m ag sz a v hs k := by rw [askB, if_pos h]
theorem askB_out {α : Type} {m i : Nat} (h : m.testBit i = false) (H : Hp) (ag : Bool) (sz : Nat) (a v : Value) (hs : List (Nat × Hp)) (k : Option α) : askB m ag sz a v ((i, H) :: hs) k = ask (ld ag sz a H = some v) (askB m ag sz a v hs k) := by rw [askB, if_neg (by rw [h]; decide)]

/-! ### Calls by their contracts -/
section
variable {P : Program} {f : Nat} {args : List Value} {H : Hp} {n : Nat} {β : Type} {g : Value × Hp × Nat → Option β} {Q : β → Prop}
theorem Wp.rt {v : Value} (h : Rt P f args H n v) (k : ∀ H' n', n ≤ n' → (∀ i, i < n → H' i = H i) → Wp (g (v, H', n')) Q) : Wp ((Call P f args H n).bind g) Q := by
  obtain ⟨H', n', h1, h2, h3⟩ := h
  rw [h3]; exact k H' n' h1 h2
theorem Wp.rtn {R : Value → Hp → Nat → Prop} (h : RtN P f args H n R) (k : ∀ v H' n', n ≤ n' → (∀ i, i < n → H' i = H i) → R v H' n' → Wp (g (v, H', n')) Q) : Wp ((Call P f args H n).bind g) Q := by
  obtain ⟨v, H', n', h1, h2, h3, h4⟩ := h
  rw [h3]; exact k v H' n' h1 h2 h4
theorem Wp.rtd {c : Nat} {R : Value → Hp → Nat → Prop} (h : RtD P f args c H n R) (k : ∀ v H' n', n ≤ n' → (∀ i, i < n → i ≠ c → H' i = H i) → Cu c n' H' → R v H' n' → Wp (g (v, H', n')) Q) : Wp ((Call P f args H n).bind g) Q := by
  obtain ⟨v, H', n', h1, h2, h3, h4, h5⟩ := h
  rw [h4]; exact k v H' n' h1 (fun i hi hc => h2 i hi (by simpa using hc)) h3 h5
theorem Wp.cargs {args' : List Value} (h : args = args') (k : Wp ((Call P f args' H n).bind g) Q) : Wp ((Call P f args H n).bind g) Q := by subst h; exact k
/-- A call that leaves the memory as it was. -/
theorem Wp.rp {v : Value} (h : ∃ n', n ≤ n' ∧ Call P f args H n = some (v, H, n')) (k : ∀ n', n ≤ n' → Wp (g (v, H, n')) Q) : Wp ((Call P f args H n).bind g) Q := by
  obtain ⟨n', h1, h2⟩ := h
  rw [h2]; exact k n' h1
end
/-- A call that writes one object. -/
abbrev RtM (P : Program) (f : Nat) (args : List Value) (id : Nat) (H : Hp) (n : Nat) (v : Value) (R : Hp → Nat → Prop) : Prop := ∃ H' n', n ≤ n' ∧ (∀ i, i < n → i ≠ id → H' i = H i) ∧ Call P f args H n = some (v, H', n') ∧ R H' n'
theorem Wp.rtm {P : Program} {f : Nat} {args : List Value} {H : Hp} {n id : Nat} {β : Type} {g : Value × Hp × Nat → Option β} {Q : β → Prop} {v : Value} {R : Hp → Nat → Prop} (h : RtM P f args id H n v R) (k : ∀ H' n', n ≤ n' → (∀ i, i < n → i ≠ id → H' i = H i) → R H' n' → Wp (g (v, H', n')) Q) : Wp ((Call P f args H n).bind g) Q := by
  obtain ⟨H', n', h1, h2, h3, h4⟩ := h
  rw [h3]; exact k H' n' h1 h2 h4
theorem RtM.of {P : Program} {f : Nat} {args : List Value} {id : Nat} {H : Hp} {n : Nat} {v : Value} {R : Hp → Nat → Prop} (h : Wp (Call P f args H n) fun q => n ≤ q.2.2 ∧ (∀ i, i < n → i ≠ id → q.2.1 i = H i) ∧ q.1 = v ∧ R q.2.1 q.2.2) : RtM P f args id H n v R := by
  obtain ⟨⟨v', H', n'⟩, h1, h2, h3, h4, h5⟩ := h
  exact ⟨H', n', h2, h3, by rw [h1, ← h4], h5⟩
theorem Rt.ex {P : Program} {f : Nat} {args : List Value} {H : Hp} {n : Nat} {v : Value} (h : ∃ n', n ≤ n' ∧ Call P f args H n = some (v, H, n')) : Rt P f args H n v := by
  obtain ⟨n', h1, h2⟩ := h
  exact ⟨H, n', h1, Same.refl _ _, h2⟩

/-! ### What stays -/
theorem Li.mv {α : Type} {E : Enc α} {n m : Nat} {H H' : Hp} {v : Value} {l : List α} (h : Li E n H v l) (hm : n ≤ m) (hs : ∀ i, i < n → H' i = H i) : Li E m H' v l := (h.keep (H' := H') hs (Nat.le_refl _)).up hm
theorem New.mv {α : Type} {E : Enc α} {lo n m : Nat} {H H' : Hp} {v : Value} {l : List α} (h : New E lo n H v l) (hm : n ≤ m) (hs : ∀ i, i < n → H' i = H i) : New E lo m H' v l := (h.keep (m := n) hs (Nat.le_refl _)).up (Nat.le_refl _) hm
theorem At.mv {α : Type} {E : Enc α} {id : Nat} {H H' : Hp} {v : Value} {l : List α} (h : At E id H v l) (hs : H' id = H id) : At E id H' v l := h.keep hs
/-! ### Lists told by what stands at each place -/
def fam {α : Type} (f : Nat → α) (m : Nat) : List α := (List.range m).map f
theorem fam_len {α : Type} (f : Nat → α) (m : Nat) : (fam f m).length = m := by simp [fam]
theorem fam_succ {α : Type} (f : Nat → α) (m : Nat) : fam f (m + 1) = fam f m ++ [f m] := by simp [fam, List.range_succ]
theorem fam_gi {α : Type} [Inhabited α] (f : Nat → α) {m j : Nat} (h : j < m) : gi (fam f m) (j : Int) = f j := by
  rw [gi_nat (by rw [fam_len]; exact h)]; simp [fam]
theorem fam_set {α : Type} (f : Nat → α) {l : List α} {j : Nat} (h : j < l.length) : (fam f j ++ l.drop j).set j (f j) = fam f (j + 1) ++ l.drop (j + 1) := by
  rw [fam_succ, List.drop_eq_getElem_cons h, List.set_append_right _ _ (by rw [fam_len]; omega), fam_len, Nat.sub_self, List.set_cons_zero, List.append_assoc]; rfl
theorem fam_drop_len {α : Type} (f : Nat → α) {l : List α} {j : Nat} (h : j ≤ l.length) : (fam f j ++ l.drop j).length = l.length := by
  rw [List.length_append, fam_len, List.length_drop]; omega
theorem fam_drop_at {α : Type} (f : Nat → α) {l : List α} {j : Nat} (h : j < l.length) (h' : j < (fam f j ++ l.drop j).length) : (fam f j ++ l.drop j)[j] = l[j] := by
  rw [List.getElem_append_right (by rw [fam_len]; omega)]
  simp [fam_len]
theorem s_add {a b : ByteArray} (h : a.size + b.size ≤ 9223372036854775807) : binK .plain .add (.string a) (.string b) = some (.string (a ++ b)) := by
  show strBin .add a b = _
  unfold strBin
  rw [if_pos (by omega)]
theorem ba_app (a b : ByteArray) : (a ++ b).size = a.size + b.size := ByteArray.size_append
end Go.Proofs.Ytdnokdgkccnbnaa.Ax
