/- How the abstract machine's memory stands for the model's: blocks have other numbers, and rows may have room behind. -/
import Derived.Test.YtdnokdgkccnbnaaAx3
import Derived.Deep.MidRow
set_option linter.unusedSimpArgs false
set_option linter.unusedVariables false
namespace Go.Proofs.Ytdnokdgkccnbnaa.Ax
open Go

/-! ### Two lists, place by place -/
inductive All2 {α β : Type} (R : α → β → Prop) : List α → List β → Prop
  | nil : All2 R [] []
  | cons {a : α} {b : β} {l : List α} {m : List β} : R a b → All2 R l m → All2 R (a :: l) (b :: m)

section
variable {α β : Type} {R S : α → β → Prop}
theorem All2.length {l : List α} {m : List β} (h : All2 R l m) : l.length = m.length := by
  induction h with
  | nil => rfl
  | cons _ _ ih => simp [ih]
theorem All2.mono (hRS : ∀ a b, R a b → S a b) {l : List α} {m : List β} (h : All2 R l m) : All2 S l m := by
  induction h with
  | nil => exact .nil
  | cons h _ ih => exact .cons (hRS _ _ h) ih
theorem All2.append {l l' : List α} {m m' : List β} (h : All2 R l m) (h' : All2 R l' m') : All2 R (l ++ l') (m ++ m') := by
  induction h with
  | nil => exact h'
  | cons h _ ih => exact .cons h ih
theorem All2.get {l : List α} {m : List β} (h : All2 R l m) : ∀ {i : Nat} {a : α}, l[i]? = some a → ∃ b, m[i]? = some b ∧ R a b := by
  induction h with
  | nil => intro i a hi; simp at hi
  | cons h _ ih =>
    intro i a hi
    cases i with
    | zero => simp only [List.getElem?_cons_zero, Option.some.injEq] at hi; subst hi; exact ⟨_, rfl, h⟩
    | succ i => simp only [List.getElem?_cons_succ] at hi ⊢; exact ih hi
theorem All2.drop {l : List α} {m : List β} (h : All2 R l m) : ∀ (n : Nat), All2 R (l.drop n) (m.drop n) := by
  induction h with
  | nil => intro n; simp; exact .nil
  | cons h h' ih =>
    intro n
    cases n with
    | zero => exact .cons h h'
    | succ n => exact ih n
theorem All2.take {l : List α} {m : List β} (h : All2 R l m) : ∀ (n : Nat), All2 R (l.take n) (m.take n) := by
  induction h with
  | nil => intro n; simp; exact .nil
  | cons h h' ih =>
    intro n
    cases n with
    | zero => exact .nil
    | succ n => exact .cons h (ih n)
theorem All2.one {a : α} {b : β} (h : R a b) : All2 R [a] [b] := .cons h .nil
theorem All2.cons_left {a : α} {l : List α} {m : List β} (h : All2 R (a :: l) m) : ∃ b m', m = b :: m' ∧ R a b ∧ All2 R l m' := by
  cases h with
  | cons h h' => exact ⟨_, _, rfl, h, h'⟩
theorem All2.map {γ : Type} {f : γ → α} {g : γ → β} {l : List γ} (h : ∀ x ∈ l, R (f x) (g x)) : All2 R (l.map f) (l.map g) := by
  induction l with
  | nil => exact .nil
  | cons x l ih => exact .cons (h x (List.mem_cons_self ..)) (ih fun y hy => h y (List.mem_cons_of_mem _ hy))
theorem All2.refl_of {R : α → α → Prop} {l : List α} (h : ∀ x ∈ l, R x x) : All2 R l l := by
  have := All2.map (R := R) (f := fun x => x) (g := fun x => x) (l := l) h
  simpa using this
theorem All2.flatten {R : α → β → Prop} {l : List (List α)} {m : List (List β)} (h : All2 (All2 R) l m) : All2 R l.flatten m.flatten := by
  induction h with
  | nil => exact .nil
  | cons h _ ih => exact h.append ih
theorem All2.mem_right {l : List α} {m : List β} (h : All2 R l m) {b : β} (hb : b ∈ m) : ∃ a, a ∈ l ∧ R a b := by
  induction h with
  | nil => simp at hb
  | cons h _ ih =>
    rcases List.mem_cons.1 hb with rfl | hb
    · exact ⟨_, List.mem_cons_self .., h⟩
    · obtain ⟨a, ha, hr⟩ := ih hb; exact ⟨a, List.mem_cons_of_mem _ ha, hr⟩
end

/-! ### Where the abstract blocks lie -/
structure GI where
  blk : Nat
  sh : Nat
  tot : Nat
  esz : Nat
  rw : Bool
abbrev Gh := Nat → Option GI
def Gh.set (G : Gh) (i : Nat) (g : GI) : Gh := fun j => if j = i then some g else G j
def GLe (G G' : Gh) : Prop := ∀ i g, G i = some g → G' i = some g
theorem GLe.refl (G : Gh) : GLe G G := fun _ _ h => h
theorem GLe.trans {G G' G'' : Gh} (h : GLe G G') (h' : GLe G' G'') : GLe G G'' := fun i g hg => h' i g (h i g hg)
theorem GLe.set {G : Gh} {i : Nat} (g : GI) (h : G i = none) : GLe G (G.set i g) := by
  intro j gj hj
  unfold Gh.set
  split
  · rename_i e; subst e; rw [h] at hj; cases hj
  · exact hj
theorem Gh.set_same (G : Gh) (i : Nat) (g : GI) : G.set i g i = some g := by simp [Gh.set]
theorem Gh.set_ne (G : Gh) {i j : Nat} (g : GI) (h : j ≠ i) : G.set i g j = G j := by simp [Gh.set, h]
theorem Hp.set_same (H : Hp) (i : Nat) (o : Option Obj) : H.set i o i = o := by simp [Hp.set]
theorem Hp.set_ne (H : Hp) {i j : Nat} (o : Option Obj) (h : j ≠ i) : H.set i o j = H j := by simp [Hp.set, h]

/-! ### Values -/
inductive SR (G : Gh) : Value → Value → Prop
  | bool (b : Bool) : SR G (.bool b) (.bool b)
  | int (k : IntKind) (n : Int) : SR G (.int k n) (.int k n)
  | str (s : ByteArray) : SR G (.string s) (.string s)
  | nilp : SR G (.pointer none) (.pointer none)
  | ptr {i o : Nat} {g : GI} : G i = some g → SR G (.pointer (some ⟨i, o, none⟩)) (.pointer (some ⟨g.blk, g.sh + o, none⟩))
  | nils : SR G (.slice none 0 0) (.slice none 0 0)
  | sl {i o n c c' : Nat} {g : GI} : G i = some g → n ≤ c' → (g.rw = true → o = 0 → c' * g.esz ≤ g.tot) → SR G (.slice (some ⟨i, o, none⟩) n c) (.slice (some ⟨g.blk, g.sh + o, none⟩) n c')
  | emp {i o q c c' : Nat} {a' : Addr} : SR G (.slice (some ⟨i, o, some q⟩) 0 c) (.slice (some a') 0 c')
  | map {i : Nat} {g : GI} : G i = some g → SR G (.map (some i)) (.map (some g.blk))
  | nilf : SR G .nilFunc .nilFunc
theorem SR.mono {G G' : Gh} (h : GLe G G') {v v' : Value} (hv : SR G v v') : SR G' v v' := by
  cases hv with
  | ptr hg => exact .ptr (h _ _ hg)
  | sl hg h1 h2 => exact .sl (h _ _ hg) h1 h2
  | map hg => exact .map (h _ _ hg)
  | bool b => exact .bool b
  | int k n => exact .int k n
  | str s => exact .str s
  | nilp => exact .nilp
  | nils => exact .nils
  | emp => exact .emp
  | nilf => exact .nilf

inductive CR (G : Gh) : Value → Value → Prop
  | s {v v' : Value} : SR G v v' → CR G v v'
  | fn (f : Nat) {cs cs' : List Value} : All2 (SR G) cs cs' → CR G (.func (.func f) #[] ⟨cs⟩) (.func (.func f) #[] ⟨cs'⟩)
theorem CR.mono {G G' : Gh} (h : GLe G G') {v v' : Value} (hv : CR G v v') : CR G' v v' := by
  cases hv with
  | s hv => exact .s (hv.mono h)
  | fn f hv => exact .fn f (hv.mono fun _ _ => SR.mono h)
theorem CR.one {G : Gh} {v v' : Value} (hv : CR G v v') : v'.oneCell' = true := by
  cases hv with
  | s hv => cases hv <;> rfl
  | fn f hv => rfl
theorem CR.cell {G : Gh} {v v' : Value} (hv : CR G v v') : isCell v = true := by
  cases hv with
  | s hv => cases hv <;> rfl
  | fn f hv => rfl

inductive PR (G : Gh) : Value → Value → Prop
  | c {v v' : Value} : CR G v v' → PR G v v'
  | agg {cs cs' : List Value} : All2 (CR G) cs cs' → PR G (.agg ⟨cs⟩) (.agg ⟨cs'⟩)
theorem PR.mono {G G' : Gh} (h : GLe G G') {v v' : Value} (hv : PR G v v') : PR G' v v' := by
  cases hv with
  | c hv => exact .c (hv.mono h)
  | agg hv => exact .agg (hv.mono fun _ _ => CR.mono h)

inductive VR (G : Gh) : Value → Value → Prop
  | p {v v' : Value} : PR G v v' → VR G v v'
  | tup {vs vs' : List Value} : All2 (PR G) vs vs' → VR G (.tuple ⟨vs⟩) (.tuple ⟨vs'⟩)
theorem VR.mono {G G' : Gh} (h : GLe G G') {v v' : Value} (hv : VR G v v') : VR G' v v' := by
  cases hv with
  | p hv => exact .p (hv.mono h)
  | tup hv => exact .tup (hv.mono fun _ _ => PR.mono h)
theorem VR.undef {G : Gh} : VR G (.tuple #[]) undef := .tup .nil
theorem VR.sr {G : Gh} {v v' : Value} (h : SR G v v') : VR G v v' := .p (.c (.s h))

theorem gnd1_sr {G : Gh} {v : Value} (h : gnd1 v = true) : SR G v v := by
  unfold gnd1 at h
  split at h
  · exact .bool _
  · exact .int _ _
  · exact .str _
  · exact .nilp
  · exact .nils
  · exact .nilf
  · cases h
theorem gnds_cr {G : Gh} {l : List Value} (h : l.all gnd1 = true) : All2 (CR G) l l :=
  All2.refl_of fun x hx => .s (gnd1_sr (List.all_eq_true.1 h x hx))

theorem vcells_cr {G : Gh} {v v' : Value} {cs : List Value} (hv : VR G v v') (h : vcells v = some cs) : ∃ cs', v'.cells = ⟨cs'⟩ ∧ All2 (CR G) cs cs' := by
  cases hv with
  | tup hv => cases h
  | p hv =>
    cases hv with
    | agg hv => cases h; exact ⟨_, rfl, hv⟩
    | c hv =>
      have hc := hv.cell
      have ho := hv.one
      have : cs = [v] := by
        unfold vcells at h
        split at h
        · cases hc
        · cases hc
        · cases h; rfl
      subst this
      refine ⟨[v'], ?_, .one hv⟩
      cases v' <;> first | rfl | cases ho

/-! ### Memory -/
def rwObj : Obj → Bool
  | .row _ _ rw => rw
  | .map _ => true

def free (fr : Nat × Nat) (n : Nat) : Prop := fr.1 = fr.2 ∨ n ≤ fr.1

def CellsOk (G : Gh) (cs : List Value) (sh : Nat) (cs' : Array Value) : Prop :=
  sh + cs.length ≤ cs'.size ∧ All2 (CR G) cs ((cs'.toList.drop sh).take cs.length)

structure RowOk (G : Gh) (g : GI) (cs : List Value) (e : Nat) (rw : Bool) (ob : Option Go.Obj) : Prop where
  ex : ∃ cs' ty fr, ob = some (.cells cs' ty fr) ∧ CellsOk G cs g.sh cs' ∧ (rw = true → g.sh = 0 ∧ cs'.size = g.tot ∧ free fr cs'.size)
  rw_ : g.rw = rw
  esz_ : rw = true → g.esz = e

def OR (G : Gh) (g : GI) (o : Obj) (ob : Option Go.Obj) : Prop :=
  match o with
  | .row cs e rw => RowOk G g cs e rw ob
  | .map es => ∃ es' ck, ob = some (.map es' ck) ∧ All2 (fun p (q : MapEntry) => VR G p.1 q.key ∧ PR G p.2 q.val) es es'.toList

theorem CellsOk.mono {G G' : Gh} (h : GLe G G') {cs : List Value} {sh : Nat} {cs' : Array Value} (hc : CellsOk G cs sh cs') : CellsOk G' cs sh cs' := ⟨hc.1, hc.2.mono fun _ _ => CR.mono h⟩
theorem OR.mono {G G' : Gh} (h : GLe G G') {g : GI} {o : Obj} {ob : Option Go.Obj} (ho : OR G g o ob) : OR G' g o ob := by
  cases o with
  | row cs e rw =>
    have ho : RowOk G g cs e rw ob := ho
    obtain ⟨⟨cs', ty, fr, h1, h2, h3⟩, h4, h5⟩ := ho
    exact (⟨⟨cs', ty, fr, h1, h2.mono h, h3⟩, h4, h5⟩ : RowOk G' g cs e rw ob)
  | map es =>
    obtain ⟨es', ck, h1, h2⟩ := ho
    exact ⟨es', ck, h1, h2.mono fun _ _ hp => ⟨hp.1.mono h, hp.2.mono h⟩⟩
theorem OR.is {G : Gh} {g : GI} {o : Obj} {ob : Option Go.Obj} (ho : OR G g o ob) : ob.isSome = true := by
  cases o with
  | row cs e rw => obtain ⟨⟨_, _, _, h, _⟩, _⟩ := (ho : RowOk G g cs e rw ob); rw [h]; rfl
  | map es => obtain ⟨_, _, h, _⟩ := ho; rw [h]; rfl

structure HR (G : Gh) (H : Hp) (w : World) : Prop where
  obj : ∀ i o g, H i = some o → G i = some g → OR G g o w.heap[g.blk]?
  inj : ∀ i j oi oj gi gj, i ≠ j → H i = some oi → H j = some oj → rwObj oi = true → G i = some gi → G j = some gj → gi.blk ≠ gj.blk

theorem HR.lt {G : Gh} {H : Hp} {w : World} (h : HR G H w) {i : Nat} {o : Obj} {g : GI} (hi : H i = some o) (hg : G i = some g) : g.blk < w.heap.size := by
  have := (h.obj i o g hi hg).is
  rcases Nat.lt_or_ge g.blk w.heap.size with h' | h'
  · exact h'
  · rw [Array.getElem?_eq_none h'] at this; cases this
theorem HR.sub {G : Gh} {H H' : Hp} {w : World} (h : HR G H w) (hs : ∀ i o, H' i = some o → G i ≠ none → H i = some o) : HR G H' w := by
  constructor
  · intro i o g hi hg; exact h.obj i o g (hs i o hi (by rw [hg]; simp)) hg
  · intro i j oi oj gi gj hij hi hj hrw hgi hgj
    exact h.inj i j oi oj gi gj hij (hs i oi hi (by rw [hgi]; simp)) (hs j oj hj (by rw [hgj]; simp)) hrw hgi hgj
theorem HR.world {G : Gh} {H : Hp} {w w' : World} (h : HR G H w) (hw : w'.heap = w.heap) : HR G H w' := ⟨fun i o g hi hg => by rw [hw]; exact h.obj i o g hi hg, h.inj⟩

/-- The blocks that may be written. -/
def Own (G : Gh) (H : Hp) (b : Nat) : Prop := ∃ i o g, H i = some o ∧ rwObj o = true ∧ G i = some g ∧ g.blk = b

structure Fr (G : Gh) (H : Hp) (w w' : World) : Prop where
  os : w'.os = w.os
  tape : w'.tape = w.tape
  output : w'.output = w.output
  size : w.heap.size ≤ w'.heap.size
  same : ∀ b, b < w.heap.size → ¬ Own G H b → w'.heap[b]? = w.heap[b]?
theorem Fr.refl (G : Gh) (H : Hp) (w : World) : Fr G H w w := ⟨rfl, rfl, rfl, Nat.le_refl _, fun _ _ _ => rfl⟩

structure Post (New : Nat → Prop) (G : Gh) (H : Hp) (w : World) (G' : Gh) (H' : Hp) (w' : World) : Prop where
  le : GLe G G'
  dom : ∀ i, G i = none → ¬ New i → G' i = none
  virt : ∀ i, G i = none → ¬ New i → H' i = H i
  alive : ∀ i, H i = none → ¬ New i → H' i = none
  own : ∀ b, Own G' H' b → Own G H b ∨ w.heap.size ≤ b
  ro : ∀ i o, H' i = some o → rwObj o = false → H i = some o
  fr : Fr G H w w'
  hr : HR G' H' w'

theorem Post.refl {New : Nat → Prop} {G : Gh} {H : Hp} {w : World} (h : HR G H w) : Post New G H w G H w :=
  ⟨GLe.refl G, fun _ h _ => h, fun _ _ _ => rfl, fun _ h _ => h, fun _ h => .inl h, fun _ _ h _ => h, Fr.refl .., h⟩
theorem Post.trans {N1 N2 : Nat → Prop} {G G1 G2 : Gh} {H H1 H2 : Hp} {w w1 w2 : World} (h : Post N1 G H w G1 H1 w1) (h' : Post N2 G1 H1 w1 G2 H2 w2) : Post (fun i => N1 i ∨ N2 i) G H w G2 H2 w2 := by
  refine ⟨h.le.trans h'.le, ?_, ?_, ?_, ?_, ?_, ?_, h'.hr⟩
  · intro i hi hn
    exact h'.dom i (h.dom i hi fun hx => hn (.inl hx)) fun hx => hn (.inr hx)
  · intro i hi hn
    have h1 : ¬ N1 i := fun hx => hn (.inl hx)
    rw [h'.virt i (h.dom i hi h1) fun hx => hn (.inr hx), h.virt i hi h1]
  · intro i hi hn
    exact h'.alive i (h.alive i hi fun hx => hn (.inl hx)) fun hx => hn (.inr hx)
  · intro b hb
    rcases h'.own b hb with hb | hb
    · exact h.own b hb
    · exact .inr (Nat.le_trans h.fr.size hb)
  · intro i o hi ho; exact h.ro i o (h'.ro i o hi ho) ho
  · refine ⟨h'.fr.os.trans h.fr.os, h'.fr.tape.trans h.fr.tape, h'.fr.output.trans h.fr.output, Nat.le_trans h.fr.size h'.fr.size, ?_⟩
    intro b hb hn
    rw [h'.fr.same b (Nat.lt_of_lt_of_le hb h.fr.size) fun hx => ?_, h.fr.same b hb hn]
    rcases h.own b hx with hx | hx
    · exact hn hx
    · omega
theorem Post.weaken {N1 N2 : Nat → Prop} {G G' : Gh} {H H' : Hp} {w w' : World} (h : Post N1 G H w G' H' w') (hn : ∀ i, N1 i → N2 i) : Post N2 G H w G' H' w' :=
  ⟨h.le, fun i hi hx => h.dom i hi fun hy => hx (hn i hy), fun i hi hx => h.virt i hi fun hy => hx (hn i hy), fun i hi hx => h.alive i hi fun hy => hx (hn i hy), h.own, h.ro, h.fr, h.hr⟩
/-- A world that only drew. -/
theorem Post.drew {New : Nat → Prop} {G : Gh} {H : Hp} {w w' : World} (h : HR G H w) (hh : w'.heap = w.heap) (ho : w'.os = w.os) (ht : w'.tape = w.tape) (hp : w'.output = w.output) : Post New G H w G H w' :=
  ⟨GLe.refl G, fun _ h _ => h, fun _ _ _ => rfl, fun _ h _ => h, fun _ h => .inl h, fun _ _ h _ => h, ⟨ho, ht, hp, by rw [hh]; exact Nat.le_refl _, fun _ _ _ => by rw [hh]⟩, h.world hh⟩

/-- A new block, and a new object in it. -/
theorem Post.alloc {G : Gh} {H : Hp} {w w' : World} (h : HR G H w) {id : Nat} (hid : G id = none) (ob : Go.Obj) (o : Obj) (g : GI) (hrw : rwObj o = true) (hg : g.blk = w.heap.size)
    (hh : w'.heap = w.heap.push ob) (ho : w'.os = w.os) (ht : w'.tape = w.tape) (hp : w'.output = w.output) (hor : OR (G.set id g) g o (some ob)) :
    Post (· = id) G H w (G.set id g) (H.set id (some o)) w' := by
  have hle := GLe.set g hid
  have old : ∀ b, b < w.heap.size → w'.heap[b]? = w.heap[b]? := by
    intro b hb; rw [hh, Array.getElem?_push]; rw [if_neg (by omega)]
  have new : w'.heap[g.blk]? = some ob := by rw [hh, hg]; simp
  refine ⟨hle, ?_, ?_, ?_, ?_, ?_, ?_, ?_, ?_⟩
  · intro i hi hn; rw [Gh.set_ne _ _ hn]; exact hi
  · intro i _ hn; exact Hp.set_ne _ _ hn
  · intro i hi hn; rw [Hp.set_ne _ _ hn]; exact hi
  · rintro b ⟨i, oi, gi, hi, hr, hgi, rfl⟩
    by_cases e : i = id
    · subst e; rw [Gh.set_same] at hgi; cases hgi; exact .inr (Nat.le_of_eq hg.symm)
    · rw [Hp.set_ne _ _ e] at hi; rw [Gh.set_ne _ _ e] at hgi; exact .inl ⟨i, oi, gi, hi, hr, hgi, rfl⟩
  · intro i oi hi hr
    by_cases e : i = id
    · subst e; rw [Hp.set_same] at hi; cases hi; rw [hrw] at hr; cases hr
    · rw [Hp.set_ne _ _ e] at hi; exact hi
  · exact ⟨ho, ht, hp, by rw [hh]; simp, fun b hb _ => old b hb⟩
  · intro i oi gi hi hgi
    by_cases e : i = id
    · subst e; rw [Hp.set_same] at hi; rw [Gh.set_same] at hgi; cases hi; cases hgi; rw [new]; exact hor
    · rw [Hp.set_ne _ _ e] at hi; rw [Gh.set_ne _ _ e] at hgi
      rw [old _ (h.lt hi hgi)]; exact (h.obj i oi gi hi hgi).mono hle
  · intro i j oi oj gi gj hij hi hj hr hgi hgj
    by_cases ei : i = id
    · subst ei
      rw [Gh.set_same] at hgi; cases hgi
      rw [Hp.set_ne _ _ (Ne.symm hij)] at hj; rw [Gh.set_ne _ _ (Ne.symm hij)] at hgj
      have := h.lt hj hgj; omega
    · rw [Hp.set_ne _ _ ei] at hi; rw [Gh.set_ne _ _ ei] at hgi
      by_cases ej : j = id
      · subst ej
        rw [Gh.set_same] at hgj; cases hgj
        have := h.lt hi hgi; omega
      · rw [Hp.set_ne _ _ ej] at hj; rw [Gh.set_ne _ _ ej] at hgj
        exact h.inj i j oi oj gi gj hij hi hj hr hgi hgj

/-- An object of ours is changed where it is. -/
theorem Post.write {New : Nat → Prop} {G : Gh} {H : Hp} {w w' : World} (h : HR G H w) {i : Nat} {o o' : Obj} {g : GI} (hi : H i = some o) (hr : rwObj o = true) (hg : G i = some g) (hr' : rwObj o' = true)
    (hs : w'.heap.size = w.heap.size) (hoth : ∀ b, b ≠ g.blk → w'.heap[b]? = w.heap[b]?) (ho : w'.os = w.os) (ht : w'.tape = w.tape) (hp : w'.output = w.output) (hor : OR G g o' w'.heap[g.blk]?) :
    Post New G H w G (H.set i (some o')) w' := by
  refine ⟨GLe.refl G, fun _ h _ => h, ?_, ?_, ?_, ?_, ?_, ?_, ?_⟩
  · intro j hj _
    refine Hp.set_ne _ _ fun e => ?_
    subst e; rw [hg] at hj; cases hj
  · intro j hj _
    rw [Hp.set_ne]
    · exact hj
    · rintro rfl; rw [hi] at hj; cases hj
  · rintro b ⟨j, oj, gj, hj, hrj, hgj, rfl⟩
    by_cases e : j = i
    · subst e; rw [hg] at hgj; cases hgj; exact .inl ⟨j, o, g, hi, hr, hg, rfl⟩
    · rw [Hp.set_ne _ _ e] at hj; exact .inl ⟨j, oj, gj, hj, hrj, hgj, rfl⟩
  · intro j oj hj hrj
    by_cases e : j = i
    · subst e; rw [Hp.set_same] at hj; cases hj; rw [hr'] at hrj; cases hrj
    · rw [Hp.set_ne _ _ e] at hj; exact hj
  · refine ⟨ho, ht, hp, by omega, fun b _ hn => hoth b fun e => hn ⟨i, o, g, hi, hr, hg, e.symm⟩⟩
  · intro j oj gj hj hgj
    by_cases e : j = i
    · subst e; rw [Hp.set_same] at hj; cases hj; rw [hg] at hgj; cases hgj; exact hor
    · rw [Hp.set_ne _ _ e] at hj
      rw [hoth _ fun eb => h.inj i j o oj g gj (Ne.symm e) hi hj hr hg hgj eb.symm]
      exact h.obj j oj gj hj hgj
  · intro j k oj ok gj gk hjk hj hk hrj hgj hgk
    have alive : ∀ x ox, (H.set i (some o')) x = some ox → rwObj ox = true → ∃ oy, H x = some oy ∧ rwObj oy = true := by
      intro x ox hx hrx
      by_cases e : x = i
      · subst e; exact ⟨o, hi, hr⟩
      · rw [Hp.set_ne _ _ e] at hx; exact ⟨ox, hx, hrx⟩
    obtain ⟨oj', hj', hrj'⟩ := alive j oj hj hrj
    have : ∃ oy, H k = some oy := by
      by_cases e : k = i
      · subst e; exact ⟨o, hi⟩
      · rw [Hp.set_ne _ _ e] at hk; exact ⟨ok, hk⟩
    obtain ⟨ok', hk'⟩ := this
    exact h.inj j k oj' ok' gj gk hjk hj' hk' hrj' hgj hgk

/-- An object of ours moves to another number, and is changed where it is. -/
theorem Post.move {G : Gh} {H : Hp} {w w' : World} (h : HR G H w) {i id : Nat} {o o' : Obj} {g : GI} (hid : G id = none) (hi : H i = some o) (hr : rwObj o = true) (hg : G i = some g) (hr' : rwObj o' = true) (g' : GI) (hb : g'.blk = g.blk)
    (hs : w'.heap.size = w.heap.size) (hoth : ∀ b, b ≠ g.blk → w'.heap[b]? = w.heap[b]?) (ho : w'.os = w.os) (ht : w'.tape = w.tape) (hp : w'.output = w.output) (hor : OR (G.set id g') g' o' w'.heap[g.blk]?) :
    Post (· = id) G H w (G.set id g') ((H.set i none).set id (some o')) w' := by
  have hle := GLe.set g' hid
  have hne : i ≠ id := by rintro rfl; rw [hg] at hid; cases hid
  have look : ∀ x ox, ((H.set i none).set id (some o')) x = some ox → (x = id ∧ ox = o') ∨ (x ≠ id ∧ x ≠ i ∧ H x = some ox) := by
    intro x ox hx
    by_cases e : x = id
    · subst e; rw [Hp.set_same] at hx; cases hx; exact .inl ⟨rfl, rfl⟩
    · rw [Hp.set_ne _ _ e] at hx
      by_cases e2 : x = i
      · subst e2; rw [Hp.set_same] at hx; cases hx
      · rw [Hp.set_ne _ _ e2] at hx; exact .inr ⟨e, e2, hx⟩
  refine ⟨hle, ?_, ?_, ?_, ?_, ?_, ?_, ?_, ?_⟩
  · intro j hj hn; rw [Gh.set_ne _ _ hn]; exact hj
  · intro j hj hn
    rw [Hp.set_ne _ _ hn, Hp.set_ne]
    rintro rfl; rw [hg] at hj; cases hj
  · intro j hj hn
    rw [Hp.set_ne _ _ hn]
    by_cases e : j = i
    · subst e; rw [Hp.set_same]
    · rw [Hp.set_ne _ _ e]; exact hj
  · rintro b ⟨j, oj, gj, hj, hrj, hgj, rfl⟩
    rcases look j oj hj with ⟨rfl, rfl⟩ | ⟨e, e2, hj⟩
    · rw [Gh.set_same] at hgj; cases hgj; exact .inl ⟨i, o, g, hi, hr, hg, hb.symm⟩
    · rw [Gh.set_ne _ _ e] at hgj; exact .inl ⟨j, oj, gj, hj, hrj, hgj, rfl⟩
  · intro j oj hj hrj
    rcases look j oj hj with ⟨rfl, rfl⟩ | ⟨e, e2, hj⟩
    · rw [hr'] at hrj; cases hrj
    · exact hj
  · exact ⟨ho, ht, hp, by omega, fun b _ hn => hoth b fun e => hn ⟨i, o, g, hi, hr, hg, e.symm⟩⟩
  · intro j oj gj hj hgj
    rcases look j oj hj with ⟨rfl, rfl⟩ | ⟨e, e2, hj⟩
    · rw [Gh.set_same] at hgj; cases hgj; rw [hb]; exact hor
    · rw [Gh.set_ne _ _ e] at hgj
      rw [hoth _ fun eb => h.inj i j o oj g gj (Ne.symm e2) hi hj hr hg hgj eb.symm]
      exact (h.obj j oj gj hj hgj).mono hle
  · intro j k oj ok gj gk hjk hj hk hrj hgj hgk
    rcases look j oj hj with ⟨ej, eo⟩ | ⟨e, e2, hj2⟩
    · rcases look k ok hk with ⟨ek, eo2⟩ | ⟨e', e2', hk2⟩
      · exact absurd (ej.trans ek.symm) hjk
      · rw [ej, Gh.set_same] at hgj; cases hgj
        rw [Gh.set_ne _ _ e'] at hgk
        rw [hb]; exact h.inj i k o ok g gk (Ne.symm e2') hi hk2 hr hg hgk
    · rw [Gh.set_ne _ _ e] at hgj
      rcases look k ok hk with ⟨ek, eo⟩ | ⟨e', e2', hk2⟩
      · rw [ek, Gh.set_same] at hgk; cases hgk
        rw [hb]; exact fun eb => h.inj i j o oj g gj (Ne.symm e2) hi hj2 hr hg hgj eb.symm
      · rw [Gh.set_ne _ _ e'] at hgk
        exact h.inj j k oj ok gj gk hjk hj2 hk2 hrj hgj hgk

/-- An object is let go. -/
theorem HR.kill {G : Gh} {H : Hp} {w : World} (h : HR G H w) (i : Nat) : HR G (H.set i none) w := by
  refine h.sub fun j o hj _ => ?_
  by_cases e : j = i
  · subst e; rw [Hp.set_same] at hj; cases hj
  · rw [Hp.set_ne _ _ e] at hj; exact hj
/-- What is done behind an object's end is done of the whole. -/
theorem Post.killed {G G' : Gh} {H H' : Hp} {w w' : World} {New : Nat → Prop} {i : Nat} {o : Obj} {g : GI} (hi : H i = some o) (hg : G i = some g) (h : Post New G (H.set i none) w G' H' w') : Post New G H w G' H' w' := by
  have own : ∀ b, Own G (H.set i none) b → Own G H b := by
    rintro b ⟨j, oj, gj, hj, hr, hgj, rfl⟩
    by_cases e : j = i
    · subst e; rw [Hp.set_same] at hj; cases hj
    · rw [Hp.set_ne _ _ e] at hj; exact ⟨j, oj, gj, hj, hr, hgj, rfl⟩
  refine ⟨h.le, h.dom, ?_, ?_, ?_, ?_, ?_, h.hr⟩
  · intro j hj hn
    rw [h.virt j hj hn, Hp.set_ne]
    rintro rfl; rw [hg] at hj; cases hj
  · intro j hj hn
    refine h.alive j ?_ hn
    by_cases e : j = i
    · subst e; rw [Hp.set_same]
    · rw [Hp.set_ne _ _ e]; exact hj
  · intro b hb; exact (h.own b hb).imp (own b) id
  · intro j oj hj hr
    have := h.ro j oj hj hr
    by_cases e : j = i
    · subst e; rw [Hp.set_same] at this; cases this
    · rw [Hp.set_ne _ _ e] at this; exact this
  · exact ⟨h.fr.os, h.fr.tape, h.fr.output, h.fr.size, fun b hb hn => h.fr.same b hb fun hx => hn (own b hx)⟩

end Go.Proofs.Ytdnokdgkccnbnaa.Ax
