/- The abstract machine once more, told so that what follows an operation is handed on: the two tell the same. -/
import Derived.Test.YtdnokdgkccnbnaaAx1
set_option linter.unusedSimpArgs false
set_option linter.unusedVariables false
namespace Go.Proofs.Ytdnokdgkccnbnaa.Ax
open Go

section
variable {α : Type}

abbrev vHK (H : Hp) (v : Option Value) (k : Res → Option α) : Option α := v.bind fun v => k (.val v H)
abbrev vPK (p : Option (Value × Hp)) (k : Res → Option α) : Option α := p.bind fun p => k (.val p.1 p.2)
abbrev vSK (h : Option Hp) (k : Res → Option α) : Option α := h.bind fun h => k (.skip h)
/-- Of what is always told: no bind is left. -/
abbrev optK {β : Type} (x : Option β) (k : β → Option α) : Option α :=
  match x with
  | some b => k b
  | none => none
theorem optK_eq {β : Type} (x : Option β) (k : β → Option α) : optK x k = x.bind k := by cases x <;> rfl

abbrev calleeK (v : Value) (args : List Value) (k : Res → Option α) : Option α :=
  match v with
  | .func (.func f) first captured => k (.call f (first.toList ++ args ++ captured.toList))
  | _ => none

def minV (x y : Value) : Option Value :=
  match x, y with
  | .int k a, .int k' b => if k = k' then some (.int k (if b < a then b else a)) else none
  | _, _ => none


abbrev step1K (P : Program) (t : Tm) (o : Oper) (H : Hp) (id : Nat) (k : Res → Option α) : Option α :=
  let f := ev t
  match o.op with
  | .move x => k (.val (f x) H)
  | .assign x => k (.val (f x) H)
  | .pick c a b => vHK H (pickV (f c) (f a) (f b)) k
  | .alloc ty => optK (tab P ty) fun ti => iteK (ti.zero.all gnd1) (k (.val (ptr id 0) (H.set id (some (.row ti.zero 0 true)))))
  | .box _ x => (vcells (f x)).bind fun cs => k (.val (ptr id 0) (H.set id (some (.row cs 0 true))))
  | .build ty parts => optK (tab P ty) fun ti => iteK (isStruct P ty && ti.zero.all gnd1) (optK (places P ty f parts.toList) fun ps => vHK H (bld ti.zero ps) k)
  | .buildSlice ty n parts => optK (elemT P ty) fun te => iteK (te.zero.all gnd1) (vPK (bsl id te.size n te.zero (elems te.size f parts.toList) H) k)
  | .load ty a => optK (tab P ty) fun ti => vHK H (ld ti.agg ti.size (f a) H) k
  | .store ty a x => optK (tab P ty) fun ti => vSK (st ti.agg ti.size (f a) (f x) H) k
  | .nilCheck x => vHK H (nilchk (f x)) k
  | .binOp op ty x y _ => vHK H (binK (kindOf P op ty) op (f x) (f y)) k
  | .unOp op _ x => vHK H (un op (f x)) k
  | .convert s d x => vPK (conv (convK P s d) id (f x) H) k
  | .slice ty x lo hi mx => iteK (!mx.isSome) (optK (sliceSz P ty) fun sz => vHK H (sliceV sz (f x) (lo.map f) (hi.map f)) k)
  | .fieldAddr s x i => optK (fieldAt P s i) fun p => vHK H (fieldA p.1 (f x)) k
  | .field s x i => optK (fieldAt P s i) fun p => vHK H (partV p.2.agg p.2.size p.1 (f x)) k
  | .indexAddr ty x i => optK (elemT P ty) fun te => vHK H (idxA te.size (f x) (f i)) k
  | .index ty x i => optK (tab P ty) fun ti => (match ti.desc with | .string => vHK H (idxS (f x) (f i)) k | _ => none)
  | .makeSlice ty l c => optK (elemT P ty) fun te => iteK (te.zero.all gnd1) (vPK (mks id te.size te.bytes te.zero (f l) (f c) H) k)
  | .makeFunc fn first captured => iteK first.toList.isEmpty (iteK ((captured.toList.map f).all ptrV) (match fn with | .func g => k (.val (.func (.func g) #[] ⟨captured.toList.map f⟩) H) | _ => none))
  | .makeMap t r => iteK (!r.isSome) (optK (mapT P t) fun _ => k (.val (.map (some id)) (H.set id (some (.map [])))))
  | .lookup t m kk ok => optK (mapT P t) fun p => (match p.2 with | [z] => vHK H (lookV p.1 z ok (f m) (f kk) H) k | _ => none)
  | .mapUpdate t m kk x => optK (mapT P t) fun p => vSK (updV p.1 (f m) (f kk) (f x) H) k
  | .extract x i => vHK H (ext i (f x)) k
  | .call c =>
    match c.callee with
    | .value g => calleeK (f g) (c.args.toList.map f) k
    | .builtin .len => (match c.args.toList, c.argTypes.toList with | [x], [ty] => iteK (lenOk P ty) (vHK H (lenV (isStrT P ty) (f x)) k) | _, _ => none)
    | .builtin .append =>
      (match c.args.toList, c.argTypes.toList with
      | [s, x], [ty, ty2] => optK (elemT P ty) fun te => iteK (srcOk P ty2 && decide (te.size = te.zero.length) && decide (0 < te.size)) (vPK (app id te.size te.bytes (f s) (f x) H) k)
      | _, _ => none)
    | .builtin .min => (match c.args.toList with | [x, y] => vHK H (minV (f x) (f y)) k | _ => none)
    | _ => none
  | _ => none

theorem vHK_eq (H : Hp) (v : Option Value) (k : Res → Option α) : vHK H v k = (vH H v).bind k := by cases v <;> rfl
theorem vPK_eq (v : Option (Value × Hp)) (k : Res → Option α) : vPK v k = (vP v).bind k := by cases v <;> rfl
theorem vSK_eq (v : Option Hp) (k : Res → Option α) : vSK v k = (vS v).bind k := by cases v <;> rfl
theorem iteK_eq (b : Bool) (x : Option α) : iteK b x = if b = true then x else none := by cases b <;> rfl

theorem step1K_eq (P : Program) (t : Tm) (o : Oper) (H : Hp) (id : Nat) (k : Res → Option α) : step1K P t o H id k = (step1 P t o H id).bind k := by
  unfold step1K step1
  cases o.op with
  | build ty parts =>
    simp only [optK_eq, iteK_eq, vHK_eq]
    cases tab P ty with
    | none => rfl
    | some ti =>
      simp only [Option.bind_some, Bool.and_eq_true]
      split
      · cases places P ty (ev t) parts.toList <;> rfl
      · rfl
  | call c =>
    obtain ⟨callee, as, ts⟩ := c
    cases callee with
    | invoke r m => rfl
    | value g =>
      simp only
      generalize ev t g = v
      unfold calleeK calleeV
      cases v with
      | func fn a b => cases fn <;> rfl
      | _ => rfl
    | builtin b =>
      simp only
      generalize as.toList = l1
      generalize ts.toList = l2
      cases b with
      | len =>
        rcases l1 with _ | ⟨x, _ | ⟨y, l1⟩⟩ <;> rcases l2 with _ | ⟨u, _ | ⟨v, l2⟩⟩ <;> try rfl
        simp only [iteK_eq, vHK_eq]; split <;> rfl
      | append =>
        rcases l1 with _ | ⟨x, _ | ⟨y, _ | ⟨z, l1⟩⟩⟩ <;> rcases l2 with _ | ⟨u, _ | ⟨v, _ | ⟨w, l2⟩⟩⟩ <;> try rfl
        simp only [optK_eq, iteK_eq, vPK_eq]
        cases elemT P u with
        | none => rfl
        | some ti =>
          simp only [Option.bind_some, Bool.and_eq_true, decide_eq_true_eq, and_assoc]
          split <;> rfl
      | min =>
        rcases l1 with _ | ⟨x, _ | ⟨y, _ | ⟨z, l1⟩⟩⟩ <;> try rfl
        simp only [vHK_eq, minV]
        generalize ev t x = a
        generalize ev t y = b
        cases a <;> try rfl
        cases b <;> try rfl
        simp only
        split <;> rfl
      | _ => rfl
  | index ty x i =>
    simp only [optK_eq, vHK_eq]
    cases tab P ty with
    | none => rfl
    | some ti => simp only [Option.bind_some]; cases ti.desc <;> rfl
  | lookup a b c d =>
    simp only [optK_eq, vHK_eq]
    cases mapT P a with
    | none => rfl
    | some ti =>
      simp only [Option.bind_some]
      generalize ti.2 = l
      rcases l with _ | ⟨x, _ | ⟨y, l⟩⟩ <;> rfl
  | makeFunc a b c =>
    simp only [iteK_eq]
    by_cases h1 : b.toList.isEmpty = true
    · by_cases h2 : (List.map (ev t) c.toList).all ptrV = true
      · rw [if_pos h1, if_pos h2, if_pos ⟨h1, h2⟩]; cases a <;> rfl
      · rw [if_pos h1, if_neg h2, if_neg fun h => h2 h.2]; rfl
    · rw [if_neg h1, if_neg fun h => h1 h.1]; rfl
  | slice a b c d e =>
    cases e with
    | some x => rfl
    | none =>
      simp only [optK_eq, vHK_eq, iteK_eq]
      cases sliceSz P a <;> rfl
  | makeMap a b =>
    cases b with
    | some x => rfl
    | none =>
      simp only [optK_eq, iteK_eq]
      cases mapT P a <;> rfl
  | move x => rfl
  | assign x => rfl
  | pick c a b => simp only [vHK_eq]
  | alloc ty =>
    simp only [optK_eq, iteK_eq]
    cases tab P ty with
    | none => rfl
    | some ti => simp only [Option.bind_some]; split <;> rfl
  | box ty x => simp only; cases vcells (ev t x) <;> rfl
  | buildSlice ty n ps =>
    simp only [optK_eq, iteK_eq, vPK_eq]
    cases elemT P ty with
    | none => rfl
    | some ti => simp only [Option.bind_some]; split <;> rfl
  | load ty a => simp only [optK_eq, vHK_eq]; cases tab P ty <;> rfl
  | store ty a x => simp only [optK_eq, vSK_eq]; cases tab P ty <;> rfl
  | nilCheck x => simp only [vHK_eq]
  | binOp a b c d e => simp only [vHK_eq]
  | unOp a b c => simp only [vHK_eq]
  | convert a b c => simp only [vPK_eq]
  | fieldAddr s x i => simp only [optK_eq, vHK_eq]; cases fieldAt P s i <;> rfl
  | field s x i => simp only [optK_eq, vHK_eq]; cases fieldAt P s i <;> rfl
  | indexAddr s x i => simp only [optK_eq, vHK_eq]; cases elemT P s <;> rfl
  | makeSlice ty l c =>
    simp only [optK_eq, iteK_eq, vPK_eq]
    cases elemT P ty with
    | none => rfl
    | some ti => simp only [Option.bind_some]; split <;> rfl
  | mapUpdate a b c d => simp only [optK_eq, vSK_eq]; cases mapT P a <;> rfl
  | extract x i => simp only [vHK_eq]
  | _ => rfl

abbrev callOf : Op → Option (Operand × List Operand)
  | .call c =>
    match c.callee with
    | .value g => some (g, c.args.toList)
    | _ => none
  | _ => none
def calleeP (v : Value) (args : List Value) : Option (Nat × List Value) :=
  match v with
  | .func (.func f) first captured => some (f, first.toList ++ args ++ captured.toList)
  | _ => none

/-- Behind one operation. -/
abbrev exec1K (P : Program) (C : Calling) (o : Oper) (id : Nat) (t : Tm) (H : Hp) (n : Nat) (k : Tm → Hp → Nat → Option α) : Option α :=
  match callOf o.op with
  | some p => (calleeP (ev t p.1) (p.2.map (ev t))).bind fun c => (C c.1 c.2 H n).bind fun q => k (putO t o.dst q.1) q.2.1 q.2.2
  | none =>
    step1K P t o H id fun r =>
      match r with
      | .val v H => k (putO t o.dst v) H n
      | .skip H => k (putO t o.dst (.tuple #[])) H n
      | .call _ _ => none

theorem step1_noCall (P : Program) (t : Tm) (o : Oper) (H : Hp) (id : Nat) (h : callOf o.op = none) (f : Nat) (args : List Value) : step1 P t o H id ≠ some (.call f args) := by
  intro e
  unfold step1 at e
  cases ho : o.op with
  | call c =>
    rw [ho] at e h
    simp only at e
    obtain ⟨callee, as, ts⟩ := c
    cases callee with
    | value g => simp [callOf] at h
    | invoke r m => cases e
    | builtin b =>
      simp only at e
      generalize as.toList = l1 at e
      generalize ts.toList = l2 at e
      cases b with
      | len =>
        rcases l1 with _ | ⟨x, _ | ⟨y, l1⟩⟩ <;> rcases l2 with _ | ⟨u, _ | ⟨v, l2⟩⟩ <;> try cases e
        simp only at e
        split at e
        · unfold vH at e; cases hl : lenV (isStrT P u) (ev t x) <;> rw [hl] at e <;> cases e
        · cases e
      | append =>
        rcases l1 with _ | ⟨x, _ | ⟨y, _ | ⟨z, l1⟩⟩⟩ <;> rcases l2 with _ | ⟨u, _ | ⟨v, _ | ⟨w, l2⟩⟩⟩ <;> try cases e
        simp only at e
        cases ht : elemT P u with
        | none => rw [ht] at e; cases e
        | some te =>
          rw [ht] at e
          simp only [Option.bind_some] at e
          split at e
          · unfold vP at e; cases hl : app id te.size te.bytes (ev t x) (ev t y) H <;> rw [hl] at e <;> cases e
          · cases e
      | min =>
        rcases l1 with _ | ⟨x, _ | ⟨y, _ | ⟨z, l1⟩⟩⟩ <;> try cases e
        simp only at e
        split at e
        · split at e <;> cases e
        · cases e
      | _ => cases e
  | _ =>
    rw [ho] at e
    simp only at e
    repeat' (first
      | (cases e; done)
      | split at e
      | (unfold vH at e; simp only [Option.bind_eq_some_iff] at e; obtain ⟨_, _, e⟩ := e)
      | (unfold vP at e; simp only [Option.bind_eq_some_iff] at e; obtain ⟨_, _, e⟩ := e)
      | (unfold vS at e; simp only [Option.bind_eq_some_iff] at e; obtain ⟨_, _, e⟩ := e)
      | (simp only [Option.bind_eq_some_iff] at e; obtain ⟨_, _, e⟩ := e)
      | (obtain ⟨_, _, e⟩ := e))

theorem calleeV_eq (v : Value) (args : List Value) : calleeV v args = (calleeP v args).bind fun c => some (.call c.1 c.2) := by
  unfold calleeV calleeP
  cases v with
  | func fn a b => cases fn <;> rfl
  | _ => rfl

theorem exec1K_eq (P : Program) (C : Calling) (o : Oper) (id : Nat) (t : Tm) (H : Hp) (n : Nat) (k : Tm → Hp → Nat → Option α) :
    exec1K P C o id t H n k = (exec1 P C o id t H n).bind fun q => k q.1 q.2.1 q.2.2 := by
  unfold exec1K exec1
  cases hc : callOf o.op with
  | some p =>
    simp only
    have e : step1 P t o H id = calleeV (ev t p.1) (p.2.map (ev t)) := by
      unfold callOf at hc
      unfold step1
      cases ho : o.op with
      | call c =>
        rw [ho] at hc
        obtain ⟨callee, as, ts⟩ := c
        cases callee with
        | value g => simp only [Option.some.injEq] at hc; subst hc; rfl
        | invoke r m => cases hc
        | builtin b => cases hc
      | _ => rw [ho] at hc; cases hc
    rw [e, calleeV_eq]
    cases calleeP (ev t p.1) (p.2.map (ev t)) with
    | none => rfl
    | some c => simp only [Option.bind_some]; cases C c.1 c.2 H n <;> rfl
  | none =>
    simp only
    rw [step1K_eq]
    cases hs : step1 P t o H id with
    | none => rfl
    | some r =>
      cases r with
      | val v H => rfl
      | skip H => rfl
      | call f args => exact absurd hs (step1_noCall P t o H id hc f args)

abbrev moveOf : Op → Option Operand
  | .move x => some x
  | .assign x => some x
  | _ => none

/-- Operations that go on under one guard. -/
def sameG (d : Nat) (g : Nat × Bool) (o : Oper) : Bool := (match o.guard with | some g' => g'.1 == g.1 && g'.2 == g.2 | none => false) && (match o.dst with | some e => !(e == d) | none => true)
def grp (d : Nat) (g : Nat × Bool) : List Oper → Nat
  | [] => 0
  | o :: r => if sameG d g o then grp d g r + 1 else 0
def undefs : List Oper → Tm → Tm
  | [], t => t
  | o :: r, t => undefs r (putO t o.dst (.tuple #[]))
def runU (P : Program) (C : Calling) (n0 : Nat) : List Oper → Nat → Tm → Hp → Nat → (Tm → Hp → Nat → Option α) → Option α
  | [], _, t, H, n, k => k t H n
  | o :: r, i, t, H, n, k => exec1K P C o (n0 + i) t H n fun t H n => runU P C n0 r (i + 1) t H n k

/-- A lone guarded move. -/
abbrev loneMove (g : Nat) (o : Oper) : Option Operand :=
  match g with
  | 1 => moveOf o.op
  | _ => none

def runOpsK (P : Program) (C : Calling) (ops : List Oper) (n0 : Nat) : Nat → List Oper → Nat → Tm → Hp → Nat → (Tm → Hp → Nat → Option α) → Option α
  | 0, _, _, t, H, n, k => k t H n
  | _ + 1, [], _, t, H, n, k => k t H n
  | f + 1, o :: r, i, t, H, n, k =>
    match o.guard with
    | none => exec1K P C o (n0 + i) t H n fun t H n => runOpsK P C ops n0 f r (i + 1) t H n k
    | some g =>
      match (ops[g.1]?).bind (·.dst) with
      | some d =>
        match loneMove (grp d g (o :: r)) o with
        | some x => runOpsK P C ops n0 f r (i + 1) (putO t o.dst (gsel (t d) g.2 (ev t x) (.tuple #[]))) H n k
        | none =>
          match grp d g (o :: r) with
          | 0 => (gsel (t d) g.2 (exec1K P C o (n0 + i) t H n fun t H n => some (t, H, n)) (some (putO t o.dst (.tuple #[]), H, n))).bind fun q => runOpsK P C ops n0 f r (i + 1) q.1 q.2.1 q.2.2 k
          | m + 1 => (gsel (t d) g.2 (runU P C n0 ((o :: r).take (m + 1)) i t H n fun t H n => some (t, H, n)) (some (undefs ((o :: r).take (m + 1)) t, H, n))).bind fun q => runOpsK P C ops n0 f ((o :: r).drop (m + 1)) (i + (m + 1)) q.1 q.2.1 q.2.2 k
      | none => runOpsK P C ops n0 f r (i + 1) (putO t o.dst (.tuple #[])) H n k

theorem exec1K_some (P : Program) (C : Calling) (o : Oper) (id : Nat) (t : Tm) (H : Hp) (n : Nat) : (exec1K P C o id t H n fun t H n => some (t, H, n)) = exec1 P C o id t H n := by
  rw [exec1K_eq]
  cases exec1 P C o id t H n <;> rfl

theorem gsel_some {β γ : Type} (v : Value) (w : Bool) (f : β → γ) (A B : β) : gsel v w (some (f A)) (some (f B)) = some (f (gsel v w A B)) := by
  unfold gsel; split
  · split <;> rfl
  · rfl
theorem exec1_move (P : Program) (C : Calling) (o : Oper) (id : Nat) (t : Tm) (H : Hp) (n : Nat) (x : Operand) (h : moveOf o.op = some x) : exec1 P C o id t H n = some (putO t o.dst (ev t x), H, n) := by
  unfold exec1 step1
  unfold moveOf at h
  split at h
  · rename_i ho; simp only [ho]; cases h; rfl
  · rename_i ho; simp only [ho]; cases h; rfl
  · cases h

def runUd (P : Program) (C : Calling) (n0 : Nat) : List Oper → Nat → Tm → Hp → Nat → Option R3
  | [], _, t, H, n => some (t, H, n)
  | o :: r, i, t, H, n => (exec1 P C o (n0 + i) t H n).bind fun q => runUd P C n0 r (i + 1) q.1 q.2.1 q.2.2
theorem runU_eq (P : Program) (C : Calling) (n0 : Nat) : ∀ (l : List Oper) (i : Nat) (t : Tm) (H : Hp) (n : Nat) (k : Tm → Hp → Nat → Option α),
    runU P C n0 l i t H n k = (runUd P C n0 l i t H n).bind fun q => k q.1 q.2.1 q.2.2 := by
  intro l
  induction l with
  | nil => intros; rfl
  | cons o r ih =>
    intro i t H n k
    simp only [runU, runUd]
    rw [exec1K_eq]
    cases exec1 P C o (n0 + i) t H n with
    | none => rfl
    | some q => simp only [Option.bind_some]; exact ih ..

theorem grp_spec (d : Nat) (g : Nat × Bool) : ∀ (l : List Oper) (o : Oper), o ∈ l.take (grp d g l) → o.guard = some g ∧ o.dst ≠ some d := by
  intro l
  induction l with
  | nil => intro o h; simp [grp] at h
  | cons x r ih =>
    intro o h
    unfold grp at h
    split at h
    · rename_i hs
      simp only [List.take_succ_cons, List.mem_cons] at h
      rcases h with rfl | h
      · unfold sameG at hs
        simp only [Bool.and_eq_true] at hs
        obtain ⟨h1, h2⟩ := hs
        constructor
        · split at h1
          · rename_i g' hg
            simp only [Bool.and_eq_true, beq_iff_eq] at h1
            rw [hg]; exact congrArg some (Prod.ext h1.1 h1.2)
          · cases h1
        · intro hd; rw [hd] at h2; simp at h2
      · exact ih o h
    · simp at h

theorem put_ne (t : Tm) (d : Option Nat) (v : Value) (e : Nat) (h : d ≠ some e) : putO t d v e = t e := by
  cases d with
  | none => rfl
  | some d => simp only [putO, put]; exact if_neg fun he => h (by rw [he])

theorem exec1_keeps {P : Program} {C : Calling} {o : Oper} {id : Nat} {t : Tm} {H : Hp} {n : Nat} {q : R3} (h : exec1 P C o id t H n = some q) (e : Nat) (he : o.dst ≠ some e) : q.1 e = t e := by
  unfold exec1 at h
  simp only [Option.bind_eq_some_iff] at h
  obtain ⟨r, _, h⟩ := h
  cases r with
  | val v H => cases h; exact put_ne _ _ _ _ he
  | skip H => cases h; exact put_ne _ _ _ _ he
  | call f args =>
    simp only [Option.bind_eq_some_iff] at h
    obtain ⟨_, _, h⟩ := h
    cases h; exact put_ne _ _ _ _ he

theorem runOps_group (P : Program) (C : Calling) (ops : List Oper) (n0 d : Nat) (g : Nat × Bool) (hd : (ops[g.1]?).bind (·.dst) = some d) (l2 : List Oper) : ∀ (l1 : List Oper) (i : Nat) (t : Tm) (H : Hp) (n : Nat),
    (∀ o ∈ l1, o.guard = some g ∧ o.dst ≠ some d) →
    runOps P C ops n0 (l1 ++ l2) i t H n = (gsel (t d) g.2 (runUd P C n0 l1 i t H n) (some (undefs l1 t, H, n))).bind fun q => runOps P C ops n0 l2 (i + l1.length) q.1 q.2.1 q.2.2 := by
  intro l1
  induction l1 with
  | nil =>
    intro i t H n _
    simp only [List.nil_append, runUd, undefs, List.length_nil, Nat.add_zero]
    unfold gsel
    split
    · split <;> rfl
    · rfl
  | cons o l1 ih =>
    intro i t H n hg
    have ho := hg o (List.mem_cons_self ..)
    have hl := fun x hx => hg x (List.mem_cons_of_mem _ hx)
    simp only [List.cons_append, runOps, runUd, undefs, List.length_cons]
    have e : guardSel ops t o (exec1 P C o (n0 + i) t H n) (some (putO t o.dst (.tuple #[]), H, n)) = gsel (t d) g.2 (exec1 P C o (n0 + i) t H n) (some (putO t o.dst (.tuple #[]), H, n)) := by
      unfold guardSel; rw [ho.1]; obtain ⟨j, w⟩ := g; simp only at hd ⊢; rw [hd]
    rw [e]
    have e2 : i + (l1.length + 1) = i + 1 + l1.length := by omega
    rw [e2]
    unfold gsel
    split
    · rename_i b hb
      split
      · rename_i hw
        cases hx : exec1 P C o (n0 + i) t H n with
        | none => rfl
        | some q =>
          simp only [Option.bind_some]
          rw [ih _ _ _ _ hl, exec1_keeps hx d ho.2, hb]
          simp only [gsel, hw, if_true]
      · rename_i hw
        simp only [Option.bind_some]
        rw [ih _ _ _ _ hl, put_ne _ _ _ _ ho.2, hb]
        simp only [gsel, hw, if_false, Option.bind_some]
    · rename_i hb
      simp only [Option.bind_some]
      rw [ih _ _ _ _ hl, put_ne _ _ _ _ ho.2]
      unfold gsel
      split
      · rename_i b hb'; exact absurd hb' (hb b)
      · rfl

theorem runOpsK_eq (P : Program) (C : Calling) (ops : List Oper) (n0 : Nat) : ∀ (f : Nat) (l : List Oper) (i : Nat) (t : Tm) (H : Hp) (n : Nat) (k : Tm → Hp → Nat → Option α), l.length ≤ f →
    runOpsK P C ops n0 f l i t H n k = (runOps P C ops n0 l i t H n).bind fun q => k q.1 q.2.1 q.2.2 := by
  intro f
  induction f with
  | zero =>
    intro l i t H n k hl
    have : l = [] := List.length_eq_zero_iff.1 (by omega)
    subst this; rfl
  | succ f ih =>
    intro l i t H n k hl
    cases l with
    | nil => rfl
    | cons o r =>
      have hr : r.length ≤ f := by simpa using hl
      unfold runOpsK
      cases hg : o.guard with
      | none =>
        simp only [runOps, guardSel, hg]
        rw [exec1K_eq]
        cases exec1 P C o (n0 + i) t H n with
        | none => rfl
        | some q => simp only [Option.bind_some]; exact ih _ _ _ _ _ _ hr
      | some g =>
        simp only
        have step : ∀ d, (ops[g.1]?).bind (·.dst) = some d → guardSel ops t o (exec1 P C o (n0 + i) t H n) (some (putO t o.dst (.tuple #[]), H, n)) = gsel (t d) g.2 (exec1 P C o (n0 + i) t H n) (some (putO t o.dst (.tuple #[]), H, n)) := by
          intro d hd
          unfold guardSel; rw [hg]; obtain ⟨j, w⟩ := g; simp only at hd ⊢; rw [hd]
        cases hd : (ops[g.1]?).bind (·.dst) with
        | none =>
          simp only [runOps, guardSel, hg]
          obtain ⟨j, w⟩ := g
          simp only at hd ⊢
          rw [hd]
          simp only [Option.bind_some]
          exact ih _ _ _ _ _ _ hr
        | some d =>
          simp only
          cases hm : loneMove (grp d g (o :: r)) o with
          | some x =>
            simp only [runOps]
            have hm' : moveOf o.op = some x := by
              unfold loneMove at hm; split at hm
              · exact hm
              · cases hm
            rw [step d hd, exec1_move P C o _ t H n x hm', gsel_some (t d) g.2 (fun v => (putO t o.dst v, H, n)) (ev t x) (.tuple #[]), Option.bind_some]
            exact ih _ _ _ _ _ _ hr
          | none =>
            simp only
            cases hgr : grp d g (o :: r) with
            | zero =>
              simp only [runOps]
              rw [step d hd, exec1K_some]
              cases gsel (t d) g.2 (exec1 P C o (n0 + i) t H n) (some (putO t o.dst (.tuple #[]), H, n)) with
              | none => rfl
              | some q => simp only [Option.bind_some]; exact ih _ _ _ _ _ _ hr
            | succ m =>
              simp only
              have hs := grp_spec d g (o :: r)
              rw [hgr] at hs
              have happ : runOps P C ops n0 (o :: r) i t H n = runOps P C ops n0 ((o :: r).take (m + 1) ++ (o :: r).drop (m + 1)) i t H n := by rw [List.take_append_drop]
              rw [happ, runOps_group P C ops n0 d g hd _ _ i t H n hs]
              have e1 : (runU P C n0 ((o :: r).take (m + 1)) i t H n fun t H n => some (t, H, n)) = runUd P C n0 ((o :: r).take (m + 1)) i t H n := by
                rw [runU_eq]; cases runUd P C n0 ((o :: r).take (m + 1)) i t H n <;> rfl
              rw [e1]
              have hlen : ((o :: r).take (m + 1)).length = m + 1 := by
                have : grp d g (o :: r) ≤ (o :: r).length := by
                  clear hgr hs happ e1 hl hm
                  generalize o :: r = l
                  induction l with
                  | nil => simp [grp]
                  | cons x l ihl => unfold grp; split <;> simp <;> omega
                rw [List.length_take]; omega
              rw [hlen]
              cases gsel (t d) g.2 (runUd P C n0 ((o :: r).take (m + 1)) i t H n) (some (undefs ((o :: r).take (m + 1)) t, H, n)) with
              | none => rfl
              | some q => simp only [Option.bind_some]; exact ih _ _ _ _ _ _ (by rw [List.length_drop]; simp only [List.length_cons]; omega)

/-! Regions that draw. -/
noncomputable abbrev draw1K (P : Program) (C : Calling) (m : Nat) (o : Oper) (i id : Nat) (q : R5) (k : R5 → Option α) : Option α :=
  match loadOf o.op with
  | some (ty, a) =>
    optK (tab P ty) fun ti => (ld ti.agg ti.size (ev q.t a) q.H).bind fun v =>
      askB m ti.agg ti.size (ev q.t a) v q.hs (k ⟨putO q.t o.dst v, q.H, q.n, ⟨i, ti.agg, ti.size, ev q.t a, v⟩ :: q.rs, q.hs⟩)
  | none =>
    exec1K P C o id q.t q.H q.n fun t H n =>
      if cls P o == 3 then asks m H q.rs (k ⟨t, H, n, q.rs, (i, q.H) :: q.hs⟩)
      else k ⟨t, H, n, q.rs, q.hs⟩

theorem ask_bind {β : Type} (p : Prop) (x : Option β) (k : β → Option α) : (ask p x).bind k = ask p (x.bind k) := by
  unfold ask; split <;> rfl
theorem asks_bind {β : Type} (m : Nat) (H : Hp) (rs : List Rd) (x : Option β) (k : β → Option α) : (asks m H rs x).bind k = asks m H rs (x.bind k) := by
  induction rs with
  | nil => rfl
  | cons r rs ih =>
    unfold asks
    split
    · exact ih
    · rw [ask_bind, ih]
theorem askB_bind {β : Type} (m : Nat) (agg : Bool) (sz : Nat) (a v : Value) (hs : List (Nat × Hp)) (x : Option β) (k : β → Option α) : (askB m agg sz a v hs x).bind k = askB m agg sz a v hs (x.bind k) := by
  induction hs with
  | nil => rfl
  | cons r rs ih =>
    unfold askB
    split
    · exact ih
    · rw [ask_bind, ih]

theorem draw1K_eq (P : Program) (C : Calling) (m : Nat) (o : Oper) (i id : Nat) (q : R5) (k : R5 → Option α) : draw1K P C m o i id q k = (draw1 P C m o i id q).bind k := by
  unfold draw1K draw1
  cases loadOf o.op with
  | some p =>
    obtain ⟨ty, a⟩ := p
    simp only
    rw [optK_eq]
    cases tab P ty with
    | none => rfl
    | some ti =>
      simp only [Option.bind_some]
      cases ld ti.agg ti.size (ev q.t a) q.H with
      | none => rfl
      | some v => simp only [Option.bind_some, askB_bind]
  | none =>
    simp only
    rw [exec1K_eq]
    cases exec1 P C o id q.t q.H q.n with
    | none => rfl
    | some p =>
      simp only [Option.bind_some]
      split
      · simp only [asks_bind, Option.bind_some]
      · rfl

noncomputable def runDU (P : Program) (C : Calling) (b : List Nat) (n0 : Nat) : List Oper → Nat → R5 → (R5 → Option α) → Option α
  | [], _, q, k => k q
  | o :: r, i, q, k => draw1K P C (b.getD i 0) o i (n0 + i) q fun q => runDU P C b n0 r (i + 1) q k

noncomputable def runDrawK (P : Program) (C : Calling) (ops : List Oper) (b : List Nat) (n0 : Nat) : Nat → List Oper → Nat → R5 → (R5 → Option α) → Option α
  | 0, _, _, q, k => k q
  | _ + 1, [], _, q, k => k q
  | f + 1, o :: r, i, q, k =>
    match o.guard with
    | none => draw1K P C (b.getD i 0) o i (n0 + i) q fun q => runDrawK P C ops b n0 f r (i + 1) q k
    | some g =>
      match (ops[g.1]?).bind (·.dst) with
      | some d =>
        match loneMove (grp d g (o :: r)) o with
        | some x => runDrawK P C ops b n0 f r (i + 1) { q with t := putO q.t o.dst (gsel (q.t d) g.2 (ev q.t x) (.tuple #[])) } k
        | none =>
          match grp d g (o :: r) with
          | 0 => (gsel (q.t d) g.2 (draw1K P C (b.getD i 0) o i (n0 + i) q some) (some { q with t := putO q.t o.dst (.tuple #[]) })).bind fun q => runDrawK P C ops b n0 f r (i + 1) q k
          | m + 1 => (gsel (q.t d) g.2 (runDU P C b n0 ((o :: r).take (m + 1)) i q some) (some { q with t := undefs ((o :: r).take (m + 1)) q.t })).bind fun q => runDrawK P C ops b n0 f ((o :: r).drop (m + 1)) (i + (m + 1)) q k
      | none => runDrawK P C ops b n0 f r (i + 1) { q with t := putO q.t o.dst (.tuple #[]) } k

theorem draw1K_some (P : Program) (C : Calling) (m : Nat) (o : Oper) (i id : Nat) (q : R5) : draw1K P C m o i id q some = draw1 P C m o i id q := by
  rw [draw1K_eq]; cases draw1 P C m o i id q <;> rfl

theorem draw1_move (P : Program) (C : Calling) (m : Nat) (o : Oper) (i id : Nat) (q : R5) (x : Operand) (h : moveOf o.op = some x) : draw1 P C m o i id q = some { q with t := putO q.t o.dst (ev q.t x) } := by
  have e := exec1_move P C o id q.t q.H q.n x h
  unfold moveOf at h
  unfold draw1 loadOf
  have c : (cls P o == 3) = false := by unfold cls; split at h <;> simp_all
  split at h
  · rename_i ho; simp only [ho, e, c]; rfl
  · rename_i ho; simp only [ho, e, c]; rfl
  · cases h

noncomputable def runDUd (P : Program) (C : Calling) (b : List Nat) (n0 : Nat) : List Oper → Nat → R5 → Option R5
  | [], _, q => some q
  | o :: r, i, q => (draw1 P C (b.getD i 0) o i (n0 + i) q).bind fun q => runDUd P C b n0 r (i + 1) q
theorem runDU_eq (P : Program) (C : Calling) (b : List Nat) (n0 : Nat) : ∀ (l : List Oper) (i : Nat) (q : R5) (k : R5 → Option α), runDU P C b n0 l i q k = (runDUd P C b n0 l i q).bind k := by
  intro l
  induction l with
  | nil => intros; rfl
  | cons o r ih =>
    intro i q k
    simp only [runDU, runDUd]
    rw [draw1K_eq]
    cases draw1 P C (b.getD i 0) o i (n0 + i) q with
    | none => rfl
    | some q => simp only [Option.bind_some]; exact ih ..
theorem ask_some {p : Prop} {β : Type} {x : Option β} {r : β} (h : ask p x = some r) : p ∧ x = some r := by
  unfold ask at h; split at h
  · exact ⟨by assumption, h⟩
  · cases h
theorem asks_some {m : Nat} {H : Hp} {rs : List Rd} {β : Type} {x : Option β} {r : β} (h : asks m H rs x = some r) : (∀ d ∈ rs, m.testBit d.i = true ∨ ld d.agg d.sz d.a H = some d.v) ∧ x = some r := by
  induction rs with
  | nil => exact ⟨by simp, h⟩
  | cons d rs ih =>
    unfold asks at h
    split at h
    · rename_i hb
      obtain ⟨h1, h2⟩ := ih h
      exact ⟨fun e he => by rcases List.mem_cons.1 he with rfl | he; exact .inl hb; exact h1 e he, h2⟩
    · obtain ⟨hp, h⟩ := ask_some h
      obtain ⟨h1, h2⟩ := ih h
      exact ⟨fun e he => by rcases List.mem_cons.1 he with rfl | he; exact .inr hp; exact h1 e he, h2⟩
theorem askB_some {m : Nat} {agg : Bool} {sz : Nat} {a v : Value} {hs : List (Nat × Hp)} {β : Type} {x : Option β} {r : β} (h : askB m agg sz a v hs x = some r) : (∀ d ∈ hs, m.testBit d.1 = true ∨ ld agg sz a d.2 = some v) ∧ x = some r := by
  induction hs with
  | nil => exact ⟨by simp, h⟩
  | cons d hs ih =>
    unfold askB at h
    split at h
    · rename_i hb
      obtain ⟨h1, h2⟩ := ih h
      exact ⟨fun e he => by rcases List.mem_cons.1 he with rfl | he; exact .inl hb; exact h1 e he, h2⟩
    · obtain ⟨hp, h⟩ := ask_some h
      obtain ⟨h1, h2⟩ := ih h
      exact ⟨fun e he => by rcases List.mem_cons.1 he with rfl | he; exact .inr hp; exact h1 e he, h2⟩
theorem draw1_keeps {P : Program} {C : Calling} {m : Nat} {o : Oper} {i id : Nat} {q r : R5} (h : draw1 P C m o i id q = some r) (e : Nat) (he : o.dst ≠ some e) : r.t e = q.t e := by
  unfold draw1 at h
  cases hl : loadOf o.op with
  | some p =>
    rw [hl] at h
    simp only [Option.bind_eq_some_iff] at h
    obtain ⟨ti, _, v, _, h⟩ := h
    have := (askB_some h).2
    cases this
    exact put_ne _ _ _ _ he
  | none =>
    rw [hl] at h
    simp only [Option.bind_eq_some_iff] at h
    obtain ⟨p, hp, h⟩ := h
    split at h
    · have := (asks_some h).2
      cases this
      exact exec1_keeps hp e he
    · cases h; exact exec1_keeps hp e he
theorem runDraw_group (P : Program) (C : Calling) (ops : List Oper) (b : List Nat) (n0 d : Nat) (g : Nat × Bool) (hd : (ops[g.1]?).bind (·.dst) = some d) (l2 : List Oper) : ∀ (l1 : List Oper) (i : Nat) (q : R5),
    (∀ o ∈ l1, o.guard = some g ∧ o.dst ≠ some d) →
    runDraw P C ops b n0 (l1 ++ l2) i q = (gsel (q.t d) g.2 (runDUd P C b n0 l1 i q) (some { q with t := undefs l1 q.t })).bind fun q => runDraw P C ops b n0 l2 (i + l1.length) q := by
  intro l1
  induction l1 with
  | nil =>
    intro i q _
    simp only [List.nil_append, runDUd, undefs, List.length_nil, Nat.add_zero]
    unfold gsel
    split
    · split <;> rfl
    · rfl
  | cons o l1 ih =>
    intro i q hg
    have ho := hg o (List.mem_cons_self ..)
    have hl := fun x hx => hg x (List.mem_cons_of_mem _ hx)
    simp only [List.cons_append, runDraw, runDUd, undefs, List.length_cons]
    have e : guardSel ops q.t o (draw1 P C (b.getD i 0) o i (n0 + i) q) (some { q with t := putO q.t o.dst (.tuple #[]) }) = gsel (q.t d) g.2 (draw1 P C (b.getD i 0) o i (n0 + i) q) (some { q with t := putO q.t o.dst (.tuple #[]) }) := by
      unfold guardSel; rw [ho.1]; obtain ⟨j, w⟩ := g; simp only at hd ⊢; rw [hd]
    rw [e]
    have e2 : i + (l1.length + 1) = i + 1 + l1.length := by omega
    rw [e2]
    unfold gsel
    split
    · rename_i c hb
      split
      · rename_i hw
        cases hx : draw1 P C (b.getD i 0) o i (n0 + i) q with
        | none => rfl
        | some q' =>
          simp only [Option.bind_some]
          rw [ih _ _ hl, draw1_keeps hx d ho.2, hb]
          simp only [gsel, hw, if_true]
      · rename_i hw
        simp only [Option.bind_some]
        rw [ih _ _ hl]
        show Option.bind (gsel (putO q.t o.dst (.tuple #[]) d) _ _ _) _ = _
        rw [put_ne _ _ _ _ ho.2, hb]
        simp only [gsel, hw, if_false, Option.bind_some]
    · rename_i hb
      simp only [Option.bind_some]
      rw [ih _ _ hl]
      show Option.bind (gsel (putO q.t o.dst (.tuple #[]) d) _ _ _) _ = _
      rw [put_ne _ _ _ _ ho.2]
      unfold gsel
      split
      · rename_i c hb'; exact absurd hb' (hb c)
      · rfl
theorem grp_le (d : Nat) (g : Nat × Bool) (l : List Oper) : grp d g l ≤ l.length := by
  induction l with
  | nil => simp [grp]
  | cons x l ihl => unfold grp; split <;> simp <;> omega

theorem runDrawK_eq (P : Program) (C : Calling) (ops : List Oper) (b : List Nat) (n0 : Nat) : ∀ (f : Nat) (l : List Oper) (i : Nat) (q : R5) (k : R5 → Option α), l.length ≤ f →
    runDrawK P C ops b n0 f l i q k = (runDraw P C ops b n0 l i q).bind k := by
  intro f
  induction f with
  | zero =>
    intro l i q k hl
    have : l = [] := List.length_eq_zero_iff.1 (by omega)
    subst this; rfl
  | succ f ih =>
    intro l i q k hl
    cases l with
    | nil => rfl
    | cons o r =>
      have hr : r.length ≤ f := by simpa using hl
      unfold runDrawK
      cases hg : o.guard with
      | none =>
        simp only [runDraw, guardSel, hg]
        rw [draw1K_eq]
        cases draw1 P C (b.getD i 0) o i (n0 + i) q with
        | none => rfl
        | some q => simp only [Option.bind_some]; exact ih _ _ _ _ hr
      | some g =>
        simp only
        have step : ∀ d, (ops[g.1]?).bind (·.dst) = some d → guardSel ops q.t o (draw1 P C (b.getD i 0) o i (n0 + i) q) (some { q with t := putO q.t o.dst (.tuple #[]) }) = gsel (q.t d) g.2 (draw1 P C (b.getD i 0) o i (n0 + i) q) (some { q with t := putO q.t o.dst (.tuple #[]) }) := by
          intro d hd
          unfold guardSel; rw [hg]; obtain ⟨j, w⟩ := g; simp only at hd ⊢; rw [hd]
        cases hd : (ops[g.1]?).bind (·.dst) with
        | none =>
          simp only [runDraw, guardSel, hg]
          obtain ⟨j, w⟩ := g
          simp only at hd ⊢
          rw [hd]
          simp only [Option.bind_some]
          exact ih _ _ _ _ hr
        | some d =>
          simp only
          cases hm : loneMove (grp d g (o :: r)) o with
          | some x =>
            simp only [runDraw]
            have hm' : moveOf o.op = some x := by
              unfold loneMove at hm; split at hm
              · exact hm
              · cases hm
            rw [step d hd, draw1_move P C _ o i _ q x hm', gsel_some (q.t d) g.2 (fun v => ({ q with t := putO q.t o.dst v } : R5)) (ev q.t x) (.tuple #[]), Option.bind_some]
            exact ih _ _ _ _ hr
          | none =>
            simp only
            cases hgr : grp d g (o :: r) with
            | zero =>
              simp only [runDraw]
              rw [step d hd, draw1K_some]
              cases gsel (q.t d) g.2 (draw1 P C (b.getD i 0) o i (n0 + i) q) (some { q with t := putO q.t o.dst (.tuple #[]) }) with
              | none => rfl
              | some q => simp only [Option.bind_some]; exact ih _ _ _ _ hr
            | succ m =>
              simp only
              have hs := grp_spec d g (o :: r)
              have hle := grp_le d g (o :: r)
              rw [hgr] at hs hle
              have happ : runDraw P C ops b n0 (o :: r) i q = runDraw P C ops b n0 ((o :: r).take (m + 1) ++ (o :: r).drop (m + 1)) i q := by rw [List.take_append_drop]
              rw [happ, runDraw_group P C ops b n0 d g hd _ _ i q hs]
              have e1 : (runDU P C b n0 ((o :: r).take (m + 1)) i q some) = runDUd P C b n0 ((o :: r).take (m + 1)) i q := by
                rw [runDU_eq]; cases runDUd P C b n0 ((o :: r).take (m + 1)) i q <;> rfl
              rw [e1]
              have hlen : ((o :: r).take (m + 1)).length = m + 1 := by rw [List.length_take]; omega
              rw [hlen]
              cases gsel (q.t d) g.2 (runDUd P C b n0 ((o :: r).take (m + 1)) i q) (some { q with t := undefs ((o :: r).take (m + 1)) q.t }) with
              | none => rfl
              | some q => simp only [Option.bind_some]; exact ih _ _ _ _ (by rw [List.length_drop]; simp only [List.length_cons]; omega)

noncomputable abbrev regionK (P : Program) (C : Calling) (ops : List Oper) (draw : Bool) (t : Tm) (H : Hp) (n : Nat) (k : Tm → Hp → Nat → Option α) : Option α :=
  iteK (ops.all opsOk)
    (match draw with
     | true => iteK (drawOk P ops) (runDrawK P C ops (befs ops []) n ops.length ops 0 ⟨t, H, n + ops.length, [], []⟩ fun q => k q.t q.H q.n)
     | false => runOpsK P C ops n ops.length ops 0 t H (n + ops.length) k)

theorem regionK_eq (P : Program) (C : Calling) (ops : List Oper) (draw : Bool) (t : Tm) (H : Hp) (n : Nat) (k : Tm → Hp → Nat → Option α) :
    regionK P C ops draw t H n k = (region P C ops draw t H n).bind fun q => k q.1 q.2.1 q.2.2 := by
  unfold regionK region
  rw [iteK_eq]
  split
  · cases draw with
    | false => simp only [Bool.false_eq_true, if_false]; exact runOpsK_eq _ _ _ _ _ _ _ _ _ _ _ (Nat.le_refl _)
    | true =>
      simp only [if_true]
      rw [iteK_eq]
      split
      · rw [runDrawK_eq _ _ _ _ _ _ _ _ _ _ (Nat.le_refl _)]
        cases runDraw P C ops (befs ops []) n ops 0 ⟨t, H, n + ops.length, [], []⟩ <;> rfl
      · rfl
  · rfl

end

/-! Code. What ways there are through it decides where they meet. -/
def exitsTo (id : Nat) : Code → Bool
  | .exit j => j == id
  | .seq a b => exitsTo id a || exitsTo id b
  | .cond _ x y => exitsTo id x || exitsTo id y
  | .block _ c => exitsTo id c
  | .loop c => exitsTo id c
  | _ => false
def falls : Code → Bool
  | .skip => true
  | .region _ _ _ => true
  | .seq a b => falls a && falls b
  | .cond _ x y => falls x || falls y
  | .block id c => falls c || exitsTo id c
  | _ => false
def cnt (id : Nat) : Code → Nat
  | .exit j => if j = id then 1 else 0
  | .seq a b => cnt id a + cnt id b
  | .cond _ x y => cnt id x + cnt id y
  | .block _ c => cnt id c
  | .loop c => cnt id c
  | _ => 0
def noEsc : List Nat → Code → Bool
  | _, .skip => true
  | _, .region _ _ _ => true
  | ids, .seq a b => noEsc ids a && noEsc ids b
  | ids, .cond _ x y => noEsc ids x && noEsc ids y
  | ids, .block j c => noEsc (j :: ids) c
  | ids, .loop c => noEsc ids c
  | ids, .exit j => ids.contains j
  | _, _ => false
/-- A block whose ways meet at its end. -/
def meets (id : Nat) (c : Code) : Bool := decide (2 ≤ cnt id c + (if falls c then 1 else 0))

abbrev normK {α : Type} (nx : Bool) (k : Out → Option α) (o : Out) : Option α :=
  match nx with
  | true => k ⟨.normal, o.t, o.H, o.n⟩
  | false => k o
abbrev condK {α : Type} (b : Bool) (x y : Option α) : Option α :=
  match b with
  | true => x
  | false => y

/-- What follows a piece of code that may have been left. -/
abbrev thenK {α : Type} (o : Out) (x y : Option α) : Option α :=
  match o.e with
  | .normal => x
  | _ => y

noncomputable def codeK (P : Program) (C : Calling) (Lp : Body → Body) : Code → (α : Type) → Tm → Hp → Nat → (Out → Option α) → Option α
  | .skip, _, t, H, n, k => k ⟨.normal, t, H, n⟩
  | .region _ ops draw, _, t, H, n, k => regionK P C ops.toList draw t H n fun t H n => k ⟨.normal, t, H, n⟩
  | .seq a b, α, t, H, n, k => codeK P C Lp a α t H n fun o => thenK o (codeK P C Lp b α o.t o.H o.n k) (k o)
  | .cond c x y, α, t, H, n, k =>
      condK (falls x && falls y)
        ((csel (ev t c) (codeK P C Lp x Out t H n some) (codeK P C Lp y Out t H n some)).bind (normK (noEsc [] x && noEsc [] y) k))
        (csel (ev t c) (codeK P C Lp x α t H n k) (codeK P C Lp y α t H n k))
  | .block id (.loop c), _, t, H, n, k => (Lp (fun t H n => codeK P C Lp c Out t H n some) t H n).bind (normK (noEsc [id] c) fun o => k (outOf id o))
  | .block id c, α, t, H, n, k =>
      condK (meets id c)
        ((codeK P C Lp c Out t H n some).bind (normK (noEsc [id] c) fun o => k (outOf id o)))
        (codeK P C Lp c α t H n fun o => k (outOf id o))
  | .loop c, _, t, H, n, k => (Lp (fun t H n => codeK P C Lp c Out t H n some) t H n).bind k
  | .exit id, _, t, H, n, k => k ⟨.exit id, t, H, n⟩
  | .ret, _, t, H, n, k => k ⟨.ret, t, H, n⟩
  | _, _, _, _, _, _ => none

/-- What a loop comes to, one of its rounds comes to, and that is an exit. -/
def LpOk (Lp : Body → Body) : Prop := ∀ φ t H n o, Lp φ t H n = some o → o.e ≠ .normal ∧ ∃ t' H' n', φ t' H' n' = some o

def within (ids : List Nat) : Ex → Prop
  | .normal => True
  | .exit j => j ∈ ids
  | .ret => False

theorem noEsc_within (P : Program) (C : Calling) (Lp : Body → Body) (hL : LpOk Lp) (c : Code) : ∀ (ids : List Nat), noEsc ids c = true → ∀ (t : Tm) (H : Hp) (n : Nat) (o : Out), code P C Lp c t H n = some o → within ids o.e := by
  induction c with
  | skip => intro ids _ t H n o h; simp only [code, Option.some.injEq] at h; subst h; trivial
  | region id ops d =>
    intro ids _ t H n o h
    simp only [code, Option.bind_eq_some_iff, Option.some.injEq] at h
    obtain ⟨q, _, rfl⟩ := h; trivial
  | seq a b iha ihb =>
    intro ids hc t H n o h
    simp only [noEsc, Bool.and_eq_true] at hc
    simp only [code, Option.bind_eq_some_iff] at h
    obtain ⟨o1, h1, h2⟩ := h
    unfold thenO at h2
    split at h2
    · exact ihb ids hc.2 _ _ _ _ h2
    · cases h2; exact iha ids hc.1 _ _ _ _ h1
  | cond c x y ihx ihy =>
    intro ids hc t H n o h
    simp only [noEsc, Bool.and_eq_true] at hc
    simp only [code, csel] at h
    split at h
    · split at h
      · exact ihx ids hc.1 _ _ _ _ h
      · exact ihy ids hc.2 _ _ _ _ h
    · cases h
  | block id c ih =>
    intro ids hc t H n o h
    simp only [noEsc] at hc
    simp only [code, Option.bind_eq_some_iff, Option.some.injEq] at h
    obtain ⟨o1, h1, rfl⟩ := h
    have := ih _ hc _ _ _ _ h1
    unfold outOf
    revert this
    obtain ⟨e, t1, H1, n1⟩ := o1
    cases e with
    | normal => intro; trivial
    | ret => intro h; exact h
    | exit j =>
      intro hj
      simp only
      split
      · trivial
      · simp only [within, List.mem_cons] at hj ⊢
        exact hj.resolve_left (by assumption)
  | loop c ih =>
    intro ids hc t H n o h
    simp only [noEsc] at hc
    simp only [code] at h
    obtain ⟨_, t', H', n', h'⟩ := hL _ _ _ _ _ h
    exact ih ids hc _ _ _ _ h'
  | exit id =>
    intro ids hc t H n o h
    simp only [code, Option.some.injEq] at h
    subst h
    simpa [noEsc, within] using hc
  | ret => intro ids hc; simp [noEsc] at hc
  | _ => intro ids hc; simp [noEsc] at hc

theorem csel_bind {α β : Type} (v : Value) (A B : Option β) (k : β → Option α) : (csel v A B).bind k = csel v (A.bind k) (B.bind k) := by
  unfold csel; split
  · split <;> rfl
  · rfl

theorem norm_of {P : Program} {C : Calling} {Lp : Body → Body} (hL : LpOk Lp) {c : Code} {α : Type} {id : Nat} {t : Tm} {H : Hp} {n : Nat} (k : Out → Option α) :
    (code P C Lp c t H n).bind (normK (noEsc [id] c) fun o => k (outOf id o)) = (code P C Lp c t H n).bind fun o => k (outOf id o) := by
  cases hc : code P C Lp c t H n with
  | none => rfl
  | some o =>
    simp only [Option.bind_some]
    cases hb : noEsc [id] c with
    | false => rfl
    | true =>
      have := noEsc_within P C Lp hL c [id] hb t H n o hc
      revert this
      obtain ⟨e, t1, H1, n1⟩ := o
      cases e with
      | normal => intro; rfl
      | ret => intro h; exact h.elim
      | exit j =>
        intro hj
        simp only [within, List.mem_singleton] at hj
        subst hj
        simp [normK, outOf]

theorem codeK_eq (P : Program) (C : Calling) (Lp : Body → Body) (hL : LpOk Lp) (c : Code) : ∀ {α : Type} (t : Tm) (H : Hp) (n : Nat) (k : Out → Option α),
    codeK P C Lp c α t H n k = (code P C Lp c t H n).bind k := by
  induction c with
  | region id ops d =>
    intro α t H n k
    simp only [codeK, code]
    rw [regionK_eq]
    cases region P C ops.toList d t H n <;> rfl
  | seq a b iha ihb =>
    intro α t H n k
    simp only [codeK, code]
    rw [iha]
    cases code P C Lp a t H n with
    | none => rfl
    | some o =>
      simp only [Option.bind_some, thenO, thenK]
      cases o.e with
      | normal => simp only; exact ihb ..
      | exit id => rfl
      | ret => rfl
  | cond c x y ihx ihy =>
    intro α t H n k
    simp only [codeK, code]
    have ex : codeK P C Lp x Out t H n some = code P C Lp x t H n := by rw [ihx]; cases code P C Lp x t H n <;> rfl
    have ey : codeK P C Lp y Out t H n some = code P C Lp y t H n := by rw [ihy]; cases code P C Lp y t H n <;> rfl
    cases falls x && falls y with
    | false => simp only [condK]; rw [ihx, ihy, csel_bind]
    | true =>
      simp only [condK]
      rw [ex, ey]
      cases hb : noEsc [] x && noEsc [] y with
      | false => rfl
      | true =>
        rw [csel_bind, csel_bind]
        simp only [Bool.and_eq_true] at hb
        have nx : ∀ z, noEsc [] z = true → (code P C Lp z t H n).bind (normK true k) = (code P C Lp z t H n).bind k := by
          intro z hz
          cases hc : code P C Lp z t H n with
          | none => rfl
          | some o =>
            have := noEsc_within P C Lp hL z [] hz t H n o hc
            revert this
            obtain ⟨e, t1, H1, n1⟩ := o
            cases e with
            | normal => intro; rfl
            | ret => intro h; exact h.elim
            | exit j => intro h; simp [within] at h
        rw [nx x hb.1, nx y hb.2]
  | block id c ih =>
    intro α t H n k
    have e : ∀ t H n, codeK P C Lp c Out t H n some = code P C Lp c t H n := by intro t H n; rw [ih]; cases code P C Lp c t H n <;> rfl
    have fin : (code P C Lp (.block id c) t H n).bind k = (code P C Lp c t H n).bind fun o => k (outOf id o) := by
      simp only [code]; cases code P C Lp c t H n <;> rfl
    rw [fin]
    have gen : condK (meets id c) ((codeK P C Lp c Out t H n some).bind (normK (noEsc [id] c) fun o => k (outOf id o))) (codeK P C Lp c α t H n fun o => k (outOf id o)) = (code P C Lp c t H n).bind fun o => k (outOf id o) := by
      cases meets id c with
      | true => simp only [condK]; rw [e, norm_of hL]
      | false => simp only [condK]; rw [ih]
    cases c with
    | loop b =>
      simp only [codeK]
      have h1 := e t H n
      simp only [codeK] at h1
      have h2 : Lp (fun t H n => codeK P C Lp b Out t H n some) t H n = code P C Lp (.loop b) t H n := by
        rw [← h1]; cases Lp (fun t H n => codeK P C Lp b Out t H n some) t H n <;> rfl
      rw [h2]
      exact norm_of (c := .loop b) hL k
    | _ => exact gen
  | loop c ih =>
    intro α t H n k
    simp only [codeK, code]
    have e : (fun t H n => codeK P C Lp c Out t H n some) = code P C Lp c := by
      funext t H n; rw [ih]; cases code P C Lp c t H n <;> rfl
    rw [e]
  | skip => intros; rfl
  | exit id => intros; rfl
  | ret => intros; rfl
  | _ => intros; rfl

/-! What a function hands back. -/
def resLK {α : Type} (P : Program) (t : Tm) (H : Hp) : List ResultVar → (List Value → Option α) → Option α
  | [], k => k []
  | .tmp i :: rs, k => resLK P t H rs fun l => k (t i :: l)
  | .cell a ty :: rs, k => optK (tab P ty) fun ti => (ld ti.agg ti.size (t a) H).bind fun v => resLK P t H rs fun l => k (v :: l)
theorem resLK_eq {α : Type} (P : Program) (t : Tm) (H : Hp) (rs : List ResultVar) : ∀ (k : List Value → Option α), resLK P t H rs k = (resL P t H rs).bind k := by
  induction rs with
  | nil => intro k; rfl
  | cons r rs ih =>
    intro k
    cases r with
    | tmp i =>
      simp only [resLK, resL, resV, Option.bind_some]
      rw [ih]; cases resL P t H rs <;> rfl
    | cell a ty =>
      simp only [resLK, resL, resV, optK_eq]
      cases tab P ty with
      | none => rfl
      | some ti =>
        simp only [Option.bind_some]
        cases ld ti.agg ti.size (t a) H with
        | none => rfl
        | some v =>
          simp only [Option.bind_some]
          rw [ih]; cases resL P t H rs <;> rfl
abbrev finE {α : Type} (e : Ex) (x : Option α) : Option α :=
  match e with
  | .exit _ => none
  | _ => x
abbrev finishK (P : Program) (rs : List ResultVar) (o : Out) : Option (Value × Hp × Nat) :=
  finE o.e (resLK P o.t o.H rs fun l => outV l o.H o.n)
theorem finishK_eq (P : Program) (rs : List ResultVar) (o : Out) : finishK P rs o = finish P rs o := by
  unfold finishK finish finE
  cases o.e with
  | exit id => rfl
  | normal => simp only; rw [resLK_eq]
  | ret => simp only; rw [resLK_eq]

noncomputable abbrev bodyK (P : Program) (C : Calling) (Lp : Body → Body) (fn : Func) (t : Tm) (H : Hp) (n : Nat) : Option (Value × Hp × Nat) :=
  match fn.body with
  | none => none
  | some c => iteK (codeOk fn.ntmps c && !(fn.name == "runtime.NumGoroutine")) (codeK P C Lp c (Value × Hp × Nat) t H n (finishK P fn.results.toList))
theorem bodyK_eq (P : Program) (C : Calling) (Lp : Body → Body) (hL : LpOk Lp) (fn : Func) (args : List Value) (H : Hp) (n : Nat) : bodyK P C Lp fn (argsT args) H n = body P C Lp fn args H n := by
  unfold bodyK body
  cases fn.body with
  | none => rfl
  | some c =>
    simp only [iteK_eq, Bool.and_eq_true, Bool.not_eq_true']
    split
    · rw [codeK_eq P C Lp hL]
      congr 1
      funext o
      exact finishK_eq ..
    · rfl

end Go.Proofs.Ytdnokdgkccnbnaa.Ax
