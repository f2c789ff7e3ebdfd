/- An abstract machine for the operations that this program uses: blocks have abstract numbers, a row has just its elements, an append moves its row to a new number, and a region is gone through in the text's order. This text only defines it. -/
import Derived.Calls
import Derived.Orders
import Derived.Laws.StructEq
import Derived.KernelRfl
set_option linter.unusedSimpArgs false
set_option linter.unusedVariables false
namespace Go.Proofs.Ytdnokdgkccnbnaa.Ax
open Go

/-! ### Types -/
structure TI where
  desc : TypeDesc
  size : Nat
  bytes : Nat
  zero : List Value
  agg : Bool

def aggDesc : TypeDesc → Bool
  | .struct _ => true
  | .array _ _ => true
  | _ => false

def tab (P : Program) (t : TypeId) : Option TI :=
  (P.info? t).bind fun i => (P.underlying t).bind fun d => i.zero.bind fun z => some ⟨d, i.size, i.bytes, z.cells.toList, aggDesc d⟩

def dsc (P : Program) (t : TypeId) : Option TypeDesc := (tab P t).map TI.desc

/-! ### Memory -/
inductive Obj where
  | row (cells : List Value) (esz : Nat) (rw : Bool)
  | map (es : List (Value × Value))

abbrev Hp := Nat → Option Obj
abbrev Tm := Nat → Value

def Hp.set (H : Hp) (i : Nat) (o : Option Obj) : Hp := fun j => if j = i then o else H j
def put (t : Tm) (d : Nat) (v : Value) : Tm := fun i => if i = d then v else t i
abbrev putO (t : Tm) (d : Option Nat) (v : Value) : Tm :=
  match d with
  | some d => put t d v
  | none => t

abbrev ptr (i o : Nat) : Value := .pointer (some ⟨i, o, none⟩)
abbrev sl (i o n : Nat) : Value := .slice (some ⟨i, o, none⟩) n 0
abbrev nilS : Value := .slice none 0 0
/-- An empty slice that is not nil, of whose room nothing is known. -/
abbrev emptyS : Value := .slice (some ⟨0, 0, some 0⟩) 0 0

def gnd1 : Value → Bool
  | .bool _ | .int _ _ | .string _ | .pointer none | .slice none 0 0 | .nilFunc => true
  | _ => false

/-- The cells of a value; none of a tuple. -/
def vcells : Value → Option (List Value)
  | .tuple _ => none
  | .agg cs => some cs.toList
  | v => some [v]

def setAt (cs : List Value) (o : Nat) (vs : List Value) : List Value := cs.take o ++ vs ++ cs.drop (o + vs.length)

def cellsAt (a : Value) (H : Hp) : Option (List Value × Nat) :=
  match a with
  | .pointer (some ⟨i, o, none⟩) =>
    match H i with
    | some (.row cs _ _) => some (cs, o)
    | _ => none
  | _ => none

def ldc (a : Value) (H : Hp) : Option Value := (cellsAt a H).bind fun p => p.1[p.2]?
def lda (sz : Nat) (a : Value) (H : Hp) : Option Value :=
  (cellsAt a H).bind fun p => if p.2 + sz ≤ p.1.length then some (.agg ⟨(p.1.drop p.2).take sz⟩) else none
def ld (agg : Bool) (sz : Nat) (a : Value) (H : Hp) : Option Value := if agg then lda sz a H else ldc a H

def stv (a : Value) (vs : List Value) (H : Hp) : Option Hp :=
  match a with
  | .pointer (some ⟨i, o, none⟩) =>
    match H i with
    | some (.row cs e true) => if o + vs.length ≤ cs.length then some (H.set i (some (.row (setAt cs o vs) e true))) else none
    | _ => none
  | _ => none
def st (agg : Bool) (sz : Nat) (a v : Value) (H : Hp) : Option Hp :=
  match agg, v with
  | true, .agg cs => if cs.toList.length = sz then stv a cs.toList H else none
  | true, _ => none
  | false, .agg _ => none
  | false, .tuple _ => none
  | false, v => if sz = 1 then stv a [v] H else none

/-- What is appended: cells, and how many elements. -/
def src (sz : Nat) (x : Value) (H : Hp) : Option (List Value × Nat) :=
  match x with
  | .slice none _ _ => some ([], 0)
  | .slice (some ⟨_, _, some _⟩) _ _ => some ([], 0)
  | .slice (some ⟨i, o, none⟩) n _ =>
    match H i with
    | some (.row cs _ _) => if o + n * sz ≤ cs.length then some ((cs.drop o).take (n * sz), n) else none
    | _ => none
  | .string s => if sz = 1 then some (s.data.toList.map fun b => .int .u8 b.toNat, s.size) else none
  | _ => none

def app (id sz bytes : Nat) (s x : Value) (H : Hp) : Option (Value × Hp) :=
  (src sz x H).bind fun p =>
    match s with
    | .slice none _ _ =>
      if p.2 = 0 then some (nilS, H)
      else if 1 ≤ bytes ∧ (2 * p.2 + 1024) * bytes ≤ 281474976710656 then some (sl id 0 p.2, H.set id (some (.row p.1 sz true)))
      else none
    | .slice (some ⟨i, 0, none⟩) n _ =>
      match H i with
      | some (.row cs e true) =>
        if e = sz ∧ n * sz ≤ cs.length ∧ 1 ≤ bytes ∧ (2 * (n + p.2) + 1024) * bytes ≤ 281474976710656 then
          some (sl id 0 (n + p.2), (H.set i none).set id (some (.row (cs.take (n * sz) ++ p.1) sz true)))
        else none
      | _ => none
    | _ => none

def mks (id sz bytes : Nat) (zero : List Value) (l c : Value) (H : Hp) : Option (Value × Hp) :=
  match l, c with
  | .int .i64 a, .int .i64 b =>
    if a = b ∧ 0 ≤ a ∧ 1 ≤ bytes ∧ a * bytes ≤ 140737488355328 ∧ zero.length = sz then
      some (sl id 0 a.toNat, H.set id (some (.row (List.replicate a.toNat zero).flatten sz true)))
    else none
  | _, _ => none

def fill (cells : List Value) : List (Nat × Nat × Value) → Option (List Value)
  | [] => some cells
  | (off, sz, v) :: rest =>
    (vcells v).bind fun vs => if vs.length = sz ∧ off + sz ≤ cells.length then fill (setAt cells off vs) rest else none

def bsl (id sz n : Nat) (zero : List Value) (parts : List (Nat × Nat × Value)) (H : Hp) : Option (Value × Hp) :=
  if n * sz ≤ 16777216 ∧ zero.length = sz then
    (fill (List.replicate n zero).flatten parts).bind fun cs => some (sl id 0 n, H.set id (some (.row cs sz true)))
  else none

def bld (zero : List Value) (parts : List (Nat × Nat × Value)) : Option Value :=
  (fill zero parts).bind fun cs => some (.agg ⟨cs⟩)

def fieldA (off : Nat) (a : Value) : Option Value :=
  match a with
  | .pointer (some ⟨i, o, none⟩) => some (ptr i (o + off))
  | _ => none

def partV (agg : Bool) (sz off : Nat) (x : Value) : Option Value :=
  match x with
  | .agg cs => if agg then (if off + sz ≤ cs.toList.length then some (.agg ⟨(cs.toList.drop off).take sz⟩) else none) else cs.toList[off]?
  | _ => none

def idxA (sz : Nat) (x i : Value) : Option Value :=
  match x, i with
  | .slice (some ⟨b, o, none⟩) n _, .int _ j => if 0 ≤ j ∧ j < n then some (ptr b (o + j.toNat * sz)) else none
  | _, _ => none

def idxS (x i : Value) : Option Value :=
  match x, i with
  | .string s, .int _ j => if 0 ≤ j ∧ j < s.size then some (.int .u8 (s.data.toList.getD j.toNat 0).toNat) else none
  | _, _ => none

def bnd (d : Nat) : Option Value → Option Nat
  | none => some d
  | some (.int _ i) => if 0 ≤ i then some i.toNat else none
  | some _ => none

def sliceV (sz : Nat) (x : Value) (lo hi : Option Value) : Option Value :=
  match x with
  | .string s => (bnd 0 lo).bind fun l => (bnd s.size hi).bind fun h => if l ≤ h ∧ h ≤ s.size ∧ sz = 0 then some (.string (s.extract l h)) else none
  | .slice none _ _ => (bnd 0 lo).bind fun l => (bnd 0 hi).bind fun h => if l ≤ h ∧ h ≤ 0 ∧ 0 < sz then some nilS else none
  | .slice (some ⟨i, o, none⟩) n _ => (bnd 0 lo).bind fun l => (bnd n hi).bind fun h =>
    if l ≤ h ∧ h ≤ n ∧ 0 < sz then (if l = h then some emptyS else some (sl i (o + l * sz) (h - l))) else none
  | .slice (some ⟨_, _, some _⟩) _ _ => (bnd 0 lo).bind fun l => (bnd 0 hi).bind fun h => if l ≤ h ∧ h ≤ 0 ∧ 0 < sz then some emptyS else none
  | _ => none

def lenV (str : Bool) (x : Value) : Option Value :=
  match str, x with
  | false, .slice _ n _ => some (.int .i64 n)
  | true, .string s => some (.int .i64 s.size)
  | _, _ => none

def ext (i : Nat) (x : Value) : Option Value :=
  match x with
  | .tuple vs => vs.toList[i]?
  | _ => none

def nilchk (x : Value) : Option Value :=
  match x with
  | .pointer (some a) => some (.pointer (some a))
  | _ => none

def pickV (c a b : Value) : Option Value :=
  match c with
  | .bool b' => some (if b' then a else b)
  | _ => none

/-! ### Operators -/
def intBin (op : BinOp) (k : IntKind) (a b : Int) : Option Value :=
  match op with
  | .add => some (.int k (k.wrap (a + b)))
  | .sub => some (.int k (k.wrap (a - b)))
  | .mul => some (.int k (k.wrap (a * b)))
  | .quo => if b = 0 then none else some (.int k (k.wrap (a.tdiv b)))
  | .rem => if b = 0 then none else some (.int k (a.tmod b))
  | .and => some (.int k (k.wrap (BitVec.ofInt k.bits a &&& BitVec.ofInt k.bits b).toNat))
  | .or => some (.int k (k.wrap (BitVec.ofInt k.bits a ||| BitVec.ofInt k.bits b).toNat))
  | .xor => some (.int k (k.wrap (BitVec.ofInt k.bits a ^^^ BitVec.ofInt k.bits b).toNat))
  | .andNot => some (.int k (k.wrap (BitVec.ofInt k.bits a &&& ~~~(BitVec.ofInt k.bits b)).toNat))
  | .eql => some (.bool (a == b))
  | .neq => some (.bool (a != b))
  | .lss => some (.bool (decide (a < b)))
  | .leq => some (.bool (decide (a ≤ b)))
  | .gtr => some (.bool (decide (a > b)))
  | .geq => some (.bool (decide (a ≥ b)))
  | _ => none

def strBin (op : BinOp) (x y : ByteArray) : Option Value :=
  match op with
  | .add => if ((x.size + y.size : Nat) : Int) ≤ 9223372036854775807 then some (.string (x ++ y)) else none
  | .eql => some (.bool (x.toList == y.toList))
  | .neq => some (.bool !(x.toList == y.toList))
  | _ => none

def shiftBin (op : BinOp) (k : IntKind) (a b : Int) : Option Value :=
  if b < 0 then none
  else match op with
  | .shl => some (.int k (k.wrap (a * 2 ^ (min b.toNat k.bits))))
  | .shr => some (.int k (a.fdiv (2 ^ (min b.toNat k.bits))))
  | _ => none

def eqc (d : TypeDesc) (x y : Value) : Option Bool :=
  match d, x, y with
  | .bool, .bool a, .bool b => some (a == b)
  | .int _, .int k a, .int k' b => if k = k' then some (a == b) else none
  | .string, .string a, .string b => some (a.toList == b.toList)
  | _, _, _ => none

def eqFs (xs ys : List Value) : List (Nat × TypeDesc) → Option Bool
  | [] => some true
  | (off, d) :: fs =>
    (xs[off]?).bind fun x => (ys[off]?).bind fun y => (eqc d x y).bind fun r => (eqFs xs ys fs).bind fun s => some (r && s)

def flatDesc : TypeDesc → Bool
  | .bool | .int _ | .string => true
  | _ => false

/-- The fields of a struct of numbers, bools and strings: where each is. -/
def flatFs (T : TypeId → Option TI) : List Field → Option (List (Nat × TypeDesc))
  | [] => some []
  | f :: fs => if f.name = "_" then none else (T f.type).bind fun ti => if flatDesc ti.desc && !ti.agg then (flatFs T fs).bind fun r => some ((f.offset, ti.desc) :: r) else none

def eqFields (P : Program) (ty : TypeId) : Option (List (Nat × TypeDesc)) :=
  (tab P ty).bind fun ti =>
    match ti.desc with
    | .struct fs => if P.eqGuardType P.depth ty = false ∧ P.stoodInHeld ty = false then flatFs (tab P) fs.toList else none
    | _ => none

def isBoolT (P : Program) (ty : TypeId) : Bool :=
  match dsc P ty with
  | some .bool => true
  | _ => false
def isSliceT (P : Program) (ty : TypeId) : Bool :=
  match dsc P ty with
  | some (.slice _) => true
  | _ => false

def eqV (op : BinOp) (r : Option Bool) : Option Value :=
  match op with
  | .eql => r.bind fun b => some (.bool b)
  | .neq => r.bind fun b => some (.bool !b)
  | _ => none

def aggEq (fs : List (Nat × TypeDesc)) (x y : Value) : Option Bool :=
  match x, y with
  | .agg xs, .agg ys => eqFs xs.toList ys.toList fs
  | _, _ => none

def isShift : BinOp → Bool
  | .shl | .shr => true
  | _ => false

/-- Of two numbers, bools or texts. -/
def bin (op : BinOp) (x y : Value) : Option Value :=
  match x, y with
  | .int k a, .int k' b => if isShift op then shiftBin op k a b else if k = k' then intBin op k a b else none
  | .string a, .string b => strBin op a b
  | _, _ => none

def boolEq (x y : Value) : Option Bool :=
  match x, y with
  | .bool a, .bool b => some (a == b)
  | _, _ => none

def slNil (x y : Value) : Option Bool :=
  match x, y with
  | .slice none _ _, .slice b _ _ => some b.isNone
  | .slice (some _) _ _, .slice none _ _ => some false
  | _, _ => none

inductive BK where
  | plain | bool | slice | agg (fs : List (Nat × TypeDesc)) | no

def isEq : BinOp → Bool
  | .eql | .neq => true
  | _ => false

/-- Which comparison a type asks for. -/
def kindOf (P : Program) (op : BinOp) (ty : TypeId) : BK :=
  match dsc P ty with
  | some (.int _) => .plain
  | some .string => .plain
  | some .bool => if isEq op then .bool else .no
  | some (.slice _) => if isEq op then .slice else .no
  | some (.struct _) => if isEq op then (match eqFields P ty with | some fs => .agg fs | none => .no) else .no
  | _ => .no

def binK (k : BK) (op : BinOp) (x y : Value) : Option Value :=
  match k with
  | .plain => bin op x y
  | .bool => eqV op (boolEq x y)
  | .slice => eqV op (slNil x y)
  | .agg fs => eqV op (aggEq fs x y)
  | .no => none

def un (op : UnOp) (x : Value) : Option Value :=
  match op, x with
  | .neg, .int k n => some (.int k (k.wrap (0 - n)))
  | .not, .bool b => some (.bool !b)
  | _, _ => none

/-! ### Conversions -/
inductive CK where
  | toInt (k : IntKind) | intToStr | strToStr | strToBytes | bytesToStr | mark | no

def isU8 (P : Program) (e : TypeId) : Bool :=
  match dsc P e with
  | some (.int .u8) => true
  | _ => false

def convK (P : Program) (s d : TypeId) : CK :=
  match dsc P s, dsc P d with
  | some (.int _), some (.int k) => .toInt k
  | some (.int _), some .string => .intToStr
  | some .string, some .string => .strToStr
  | some .string, some (.slice e) => if isU8 P e then .strToBytes else .no
  | some (.slice e), some .string => if isU8 P e then .bytesToStr else .no
  | some (.slice _), some (.slice e) => if s = d ∧ isU8 P e = true then .mark else .no
  | _, _ => .no

def bytesOf (s : ByteArray) : List Value := s.data.toList.map fun b => .int .u8 b.toNat

def unbytes : List Value → Option (List UInt8)
  | [] => some []
  | .int .u8 n :: r => (unbytes r).bind fun l => some (UInt8.ofNat n.toNat :: l)
  | _ => none

def rowsOf (sz : Nat) (x : Value) (H : Hp) : Option (List Value) :=
  match x with
  | .slice none _ _ => some []
  | .slice (some ⟨_, _, some _⟩) _ _ => some []
  | .slice (some ⟨i, o, none⟩) n _ =>
    match H i with
    | some (.row cs _ _) => if o + n * sz ≤ cs.length then some ((cs.drop o).take (n * sz)) else none
    | _ => none
  | _ => none

def conv (k : CK) (id : Nat) (x : Value) (H : Hp) : Option (Value × Hp) :=
  match k, x with
  | .toInt k, .int _ n => some (.int k (k.wrap n), H)
  | .intToStr, .int _ n => some (.string (Utf8.encode n), H)
  | .strToStr, .string s => some (.string s, H)
  | .strToBytes, .string s => some (sl id 0 s.size, H.set id (some (.row (bytesOf s) 1 true)))
  | .bytesToStr, x => (rowsOf 1 x H).bind fun cs => (unbytes cs).bind fun l => some (.string ⟨⟨l⟩⟩, H)
  | .mark, .slice (some ⟨i, o, none⟩) n c =>
    match H i with
    | some (.row _ _ true) => some (.slice (some ⟨i, o, none⟩) n c, H)
    | _ => none
  | _, _ => none

/-! ### Maps with a struct of numbers, bools and strings for a key -/
def findK (fs : List (Nat × TypeDesc)) (k : Value) : List (Value × Value) → Option (Option Value)
  | [] => some none
  | (k', v) :: es => (aggEq fs k k').bind fun b => if b then some (some v) else findK fs k es

/-- A zero value that is one cell. -/
def flatZero (P : Program) (t : TypeId) : Bool :=
  match (P.info? t).bind (·.zero) with
  | some (.agg _) => false
  | some (.tuple _) => false
  | some _ => true
  | none => false

def mapT (P : Program) (t : TypeId) : Option (List (Nat × TypeDesc) × List Value) :=
  (tab P t).bind fun ti =>
    match ti.desc with
    | .map k e => (tab P e).bind fun te => if te.agg = false ∧ te.zero.length = 1 ∧ te.zero.all gnd1 = true ∧ flatZero P e = true then (eqFields P k).bind fun fs => some (fs, te.zero) else none
    | _ => none

def lookV (fs : List (Nat × TypeDesc)) (z : Value) (ok : Bool) (m k : Value) (H : Hp) : Option Value :=
  match m with
  | .map (some i) =>
    match H i with
    | some (.map es) => (aggEq fs k k).bind fun _ => (findK fs k es).bind fun r => some (if ok then .tuple #[r.getD z, .bool r.isSome] else r.getD z)
    | _ => none
  | _ => none

def aggV : Value → Bool
  | .agg _ => true
  | _ => false
def ptrV : Value → Bool
  | .pointer _ => true
  | _ => false
def isCell : Value → Bool
  | .agg _ => false
  | .tuple _ => false
  | _ => true

def updV (fs : List (Nat × TypeDesc)) (m k v : Value) (H : Hp) : Option Hp :=
  match m with
  | .map (some i) =>
    match H i with
    | some (.map es) => (aggEq fs k k).bind fun _ => (findK fs k es).bind fun r => if r.isNone = true ∧ aggV k = true ∧ isCell v = true then some (H.set i (some (.map (es ++ [(k, v)])))) else none
    | _ => none
  | _ => none

/-! ### One operation -/
inductive Res where
  | val (v : Value) (H : Hp)
  | skip (H : Hp)
  | call (f : Nat) (args : List Value)

def vH (H : Hp) (v : Option Value) : Option Res := v.bind fun v => some (.val v H)
def vP (p : Option (Value × Hp)) : Option Res := p.bind fun p => some (.val p.1 p.2)
def vS (h : Option Hp) : Option Res := h.bind fun h => some (.skip h)

abbrev ev (t : Tm) : Operand → Value
  | .tmp i => t i
  | .const v => v
  | .global _ => .tuple #[]
  | .func f => .func (.func f) #[] #[]

/-- An operand that stands for the same on both sides. -/
def opnd : Operand → Bool
  | .tmp _ => true
  | .const v => gnd1 v
  | .global _ => false
  | .func _ => true

def fieldAt (P : Program) (s : TypeId) (f : Nat) : Option (Nat × TI) :=
  (tab P s).bind fun ti =>
    match ti.desc with
    | .struct fs => (fs.toList[f]?).bind fun fd => (tab P fd.type).bind fun tf => if tf.size = 0 then none else some (fd.offset, tf)
    | _ => none

def elemT (P : Program) (t : TypeId) : Option TI :=
  (tab P t).bind fun ti =>
    match ti.desc with
    | .slice e => tab P e
    | _ => none

def places (P : Program) (t : TypeId) (f : Operand → Value) : List (Nat × Operand) → Option (List (Nat × Nat × Value))
  | [] => some []
  | (i, x) :: r => (fieldAt P t i).bind fun p => (places P t f r).bind fun l => some ((p.1, p.2.size, f x) :: l)

def elems (sz : Nat) (f : Operand → Value) : List (Nat × Operand) → List (Nat × Nat × Value)
  | [] => []
  | (i, x) :: r => (i * sz, sz, f x) :: elems sz f r

def okList (l : List Operand) : Bool := l.all opnd

def calleeV (v : Value) (args : List Value) : Option Res :=
  match v with
  | .func (.func f) first captured => some (.call f (first.toList ++ args ++ captured.toList))
  | _ => none

def isStruct (P : Program) (t : TypeId) : Bool :=
  match dsc P t with
  | some (.struct fs) => fs.toList.all fun f => (tab P f.type).isSome
  | _ => false

def sliceSz (P : Program) (t : TypeId) : Option Nat :=
  match dsc P t with
  | some .string => some 0
  | some (.slice e) => (tab P e).bind fun te => if te.size = 0 then none else some te.size
  | _ => none

def srcOk (P : Program) (t : TypeId) : Bool :=
  match dsc P t with
  | some .string => true
  | some (.slice _) => true
  | _ => false

def lenOk (P : Program) (t : TypeId) : Bool := srcOk P t
def isStrT (P : Program) (t : TypeId) : Bool :=
  match dsc P t with
  | some .string => true
  | _ => false

def step1 (P : Program) (t : Tm) (o : Oper) (H : Hp) (id : Nat) : Option Res :=
  let f := ev t
  match o.op with
  | .move x => some (.val (f x) H)
  | .assign x => some (.val (f x) H)
  | .pick c a b => vH H (pickV (f c) (f a) (f b))
  | .alloc ty => (tab P ty).bind fun ti => if ti.zero.all gnd1 then some (.val (ptr id 0) (H.set id (some (.row ti.zero 0 true)))) else none
  | .box _ x => (vcells (f x)).bind fun cs => some (.val (ptr id 0) (H.set id (some (.row cs 0 true))))
  | .build ty parts => (tab P ty).bind fun ti => if isStruct P ty = true ∧ ti.zero.all gnd1 = true then (places P ty f parts.toList).bind fun ps => vH H (bld ti.zero ps) else none
  | .buildSlice ty n parts => (elemT P ty).bind fun te => if te.zero.all gnd1 then vP (bsl id te.size n te.zero (elems te.size f parts.toList) H) else none
  | .load ty a => (tab P ty).bind fun ti => vH H (ld ti.agg ti.size (f a) H)
  | .store ty a x => (tab P ty).bind fun ti => vS (st ti.agg ti.size (f a) (f x) H)
  | .nilCheck x => vH H (nilchk (f x))
  | .binOp op ty x y _ => vH H (binK (kindOf P op ty) op (f x) (f y))
  | .unOp op _ x => vH H (un op (f x))
  | .convert s d x => vP (conv (convK P s d) id (f x) H)
  | .slice ty x lo hi mx => if mx.isSome then none else (sliceSz P ty).bind fun sz => vH H (sliceV sz (f x) (lo.map f) (hi.map f))
  | .fieldAddr s x i => (fieldAt P s i).bind fun p => vH H (fieldA p.1 (f x))
  | .field s x i => (fieldAt P s i).bind fun p => vH H (partV p.2.agg p.2.size p.1 (f x))
  | .indexAddr ty x i => (elemT P ty).bind fun te => vH H (idxA te.size (f x) (f i))
  | .index ty x i => (tab P ty).bind fun ti => (match ti.desc with | .string => vH H (idxS (f x) (f i)) | _ => none)
  | .makeSlice ty l c => (elemT P ty).bind fun te => if te.zero.all gnd1 then vP (mks id te.size te.bytes te.zero (f l) (f c) H) else none
  | .makeFunc fn first captured => if first.toList.isEmpty = true ∧ (captured.toList.map f).all ptrV = true then (match fn with | .func g => some (.val (.func (.func g) #[] ⟨captured.toList.map f⟩) H) | _ => none) else none
  | .makeMap t r => if r.isSome then none else (mapT P t).bind fun _ => some (.val (.map (some id)) (H.set id (some (.map []))))
  | .lookup t m k ok => (mapT P t).bind fun p => (match p.2 with | [z] => vH H (lookV p.1 z ok (f m) (f k) H) | _ => none)
  | .mapUpdate t m k x => (mapT P t).bind fun p => vS (updV p.1 (f m) (f k) (f x) H)
  | .extract x i => vH H (ext i (f x))
  | .call c =>
    match c.callee with
    | .value g => calleeV (f g) (c.args.toList.map f)
    | .builtin .len => (match c.args.toList, c.argTypes.toList with | [x], [ty] => if lenOk P ty then vH H (lenV (isStrT P ty) (f x)) else none | _, _ => none)
    | .builtin .append =>
      (match c.args.toList, c.argTypes.toList with
      | [s, x], [ty, ty2] => (elemT P ty).bind fun te => if srcOk P ty2 = true ∧ te.size = te.zero.length ∧ 0 < te.size then vP (app id te.size te.bytes (f s) (f x) H) else none
      | _, _ => none)
    | .builtin .min => (match c.args.toList with | [x, y] => (match f x, f y with | .int k a, .int k' b => if k = k' then some (.val (.int k (if b < a then b else a)) H) else none | _, _ => none) | _ => none)
    | _ => none
  | _ => none

/-- Operations whose operands are all told. -/
def opsOk (o : Oper) : Bool := okList o.op.operands.toList

/-! ### Regions -/
abbrev R3 := Tm × Hp × Nat
abbrev Calling := Nat → List Value → Hp → Nat → Option (Value × Hp × Nat)

def gsel {α : Type} (v : Value) (want : Bool) (A B : α) : α :=
  match v with
  | .bool b => if b = want then A else B
  | _ => B

def guardSel {α : Type} (ops : List Oper) (t : Tm) (o : Oper) (A B : α) : α :=
  match o.guard with
  | none => A
  | some (j, want) =>
    match (ops[j]?).bind (·.dst) with
    | some d => gsel (t d) want A B
    | none => B

def exec1 (P : Program) (C : Calling) (o : Oper) (id : Nat) (t : Tm) (H : Hp) (n : Nat) : Option R3 :=
  (step1 P t o H id).bind fun r =>
    match r with
    | .val v H => some (putO t o.dst v, H, n)
    | .skip H => some (putO t o.dst (.tuple #[]), H, n)
    | .call f args => (C f args H n).bind fun q => some (putO t o.dst q.1, q.2.1, q.2.2)

def runOps (P : Program) (C : Calling) (ops : List Oper) (n0 : Nat) : List Oper → Nat → Tm → Hp → Nat → Option R3
  | [], _, t, H, n => some (t, H, n)
  | o :: r, i, t, H, n =>
    (guardSel ops t o (exec1 P C o (n0 + i) t H n) (some (putO t o.dst (.tuple #[]), H, n))).bind fun q => runOps P C ops n0 r (i + 1) q.1 q.2.1 q.2.2

/-! A region that draws its order: gone through in the text's order, and it is asked that no order tells anything else. -/
def cls (P : Program) (o : Oper) : Nat :=
  match o.op with
  | .load _ _ => 1
  | .alloc _ | .box _ _ | .buildSlice _ _ _ | .makeSlice _ _ _ => 2
  | .store _ _ _ => 3
  | .convert s d _ =>
    match convK P s d with
    | .toInt _ => 0
    | .intToStr => 0
    | .strToStr => 0
    | .strToBytes => 2
    | .mark => 3
    | _ => 5
  | .makeMap _ _ | .lookup _ _ _ _ | .mapUpdate _ _ _ _ => 5
  | .call c =>
    match c.callee with
    | .builtin .len | .builtin .min => 0
    | _ => 3
  | _ => 0

def edgeOn (e : Edge) : Bool := Region.binds .any e

def edges (es : List Edge) (ms : List Nat) : Nat := es.foldl (fun m e => if edgeOn e then m ||| (1 <<< e.on) ||| (ms.getD e.on 0) else m) 0
/-- For each operation (in order) the set of those that must be done ahead of it. -/
def befs : List Oper → List Nat → List Nat
  | [], ms => ms
  | o :: r, ms => befs r (ms ++ [edges o.after.toList ms])
def bef (ops : List Oper) (j i : Nat) : Bool := ((befs ops []).getD i 0).testBit j

def tmpsOf (l : List Operand) : List Nat := l.filterMap fun x => match x with | .tmp t => some t | _ => none
def readsOf (ops : List Oper) (o : Oper) : List Nat :=
  tmpsOf o.op.operands.toList ++ (match o.guard with | some (j, _) => ((ops[j]?).bind (·.dst)).toList | none => [])
def writesIn (d : Option Nat) (l : List Nat) : Bool :=
  match d with
  | some d => l.contains d
  | none => false
def clash (P : Program) (ops : List Oper) (x y : Oper) : Bool :=
  writesIn x.dst (readsOf ops y) || writesIn y.dst (readsOf ops x) || (match x.dst, y.dst with | some d, some e => d == e | _, _ => false) || (cls P x == 3 && cls P y == 3)
def pairsOk (P : Program) (ops : List Oper) (b : List Nat) : List Oper → Nat → Bool
  | [], _ => true
  | o :: r, i => (List.range i).all (fun j => match ops[j]? with | some x => !(clash P ops x o) || (b.getD i 0).testBit j | none => false) && pairsOk P ops b r (i + 1)
def edgesOk : List Oper → Nat → Bool
  | [], _ => true
  | o :: r, i => o.after.toList.all (fun e => !edgeOn e || decide (e.on < i)) && edgesOk r (i + 1)
def clsOk (P : Program) (o : Oper) : Bool := match cls P o with | 0 | 1 | 2 | 3 => true | _ => false
def drawOk (P : Program) (ops : List Oper) : Bool := edgesOk ops 0 && ops.all (clsOk P) && pairsOk P ops (befs ops []) ops 0

/-- A load that was done: its place, what it is of, and what came. -/
structure Rd where
  i : Nat
  agg : Bool
  sz : Nat
  a : Value
  v : Value

open Classical in
noncomputable def ask {α : Type} (p : Prop) (k : Option α) : Option α := if p then k else none

/-- Behind an actor: what was loaded ahead of it, in no order to it, is loaded as before. -/
noncomputable def asks {α : Type} (m : Nat) (H : Hp) : List Rd → Option α → Option α
  | [], k => k
  | r :: rs, k => if m.testBit r.i then asks m H rs k else ask (ld r.agg r.sz r.a H = some r.v) (asks m H rs k)
/-- At a load: what was ahead of an actor in no order to it tells the same. -/
noncomputable def askB {α : Type} (m : Nat) (agg : Bool) (sz : Nat) (a v : Value) : List (Nat × Hp) → Option α → Option α
  | [], k => k
  | (i, H) :: hs, k => if m.testBit i then askB m agg sz a v hs k else ask (ld agg sz a H = some v) (askB m agg sz a v hs k)

structure R5 where
  t : Tm
  H : Hp
  n : Nat
  rs : List Rd
  hs : List (Nat × Hp)

abbrev loadOf : Op → Option (TypeId × Operand)
  | .load ty a => some (ty, a)
  | _ => none

noncomputable def draw1 (P : Program) (C : Calling) (m : Nat) (o : Oper) (i id : Nat) (q : R5) : Option R5 :=
  match loadOf o.op with
  | some (ty, a) =>
    (tab P ty).bind fun ti => (ld ti.agg ti.size (ev q.t a) q.H).bind fun v =>
      askB m ti.agg ti.size (ev q.t a) v q.hs (some ⟨putO q.t o.dst v, q.H, q.n, ⟨i, ti.agg, ti.size, ev q.t a, v⟩ :: q.rs, q.hs⟩)
  | none =>
    (exec1 P C o id q.t q.H q.n).bind fun p =>
      if cls P o == 3 then asks m p.2.1 q.rs (some ⟨p.1, p.2.1, p.2.2, q.rs, (i, q.H) :: q.hs⟩)
      else some ⟨p.1, p.2.1, p.2.2, q.rs, q.hs⟩

noncomputable def runDraw (P : Program) (C : Calling) (ops : List Oper) (b : List Nat) (n0 : Nat) : List Oper → Nat → R5 → Option R5
  | [], _, q => some q
  | o :: r, i, q =>
    (guardSel ops q.t o (draw1 P C (b.getD i 0) o i (n0 + i) q) (some { q with t := putO q.t o.dst (.tuple #[]) })).bind fun q => runDraw P C ops b n0 r (i + 1) q

noncomputable def region (P : Program) (C : Calling) (ops : List Oper) (draw : Bool) (t : Tm) (H : Hp) (n : Nat) : Option R3 :=
  if ops.all opsOk then
    (if draw then (if drawOk P ops then (runDraw P C ops (befs ops []) n ops 0 ⟨t, H, n + ops.length, [], []⟩).bind fun q => some (q.t, q.H, q.n) else none)
     else runOps P C ops n ops 0 t H (n + ops.length))
  else none

/-! ### Code -/
inductive Ex where
  | normal
  | exit (id : Nat)
  | ret

structure Out where
  e : Ex
  t : Tm
  H : Hp
  n : Nat

def thenO (o : Out) (k : Tm → Hp → Nat → Option Out) : Option Out :=
  match o.e with
  | .normal => k o.t o.H o.n
  | _ => some o
abbrev outOf (id : Nat) (o : Out) : Out :=
  match o.e with
  | .exit j => if j = id then { o with e := .normal } else o
  | _ => o
def csel {α : Type} (v : Value) (A B : Option α) : Option α :=
  match v with
  | .bool b => if b = true then A else B
  | _ => none

abbrev Body := Tm → Hp → Nat → Option Out

noncomputable def code (P : Program) (C : Calling) (Lp : Body → Body) : Code → Body
  | .skip => fun t H n => some ⟨.normal, t, H, n⟩
  | .region _ ops draw => fun t H n => (region P C ops.toList draw t H n).bind fun q => some ⟨.normal, q.1, q.2.1, q.2.2⟩
  | .seq a b => fun t H n => (code P C Lp a t H n).bind fun o => thenO o (code P C Lp b)
  | .cond c x y => fun t H n => csel (ev t c) (code P C Lp x t H n) (code P C Lp y t H n)
  | .block id c => fun t H n => (code P C Lp c t H n).bind fun o => some (outOf id o)
  | .loop c => Lp (code P C Lp c)
  | .exit id => fun t H n => some ⟨.exit id, t, H, n⟩
  | .ret => fun t H n => some ⟨.ret, t, H, n⟩
  | _ => fun _ _ _ => none

def iter : Nat → Body → Body
  | 0, _ => fun _ _ _ => none
  | k + 1, φ => fun t H n => (φ t H n).bind fun o => thenO o (iter k φ)

/-! ### Functions -/
def dstsOps (m : Nat) (l : List Oper) : Bool := l.all fun o => match o.dst with | some d => decide (d < m) | none => true
def condOk : Operand → Bool
  | .tmp _ => true
  | .const v => gnd1 v
  | _ => false
def codeOk (m : Nat) : Code → Bool
  | .skip => true
  | .region _ ops _ => dstsOps m ops.toList
  | .seq a b => codeOk m a && codeOk m b
  | .cond c x y => condOk c && codeOk m x && codeOk m y
  | .block _ c => codeOk m c
  | .loop c => codeOk m c
  | .exit _ => true
  | .ret => true
  | _ => false

def resV (P : Program) (t : Tm) (H : Hp) : ResultVar → Option Value
  | .tmp i => some (t i)
  | .cell a ty => (tab P ty).bind fun ti => ld ti.agg ti.size (t a) H
def resL (P : Program) (t : Tm) (H : Hp) : List ResultVar → Option (List Value)
  | [] => some []
  | r :: rs => (resV P t H r).bind fun v => (resL P t H rs).bind fun l => some (v :: l)
abbrev iteK {α : Type} (b : Bool) (x : Option α) : Option α :=
  match b with
  | true => x
  | false => none
def notTup : Value → Bool
  | .tuple _ => false
  | _ => true
abbrev outV (l : List Value) (H : Hp) (n : Nat) : Option (Value × Hp × Nat) :=
  match l with
  | [v] => some (v, H, n)
  | l => iteK (l.all notTup) (some (.tuple ⟨l⟩, H, n))
def finish (P : Program) (rs : List ResultVar) (o : Out) : Option (Value × Hp × Nat) :=
  match o.e with
  | .exit _ => none
  | _ => (resL P o.t o.H rs).bind fun l => outV l o.H o.n

def argsT (args : List Value) : Tm := fun i => args.getD i (.tuple #[])

noncomputable def body (P : Program) (C : Calling) (Lp : Body → Body) (fn : Func) (args : List Value) (H : Hp) (n : Nat) : Option (Value × Hp × Nat) :=
  match fn.body with
  | none => none
  | some c => if codeOk fn.ntmps c = true ∧ (fn.name == "runtime.NumGoroutine") = false then (code P C Lp c (argsT args) H n).bind fun o => finish P fn.results.toList o else none

noncomputable def acall (P : Program) : Nat → Calling
  | 0 => fun _ _ _ _ => none
  | k + 1 => fun f args H n =>
    match P.funcs[f]? with
    | some fn => body P (acall P k) (iter k) fn args H n
    | none => none

end Go.Proofs.Ytdnokdgkccnbnaa.Ax
