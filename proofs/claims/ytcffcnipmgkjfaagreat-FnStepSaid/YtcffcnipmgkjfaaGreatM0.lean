/- What the law needs: laws of the abstract machine, and contracts of functions. -/
import Derived.Calls
import Derived.Orders
import Derived.Laws.StructEq
import Derived.KernelRfl
import Derived.IntWalk
import Derived.Laws.Strings
set_option linter.unusedSimpArgs false
set_option linter.unusedVariables false
set_option maxHeartbeats 8000000
namespace Go.Proofs.YtcffcnipmgkjfaaGreat.Ax
open Go
structure TI where
 desc:TypeDesc
 size:Nat
 bytes:Nat
 zero:List Value
 agg:Bool
def aggDesc:TypeDesc->Bool
 | .struct _=>true
 | .array _ _=>true
 | _=>false
def tab (P:Program)(t:TypeId):Option TI :=
 (P.info? t).bind fun i=>(P.underlying t).bind fun d=>i.zero.bind fun z=>some ⟨d,i.size,i.bytes,z.cells.toList,aggDesc d⟩
def dsc (P:Program)(t:TypeId):Option TypeDesc:=(tab P t).map TI.desc
inductive Obj where
 | row (cells:List Value) (esz:Nat) (rw:Bool)
 | map (es:List (Value × Value))
abbrev Hp:=Nat->Option Obj
abbrev Tm:=Nat->Value
def Hp.set (H:Hp)(i:Nat)(o:Option Obj):Hp:=fun j=>if j=i then o else H j
def put (t:Tm)(d:Nat)(v:Value):Tm:=fun i=>if i=d then v else t i
abbrev Xv (t:Tm)(d:Option Nat)(v:Value):Tm :=
 match d with
 | some d=>put t d v
 | none=>t
abbrev ptr (i o:Nat):Value:=.pointer (some ⟨i,o,none⟩)
abbrev sl (i o n:Nat):Value:=.slice (some ⟨i,o,none⟩) n 0
abbrev nilS:Value:=.slice none 0 0
abbrev emptyS:Value:=.slice (some ⟨0,0,some 0⟩) 0 0
def gnd1:Value->Bool
 | .bool _|.int _ _|.string _|.pointer none|.slice none 0 0|.nilFunc=>true
 | _=>false
def Zs:Value->Option (List Value)
 | .tuple _=>none
 | .agg cs=>some cs.toList
 | v=>some [v]
def Yz (cs:List Value)(o:Nat)(vs:List Value):List Value:=cs.take o++vs++cs.drop (o+vs.length)
def We (a:Value)(H:Hp):Option (List Value × Nat) :=
 match a with
 | .pointer (some ⟨i,o,none⟩)=>
  match H i with
  | some (.row cs _ _)=>some (cs,o)
  | _=>none
 | _=>none
def ldc (a:Value)(H:Hp):Option Value:=(We a H).bind fun p=>p.1[p.2]?
def lda (sz:Nat)(a:Value)(H:Hp):Option Value :=
 (We a H).bind fun p=>if p.2+sz<=p.1.length then some (.agg ⟨(p.1.drop p.2).take sz⟩)else none
def ld (agg:Bool)(sz:Nat)(a:Value)(H:Hp):Option Value:=if agg then lda sz a H else ldc a H
def stv (a:Value)(vs:List Value)(H:Hp):Option Hp :=
 match a with
 | .pointer (some ⟨i,o,none⟩)=>
  match H i with
  | some (.row cs e true)=>if o+vs.length<=cs.length then some (H.set i (some (.row (Yz cs o vs) e true)))else none
  | _=>none
 | _=>none
def st (agg:Bool)(sz:Nat)(a v:Value)(H:Hp):Option Hp :=
 match agg,v with
 | true,.agg cs=>if cs.toList.length=sz then stv a cs.toList H else none
 | true,_=>none
 | false,.agg _=>none
 | false,.tuple _=>none
 | false,v=>if sz=1 then stv a [v] H else none
def src (sz:Nat)(x:Value)(H:Hp):Option (List Value × Nat) :=
 match x with
 | .slice none _ _=>some ([],0)
 | .slice (some ⟨_,_,some _⟩) _ _=>some ([],0)
 | .slice (some ⟨i,o,none⟩) n _=>
  match H i with
  | some (.row cs _ _)=>if o+n * sz<=cs.length then some ((cs.drop o).take (n * sz),n)else none
  | _=>none
 | .string s=>if sz=1 then some (s.data.toList.map fun b=>.int .u8 b.toNat,s.size)else none
 | _=>none
def app (id sz bytes:Nat)(s x:Value)(H:Hp):Option (Value × Hp) :=
 (src sz x H).bind fun p=>
  match s with
  | .slice none _ _=>
   if p.2=0 then some (nilS,H)
   else if 1<=bytes/\(2 * p.2+1024) * bytes<=281474976710656 then some (sl id 0 p.2,H.set id (some (.row p.1 sz true)))
   else none
  | .slice (some ⟨i,0,none⟩) n _=>
   match H i with
   | some (.row cs e true)=>
    if e=sz/\n * sz<=cs.length/\1<=bytes/\(2 * (n+p.2)+1024) * bytes<=281474976710656 then
     some (sl id 0 (n+p.2),(H.set i none).set id (some (.row (cs.take (n * sz)++p.1) sz true)))
    else none
   | _=>none
  | _=>none
def mks (id sz bytes:Nat)(zero:List Value)(l c:Value)(H:Hp):Option (Value × Hp) :=
 match l,c with
 | .int .i64 a,.int .i64 b=>
  if a=b/\0<=a/\1<=bytes/\a * bytes<=140737488355328/\zero.length=sz then
   some (sl id 0 a.toNat,H.set id (some (.row (List.replicate a.toNat zero).flatten sz true)))
  else none
 | _,_=>none
def fill (cells:List Value):List (Nat × Nat × Value)->Option (List Value)
 | []=>some cells
 | (off,sz,v) :: rest=>
  (Zs v).bind fun vs=>if vs.length=sz/\off+sz<=cells.length then fill (Yz cells off vs) rest else none
def Xx (id sz n:Nat)(zero:List Value)(parts:List (Nat × Nat × Value)) (H:Hp):Option (Value × Hp) :=
 if n * sz<=16777216/\zero.length=sz then
  (fill (List.replicate n zero).flatten parts).bind fun cs=>some (sl id 0 n,H.set id (some (.row cs sz true)))
 else none
def Xf (zero:List Value)(parts:List (Nat × Nat × Value)):Option Value :=
 (fill zero parts).bind fun cs=>some (.agg ⟨cs⟩)
def Za (off:Nat)(a:Value):Option Value :=
 match a with
 | .pointer (some ⟨i,o,none⟩)=>some (ptr i (o+off))
 | _=>none
def partV (agg:Bool)(sz off:Nat)(x:Value):Option Value :=
 match x with
 | .agg cs=>if agg then(if off+sz<=cs.toList.length then some (.agg ⟨(cs.toList.drop off).take sz⟩)else none)else cs.toList[off]?
 | _=>none
def Zo (sz:Nat)(x i:Value):Option Value :=
 match x,i with
 | .slice (some ⟨b,o,none⟩) n _,.int _ j=>if 0<=j/\j < n then some (ptr b (o+j.toNat * sz))else none
 | _,_=>none
def idxS (x i:Value):Option Value :=
 match x,i with
 | .string s,.int _ j=>if 0<=j/\j < s.size then some (.int .u8 (s.data.toList.getD j.toNat 0).toNat)else none
 | _,_=>none
def bnd (d:Nat):Option Value->Option Nat
 | none=>some d
 | some (.int _ i)=>if 0<=i then some i.toNat else none
 | some _=>none
def Yt (sz:Nat)(x:Value)(lo hi:Option Value):Option Value :=
 match x with
 | .string s=>(bnd 0 lo).bind fun l=>(bnd s.size hi).bind fun h=>if l<=h/\h<=s.size/\sz=0 then some (.string (s.extract l h))else none
 | .slice none _ _=>(bnd 0 lo).bind fun l=>(bnd 0 hi).bind fun h=>if l<=h/\h<=0/\0 < sz then some nilS else none
 | .slice (some ⟨i,o,none⟩) n _=>(bnd 0 lo).bind fun l=>(bnd n hi).bind fun h=>
  if l<=h/\h<=n/\0 < sz then(if l=h then some emptyS else some (sl i (o+l * sz) (h - l)))else none
 | .slice (some ⟨_,_,some _⟩) _ _=>(bnd 0 lo).bind fun l=>(bnd 0 hi).bind fun h=>if l<=h/\h<=0/\0 < sz then some emptyS else none
 | _=>none
def Zx (str:Bool)(x:Value):Option Value :=
 match str,x with
 | false,.slice _ n _=>some (.int .i64 n)
 | true,.string s=>some (.int .i64 s.size)
 | _,_=>none
def ext (i:Nat)(x:Value):Option Value :=
 match x with
 | .tuple vs=>vs.toList[i]?
 | _=>none
def Zh (x:Value):Option Value :=
 match x with
 | .pointer (some a)=>some (.pointer (some a))
 | _=>none
def Zl (c a b:Value):Option Value :=
 match c with
 | .bool b'=>some (if b' then a else b)
 | _=>none
def intBin (op:BinOp)(k:IntKind)(a b:Int):Option Value :=
 match op with
 | .add=>some (.int k (k.wrap (a+b)))
 | .sub=>some (.int k (k.wrap (a - b)))
 | .mul=>some (.int k (k.wrap (a * b)))
 | .quo=>if b=0 then none else some (.int k (k.wrap (a.tdiv b)))
 | .rem=>if b=0 then none else some (.int k (a.tmod b))
 | .and=>some (.int k (k.wrap (BitVec.ofInt k.bits a &&& BitVec.ofInt k.bits b).toNat))
 | .or=>some (.int k (k.wrap (BitVec.ofInt k.bits a ||| BitVec.ofInt k.bits b).toNat))
 | .xor=>some (.int k (k.wrap (BitVec.ofInt k.bits a ^^^ BitVec.ofInt k.bits b).toNat))
 | .andNot=>some (.int k (k.wrap (BitVec.ofInt k.bits a &&& ~~~(BitVec.ofInt k.bits b)).toNat))
 | .eql=>some (.bool (a == b))
 | .neq=>some (.bool (a != b))
 | .lss=>some (.bool (decide (a < b)))
 | .leq=>some (.bool (decide (a<=b)))
 | .gtr=>some (.bool (decide (a > b)))
 | .geq=>some (.bool (decide (a ≥ b)))
 | _=>none
def strBin (op:BinOp)(x y:ByteArray):Option Value :=
 match op with
 | .add=>if((x.size+y.size:Nat):Int)<=9223372036854775807 then some (.string (x++y))else none
 | .eql=>some (.bool (x.toList == y.toList))
 | .neq=>some (.bool !(x.toList == y.toList))
 | _=>none
def shiftBin (op:BinOp)(k:IntKind)(a b:Int):Option Value :=
 if b < 0 then none
 else match op with
 | .shl=>some (.int k (k.wrap (a * 2 ^ (min b.toNat k.bits))))
 | .shr=>some (.int k (a.fdiv (2 ^ (min b.toNat k.bits))))
 | _=>none
def eqc (d:TypeDesc)(x y:Value):Option Bool :=
 match d,x,y with
 | .bool,.bool a,.bool b=>some (a == b)
 | .int _,.int k a,.int k' b=>if k=k' then some (a == b)else none
 | .string,.string a,.string b=>some (a.toList == b.toList)
 | _,_,_=>none
def eqFs (xs ys:List Value):List (Nat × TypeDesc)->Option Bool
 | []=>some true
 | (off,d) :: fs=>
  (xs[off]?).bind fun x=>(ys[off]?).bind fun y=>(eqc d x y).bind fun r=>(eqFs xs ys fs).bind fun s=>some (r && s)
def flatDesc:TypeDesc->Bool
 | .bool|.int _|.string=>true
 | _=>false
def flatFs (T:TypeId->Option TI):List Field->Option (List (Nat × TypeDesc))
 | []=>some []
 | f :: fs => if f.name = "_" then none else (T f.type).bind fun ti => if flatDesc ti.desc && !ti.agg then (flatFs T fs).bind fun r => some ((f.offset, ti.desc) :: r) else none
def eqFields (P:Program)(ty:TypeId):Option (List (Nat × TypeDesc)) :=
 (tab P ty).bind fun ti=>
  match ti.desc with
  | .struct fs=>if P.eqGuardType P.depth ty=false/\P.stoodInHeld ty=false then flatFs (tab P) fs.toList else none
  | _=>none
def eqV (op:BinOp)(r:Option Bool):Option Value :=
 match op with
 | .eql=>r.bind fun b=>some (.bool b)
 | .neq=>r.bind fun b=>some (.bool !b)
 | _=>none
def aggEq (fs:List (Nat × TypeDesc)) (x y:Value):Option Bool :=
 match x,y with
 | .agg xs,.agg ys=>eqFs xs.toList ys.toList fs
 | _,_=>none
def Vd:BinOp->Bool
 | .shl|.shr=>true
 | _=>false
def bin (op:BinOp)(x y:Value):Option Value :=
 match x,y with
 | .int k a,.int k' b=>if Vd op then shiftBin op k a b else if k=k' then intBin op k a b else none
 | .string a,.string b=>strBin op a b
 | _,_=>none
def boolEq (x y:Value):Option Bool :=
 match x,y with
 | .bool a,.bool b=>some (a == b)
 | _,_=>none
def slNil (x y:Value):Option Bool :=
 match x,y with
 | .slice none _ _,.slice b _ _=>some b.isNone
 | .slice (some _) _ _,.slice none _ _=>some false
 | _,_=>none
inductive BK where
 | plain|bool|slice|agg (fs:List (Nat × TypeDesc))|no
def isEq:BinOp->Bool
 | .eql|.neq=>true
 | _=>false
def kindOf (P:Program)(op:BinOp)(ty:TypeId):BK :=
 match dsc P ty with
 | some (.int _)=>.plain
 | some .string=>.plain
 | some .bool=>if isEq op then .bool else .no
 | some (.slice _)=>if isEq op then .slice else .no
 | some (.struct _)=>if isEq op then(match eqFields P ty with|some fs=>.agg fs|none=>.no)else .no
 | _=>.no
def Zd (k:BK)(op:BinOp)(x y:Value):Option Value :=
 match k with
 | .plain=>bin op x y
 | .bool=>eqV op (boolEq x y)
 | .slice=>eqV op (slNil x y)
 | .agg fs=>eqV op (aggEq fs x y)
 | .no=>none
def un (op:UnOp)(x:Value):Option Value :=
 match op,x with
 | .neg,.int k n=>some (.int k (k.wrap (0 - n)))
 | .not,.bool b=>some (.bool !b)
 | _,_=>none
inductive CK where
 | toInt (k:IntKind)|intToStr|strToStr|strToBytes|bytesToStr|mark|no
def isU8 (P:Program)(e:TypeId):Bool :=
 match dsc P e with
 | some (.int .u8)=>true
 | _=>false
def convK (P:Program)(s d:TypeId):CK :=
 match dsc P s,dsc P d with
 | some (.int _),some (.int k)=>.toInt k
 | some (.int _),some .string=>.intToStr
 | some .string,some .string=>.strToStr
 | some .string,some (.slice e)=>if isU8 P e then .strToBytes else .no
 | some (.slice e),some .string=>if isU8 P e then .bytesToStr else .no
 | some (.slice _),some (.slice e)=>if s=d/\isU8 P e=true then .mark else .no
 | _,_=>.no
def bytesOf (s:ByteArray):List Value:=s.data.toList.map fun b=>.int .u8 b.toNat
def unbytes:List Value->Option (List UInt8)
 | []=>some []
 | .int .u8 n :: r=>(unbytes r).bind fun l=>some (UInt8.ofNat n.toNat :: l)
 | _=>none
def rowsOf (sz:Nat)(x:Value)(H:Hp):Option (List Value) :=
 match x with
 | .slice none _ _=>some []
 | .slice (some ⟨_,_,some _⟩) _ _=>some []
 | .slice (some ⟨i,o,none⟩) n _=>
  match H i with
  | some (.row cs _ _)=>if o+n * sz<=cs.length then some ((cs.drop o).take (n * sz))else none
  | _=>none
 | _=>none
def conv (k:CK)(id:Nat)(x:Value)(H:Hp):Option (Value × Hp) :=
 match k,x with
 | .toInt k,.int _ n=>some (.int k (k.wrap n),H)
 | .intToStr,.int _ n=>some (.string (Utf8.encode n),H)
 | .strToStr,.string s=>some (.string s,H)
 | .strToBytes,.string s=>some (sl id 0 s.size,H.set id (some (.row (bytesOf s) 1 true)))
 | .bytesToStr,x=>(rowsOf 1 x H).bind fun cs=>(unbytes cs).bind fun l=>some (.string ⟨⟨l⟩⟩,H)
 | .mark,.slice (some ⟨i,o,none⟩) n c=>
  match H i with
  | some (.row _ _ true)=>some (.slice (some ⟨i,o,none⟩) n c,H)
  | _=>none
 | _,_=>none
def findK (fs:List (Nat × TypeDesc)) (k:Value):List (Value × Value)->Option (Option Value)
 | []=>some none
 | (k',v) :: es=>(aggEq fs k k').bind fun b=>if b then some (some v)else findK fs k es
def flatZero (P:Program)(t:TypeId):Bool :=
 match (P.info? t).bind (·.zero)with
 | some (.agg _)=>false
 | some (.tuple _)=>false
 | some _=>true
 | none=>false
def mapT (P:Program)(t:TypeId):Option (List (Nat × TypeDesc) × List Value) :=
 (tab P t).bind fun ti=>
  match ti.desc with
  | .map k e=>(tab P e).bind fun te=>if te.agg=false/\te.zero.length=1/\te.zero.all gnd1=true/\flatZero P e=true then(eqFields P k).bind fun fs=>some (fs,te.zero)else none
  | _=>none
def lookV (fs:List (Nat × TypeDesc)) (z:Value)(ok:Bool)(m k:Value)(H:Hp):Option Value :=
 match m with
 | .map (some i)=>
  match H i with
  | some (.map es)=>(aggEq fs k k).bind fun _=>(findK fs k es).bind fun r=>some (if ok then .tuple #[r.getD z,.bool r.isSome]else r.getD z)
  | _=>none
 | _=>none
def aggV:Value->Bool
 | .agg _=>true
 | _=>false
def ptrV:Value->Bool
 | .pointer _=>true
 | _=>false
def isCell:Value->Bool
 | .agg _=>false
 | .tuple _=>false
 | _=>true
def updV (fs:List (Nat × TypeDesc)) (m k v:Value)(H:Hp):Option Hp :=
 match m with
 | .map (some i)=>
  match H i with
  | some (.map es)=>(aggEq fs k k).bind fun _=>(findK fs k es).bind fun r=>if r.isNone=true/\aggV k=true/\isCell v=true then some (H.set i (some (.map (es++[(k,v)]))))else none
  | _=>none
 | _=>none
inductive Res where
 | val (v:Value) (H:Hp)
 | skip (H:Hp)
 | call (f:Nat) (args:List Value)
def vH (H:Hp)(v:Option Value):Option Res:=v.bind fun v=>some (.val v H)
def vP (p:Option (Value × Hp)):Option Res:=p.bind fun p=>some (.val p.1 p.2)
def vS (h:Option Hp):Option Res:=h.bind fun h=>some (.skip h)
abbrev ev (t:Tm):Operand->Value
 | .tmp i=>t i
 | .const v=>v
 | .global _=>.tuple #[]
 | .func f=>.func (.func f) #[] #[]
def opnd:Operand->Bool
 | .tmp _=>true
 | .const v=>gnd1 v
 | .global _=>false
 | .func _=>true
def fieldAt (P:Program)(s:TypeId)(f:Nat):Option (Nat × TI) :=
 (tab P s).bind fun ti=>
  match ti.desc with
  | .struct fs=>(fs.toList[f]?).bind fun fd=>(tab P fd.type).bind fun tf=>if tf.size=0 then none else some (fd.offset,tf)
  | _=>none
def elemT (P:Program)(t:TypeId):Option TI :=
 (tab P t).bind fun ti=>
  match ti.desc with
  | .slice e=>tab P e
  | _=>none
def places (P:Program)(t:TypeId)(f:Operand->Value):List (Nat × Operand)->Option (List (Nat × Nat × Value))
 | []=>some []
 | (i,x) :: r=>(fieldAt P t i).bind fun p=>(places P t f r).bind fun l=>some ((p.1,p.2.size,f x) :: l)
def elems (sz:Nat)(f:Operand->Value):List (Nat × Operand)->List (Nat × Nat × Value)
 | []=>[]
 | (i,x) :: r=>(i * sz,sz,f x) :: elems sz f r
def okList (l:List Operand):Bool:=l.all opnd
def calleeV (v:Value)(args:List Value):Option Res :=
 match v with
 | .func (.func f) first captured=>some (.call f (first.toList++args++captured.toList))
 | _=>none
def isStruct (P:Program)(t:TypeId):Bool :=
 match dsc P t with
 | some (.struct fs)=>fs.toList.all fun f=>(tab P f.type).isSome
 | _=>false
def sliceSz (P:Program)(t:TypeId):Option Nat :=
 match dsc P t with
 | some .string=>some 0
 | some (.slice e)=>(tab P e).bind fun te=>if te.size=0 then none else some te.size
 | _=>none
def srcOk (P:Program)(t:TypeId):Bool :=
 match dsc P t with
 | some .string=>true
 | some (.slice _)=>true
 | _=>false
def lenOk (P:Program)(t:TypeId):Bool:=srcOk P t
def isStrT (P:Program)(t:TypeId):Bool :=
 match dsc P t with
 | some .string=>true
 | _=>false
def step1 (P:Program)(t:Tm)(o:Oper)(H:Hp)(id:Nat):Option Res :=
 let f:=ev t
 match o.op with
 | .move x=>some (.val (f x) H)
 | .assign x=>some (.val (f x) H)
 | .pick c a b=>vH H (Zl (f c) (f a) (f b))
 | .alloc ty=>(tab P ty).bind fun ti=>if ti.zero.all gnd1 then some (.val (ptr id 0) (H.set id (some (.row ti.zero 0 true))))else none
 | .box _ x=>(Zs (f x)).bind fun cs=>some (.val (ptr id 0) (H.set id (some (.row cs 0 true))))
 | .build ty parts=>(tab P ty).bind fun ti=>if isStruct P ty=true/\ti.zero.all gnd1=true then(places P ty f parts.toList).bind fun ps=>vH H (Xf ti.zero ps)else none
 | .buildSlice ty n parts=>(elemT P ty).bind fun te=>if te.zero.all gnd1 then vP (Xx id te.size n te.zero (elems te.size f parts.toList) H)else none
 | .load ty a=>(tab P ty).bind fun ti=>vH H (ld ti.agg ti.size (f a) H)
 | .store ty a x=>(tab P ty).bind fun ti=>vS (st ti.agg ti.size (f a) (f x) H)
 | .nilCheck x=>vH H (Zh (f x))
 | .binOp op ty x y _=>vH H (Zd (kindOf P op ty) op (f x) (f y))
 | .unOp op _ x=>vH H (un op (f x))
 | .convert s d x=>vP (conv (convK P s d) id (f x) H)
 | .slice ty x lo hi mx=>if mx.isSome then none else(sliceSz P ty).bind fun sz=>vH H (Yt sz (f x) (lo.map f) (hi.map f))
 | .fieldAddr s x i=>(fieldAt P s i).bind fun p=>vH H (Za p.1 (f x))
 | .field s x i=>(fieldAt P s i).bind fun p=>vH H (partV p.2.agg p.2.size p.1 (f x))
 | .indexAddr ty x i=>(elemT P ty).bind fun te=>vH H (Zo te.size (f x) (f i))
 | .index ty x i=>(tab P ty).bind fun ti=>(match ti.desc with|.string=>vH H (idxS (f x) (f i))|_=>none)
 | .makeSlice ty l c=>(elemT P ty).bind fun te=>if te.zero.all gnd1 then vP (mks id te.size te.bytes te.zero (f l) (f c) H)else none
 | .makeFunc fn first captured=>if first.toList.isEmpty=true/\(captured.toList.map f).all ptrV=true then(match fn with|.func g=>some (.val (.func (.func g) #[] ⟨captured.toList.map f⟩) H)|_=>none)else none
 | .makeMap t r=>if r.isSome then none else(mapT P t).bind fun _=>some (.val (.map (some id)) (H.set id (some (.map []))))
 | .lookup t m k ok=>(mapT P t).bind fun p=>(match p.2 with|[z]=>vH H (lookV p.1 z ok (f m) (f k) H)|_=>none)
 | .mapUpdate t m k x=>(mapT P t).bind fun p=>vS (updV p.1 (f m) (f k) (f x) H)
 | .extract x i=>vH H (ext i (f x))
 | .call c=>
  match c.callee with
  | .value g=>calleeV (f g) (c.args.toList.map f)
  | .builtin .len=>(match c.args.toList,c.argTypes.toList with|[x],[ty]=>if lenOk P ty then vH H (Zx (isStrT P ty) (f x))else none|_,_=>none)
  | .builtin .append=>
   (match c.args.toList,c.argTypes.toList with
   | [s,x],[ty,ty2]=>(elemT P ty).bind fun te=>if srcOk P ty2=true/\te.size=te.zero.length/\0 < te.size then vP (app id te.size te.bytes (f s) (f x) H)else none
   | _,_=>none)
  | .builtin .min=>(match c.args.toList with|[x,y]=>(match f x,f y with|.int k a,.int k' b=>if k=k' then some (.val (.int k (if b < a then b else a)) H)else none|_,_=>none)|_=>none)
  | _=>none
 | _=>none
def opsOk (o:Oper):Bool:=okList o.op.operands.toList
abbrev R3:=Tm × Hp × Nat
abbrev Zb:=Nat->List Value->Hp->Nat->Option (Value × Hp × Nat)
def gsel {α:Type}(v:Value)(want:Bool)(A B:α):α :=
 match v with
 | .bool b=>if b=want then A else B
 | _=>B
def Yl {α:Type}(ops:List Oper)(t:Tm)(o:Oper)(A B:α):α :=
 match o.guard with
 | none=>A
 | some (j,want)=>
  match (ops[j]?).bind (·.dst)with
  | some d=>gsel (t d) want A B
  | none=>B
def Xs (P:Program)(C:Zb)(o:Oper)(id:Nat)(t:Tm)(H:Hp)(n:Nat):Option R3 :=
 (step1 P t o H id).bind fun r=>
  match r with
  | .val v H=>some (Xv t o.dst v,H,n)
  | .skip H=>some (Xv t o.dst (.tuple #[]),H,n)
  | .call f args=>(C f args H n).bind fun q=>some (Xv t o.dst q.1,q.2.1,q.2.2)
def Ww (P:Program)(C:Zb)(ops:List Oper)(n0:Nat):List Oper->Nat->Tm->Hp->Nat->Option R3
 | [],_,t,H,n=>some (t,H,n)
 | o :: r,i,t,H,n=>
  (Yl ops t o (Xs P C o (n0+i) t H n) (some (Xv t o.dst (.tuple #[]),H,n))).bind fun q=>Ww P C ops n0 r (i+1) q.1 q.2.1 q.2.2
def cls (P:Program)(o:Oper):Nat :=
 match o.op with
 | .load _ _=>1
 | .alloc _|.box _ _|.buildSlice _ _ _|.makeSlice _ _ _=>2
 | .store _ _ _=>3
 | .convert s d _=>
  match convK P s d with
  | .toInt _=>0
  | .intToStr=>0
  | .strToStr=>0
  | .strToBytes=>2
  | .mark=>3
  | _=>5
 | .makeMap _ _|.lookup _ _ _ _|.mapUpdate _ _ _ _=>5
 | .call c=>
  match c.callee with
  | .builtin .len|.builtin .min=>0
  | _=>3
 | _=>0
def edgeOn (e:Edge):Bool:=Region.binds .any e
def edges (es:List Edge)(ms:List Nat):Nat:=es.foldl (fun m e=>if edgeOn e then m ||| (1 <<< e.on) ||| (ms.getD e.on 0)else m) 0
def befs:List Oper->List Nat->List Nat
 | [],ms=>ms
 | o :: r,ms=>befs r (ms++[edges o.after.toList ms])
def bef (ops:List Oper)(j i:Nat):Bool:=((befs ops []).getD i 0).testBit j
def tmpsOf (l:List Operand):List Nat:=l.filterMap fun x=>match x with|.tmp t=>some t|_=>none
def readsOf (ops:List Oper)(o:Oper):List Nat :=
 tmpsOf o.op.operands.toList++(match o.guard with|some (j,_)=>((ops[j]?).bind (·.dst)).toList|none=>[])
def writesIn (d:Option Nat)(l:List Nat):Bool :=
 match d with
 | some d=>l.contains d
 | none=>false
def clash (P:Program)(ops:List Oper)(x y:Oper):Bool :=
 writesIn x.dst (readsOf ops y) || writesIn y.dst (readsOf ops x) || (match x.dst,y.dst with|some d,some e=>d == e|_,_=>false) || (cls P x == 3 && cls P y == 3)
def pairsOk (P:Program)(ops:List Oper)(b:List Nat):List Oper->Nat->Bool
 | [],_=>true
 | o :: r,i=>(List.range i).all (fun j=>match ops[j]? with|some x=>!(clash P ops x o) || (b.getD i 0).testBit j|none=>false) && pairsOk P ops b r (i+1)
def edgesOk:List Oper->Nat->Bool
 | [],_=>true
 | o :: r,i=>o.after.toList.all (fun e=>!edgeOn e || decide (e.on < i)) && edgesOk r (i+1)
def clsOk (P:Program)(o:Oper):Bool:=match cls P o with|0|1|2|3=>true|_=>false
def drawOk (P:Program)(ops:List Oper):Bool:=edgesOk ops 0 && ops.all (clsOk P) && pairsOk P ops (befs ops []) ops 0
structure Rd where
 i:Nat
 agg:Bool
 sz:Nat
 a:Value
 v:Value
open Classical in
noncomputable def ask {α:Type}(p:Prop)(k:Option α):Option α:=if p then k else none
noncomputable def asks {α:Type}(m:Nat)(H:Hp):List Rd->Option α->Option α
 | [],k=>k
 | r :: rs,k=>if m.testBit r.i then asks m H rs k else ask (ld r.agg r.sz r.a H=some r.v) (asks m H rs k)
noncomputable def askB {α:Type}(m:Nat)(agg:Bool)(sz:Nat)(a v:Value):List (Nat × Hp)->Option α->Option α
 | [],k=>k
 | (i,H) :: hs,k=>if m.testBit i then askB m agg sz a v hs k else ask (ld agg sz a H=some v) (askB m agg sz a v hs k)
structure R5 where
 t:Tm
 H:Hp
 n:Nat
 rs:List Rd
 hs:List (Nat × Hp)
abbrev loadOf:Op->Option (TypeId × Operand)
 | .load ty a=>some (ty,a)
 | _=>none
noncomputable def Wr (P:Program)(C:Zb)(m:Nat)(o:Oper)(i id:Nat)(q:R5):Option R5 :=
 match loadOf o.op with
 | some (ty,a)=>
  (tab P ty).bind fun ti=>(ld ti.agg ti.size (ev q.t a) q.H).bind fun v=>
   askB m ti.agg ti.size (ev q.t a) v q.hs (some ⟨Xv q.t o.dst v,q.H,q.n,⟨i,ti.agg,ti.size,ev q.t a,v⟩ :: q.rs,q.hs⟩)
 | none=>
  (Xs P C o id q.t q.H q.n).bind fun p=>
   if cls P o == 3 then asks m p.2.1 q.rs (some ⟨p.1,p.2.1,p.2.2,q.rs,(i,q.H) :: q.hs⟩)
   else some ⟨p.1,p.2.1,p.2.2,q.rs,q.hs⟩
noncomputable def Xn (P:Program)(C:Zb)(ops:List Oper)(b:List Nat)(n0:Nat):List Oper->Nat->R5->Option R5
 | [],_,q=>some q
 | o :: r,i,q=>
  (Yl ops q.t o (Wr P C (b.getD i 0) o i (n0+i) q) (some { q with t:=Xv q.t o.dst (.tuple #[]) })).bind fun q=>Xn P C ops b n0 r (i+1) q
noncomputable def region (P:Program)(C:Zb)(ops:List Oper)(draw:Bool)(t:Tm)(H:Hp)(n:Nat):Option R3 :=
  if ops.all opsOk then
    (if draw then(if drawOk P ops then(Xn P C ops (befs ops []) n ops 0 ⟨t,H,n+ops.length,[],[]⟩).bind fun q=>some (q.t,q.H,q.n)else none)
     else Ww P C ops n ops 0 t H (n+ops.length))
  else none
inductive Ex where
 | normal
 | exit (id:Nat)
 | ret
structure Out where
 e:Ex
 t:Tm
 H:Hp
 n:Nat
def Xw (o:Out)(k:Tm->Hp->Nat->Option Out):Option Out :=
 match o.e with
 | .normal=>k o.t o.H o.n
 | _=>some o
abbrev outOf (id:Nat)(o:Out):Out :=
 match o.e with
 | .exit j=>if j=id then { o with e:=.normal } else o
 | _=>o
def csel {α:Type}(v:Value)(A B:Option α):Option α :=
 match v with
 | .bool b=>if b=true then A else B
 | _=>none
abbrev Zc:=Tm->Hp->Nat->Option Out
noncomputable def code (P:Program)(C:Zb)(Lp:Zc->Zc):Code->Zc
 | .skip=>fun t H n=>some ⟨.normal,t,H,n⟩
 | .region _ ops draw=>fun t H n=>(region P C ops.toList draw t H n).bind fun q=>some ⟨.normal,q.1,q.2.1,q.2.2⟩
 | .seq a b=>fun t H n=>(code P C Lp a t H n).bind fun o=>Xw o (code P C Lp b)
 | .cond c x y=>fun t H n=>csel (ev t c) (code P C Lp x t H n) (code P C Lp y t H n)
 | .block id c=>fun t H n=>(code P C Lp c t H n).bind fun o=>some (outOf id o)
 | .loop c=>Lp (code P C Lp c)
 | .exit id=>fun t H n=>some ⟨.exit id,t,H,n⟩
 | .ret=>fun t H n=>some ⟨.ret,t,H,n⟩
 | _=>fun _ _ _=>none
def iter:Nat->Zc->Zc
 | 0,_=>fun _ _ _=>none
 | k+1,φ=>fun t H n=>(φ t H n).bind fun o=>Xw o (iter k φ)
def dstsOps (m:Nat)(l:List Oper):Bool:=l.all fun o=>match o.dst with|some d=>decide (d < m)|none=>true
def condOk:Operand->Bool
 | .tmp _=>true
 | .const v=>gnd1 v
 | _=>false
def codeOk (m:Nat):Code->Bool
 | .skip=>true
 | .region _ ops _=>dstsOps m ops.toList
 | .seq a b=>codeOk m a && codeOk m b
 | .cond c x y=>condOk c && codeOk m x && codeOk m y
 | .block _ c=>codeOk m c
 | .loop c=>codeOk m c
 | .exit _=>true
 | .ret=>true
 | _=>false
def resV (P:Program)(t:Tm)(H:Hp):ResultVar->Option Value
 | .tmp i=>some (t i)
 | .cell a ty=>(tab P ty).bind fun ti=>ld ti.agg ti.size (t a) H
def resL (P:Program)(t:Tm)(H:Hp):List ResultVar->Option (List Value)
 | []=>some []
 | r :: rs=>(resV P t H r).bind fun v=>(resL P t H rs).bind fun l=>some (v :: l)
abbrev Yr {α:Type}(b:Bool)(x:Option α):Option α :=
 match b with
 | true=>x
 | false=>none
def notTup:Value->Bool
 | .tuple _=>false
 | _=>true
abbrev outV (l:List Value)(H:Hp)(n:Nat):Option (Value × Hp × Nat) :=
 match l with
 | [v]=>some (v,H,n)
 | l=>Yr (l.all notTup) (some (.tuple ⟨l⟩,H,n))
def finish (P:Program)(rs:List ResultVar)(o:Out):Option (Value × Hp × Nat) :=
 match o.e with
 | .exit _=>none
 | _=>(resL P o.t o.H rs).bind fun l=>outV l o.H o.n
def Zp (args:List Value):Tm:=fun i=>args.getD i (.tuple #[])
noncomputable def body (P:Program)(C:Zb)(Lp:Zc->Zc)(fn:Func)(args:List Value)(H:Hp)(n:Nat):Option (Value × Hp × Nat) :=
 match fn.body with
 | none=>none
 | some c => if codeOk fn.ntmps c = true ∧ (fn.name == "runtime.NumGoroutine") = false then (code P C Lp c (Zp args) H n).bind fun o => finish P fn.results.toList o else none
noncomputable def Vl (P:Program):Nat->Zb
 | 0=>fun _ _ _ _=>none
 | k+1=>fun f args H n=>
  match P.funcs[f]? with
  | some fn=>body P (Vl P k) (iter k) fn args H n
  | none=>none
section
variable {α:Type}
abbrev vHK (H:Hp)(v:Option Value)(k:Res->Option α):Option α:=v.bind fun v=>k (.val v H)
abbrev vPK (p:Option (Value × Hp)) (k:Res->Option α):Option α:=p.bind fun p=>k (.val p.1 p.2)
abbrev vSK (h:Option Hp)(k:Res->Option α):Option α:=h.bind fun h=>k (.skip h)
abbrev optK {β:Type}(x:Option β)(k:β->Option α):Option α :=
 match x with
 | some b=>k b
 | none=>none
theorem Wj {β:Type}(x:Option β)(k:β->Option α):optK x k=x.bind k:=by cases x <;> rfl
abbrev calleeK (v:Value)(args:List Value)(k:Res->Option α):Option α :=
 match v with
 | .func (.func f) first captured=>k (.call f (first.toList++args++captured.toList))
 | _=>none
def minV (x y:Value):Option Value :=
 match x,y with
 | .int k a,.int k' b=>if k=k' then some (.int k (if b < a then b else a))else none
 | _,_=>none
abbrev step1K (P:Program)(t:Tm)(o:Oper)(H:Hp)(id:Nat)(k:Res->Option α):Option α :=
 let f:=ev t
 match o.op with
 | .move x=>k (.val (f x) H)
 | .assign x=>k (.val (f x) H)
 | .pick c a b=>vHK H (Zl (f c) (f a) (f b)) k
 | .alloc ty=>optK (tab P ty) fun ti=>Yr (ti.zero.all gnd1) (k (.val (ptr id 0) (H.set id (some (.row ti.zero 0 true)))))
 | .box _ x=>(Zs (f x)).bind fun cs=>k (.val (ptr id 0) (H.set id (some (.row cs 0 true))))
 | .build ty parts=>optK (tab P ty) fun ti=>Yr (isStruct P ty && ti.zero.all gnd1) (optK (places P ty f parts.toList) fun ps=>vHK H (Xf ti.zero ps) k)
 | .buildSlice ty n parts=>optK (elemT P ty) fun te=>Yr (te.zero.all gnd1) (vPK (Xx id te.size n te.zero (elems te.size f parts.toList) H) k)
 | .load ty a=>optK (tab P ty) fun ti=>vHK H (ld ti.agg ti.size (f a) H) k
 | .store ty a x=>optK (tab P ty) fun ti=>vSK (st ti.agg ti.size (f a) (f x) H) k
 | .nilCheck x=>vHK H (Zh (f x)) k
 | .binOp op ty x y _=>vHK H (Zd (kindOf P op ty) op (f x) (f y)) k
 | .unOp op _ x=>vHK H (un op (f x)) k
 | .convert s d x=>vPK (conv (convK P s d) id (f x) H) k
 | .slice ty x lo hi mx=>Yr (!mx.isSome) (optK (sliceSz P ty) fun sz=>vHK H (Yt sz (f x) (lo.map f) (hi.map f)) k)
 | .fieldAddr s x i=>optK (fieldAt P s i) fun p=>vHK H (Za p.1 (f x)) k
 | .field s x i=>optK (fieldAt P s i) fun p=>vHK H (partV p.2.agg p.2.size p.1 (f x)) k
 | .indexAddr ty x i=>optK (elemT P ty) fun te=>vHK H (Zo te.size (f x) (f i)) k
 | .index ty x i=>optK (tab P ty) fun ti=>(match ti.desc with|.string=>vHK H (idxS (f x) (f i)) k|_=>none)
 | .makeSlice ty l c=>optK (elemT P ty) fun te=>Yr (te.zero.all gnd1) (vPK (mks id te.size te.bytes te.zero (f l) (f c) H) k)
 | .makeFunc fn first captured=>Yr first.toList.isEmpty (Yr ((captured.toList.map f).all ptrV) (match fn with|.func g=>k (.val (.func (.func g) #[] ⟨captured.toList.map f⟩) H)|_=>none))
 | .makeMap t r=>Yr (!r.isSome) (optK (mapT P t) fun _=>k (.val (.map (some id)) (H.set id (some (.map [])))))
 | .lookup t m kk ok=>optK (mapT P t) fun p=>(match p.2 with|[z]=>vHK H (lookV p.1 z ok (f m) (f kk) H) k|_=>none)
 | .mapUpdate t m kk x=>optK (mapT P t) fun p=>vSK (updV p.1 (f m) (f kk) (f x) H) k
 | .extract x i=>vHK H (ext i (f x)) k
 | .call c=>
  match c.callee with
  | .value g=>calleeK (f g) (c.args.toList.map f) k
  | .builtin .len=>(match c.args.toList,c.argTypes.toList with|[x],[ty]=>Yr (lenOk P ty) (vHK H (Zx (isStrT P ty) (f x)) k)|_,_=>none)
  | .builtin .append=>
   (match c.args.toList,c.argTypes.toList with
   | [s,x],[ty,ty2]=>optK (elemT P ty) fun te=>Yr (srcOk P ty2 && decide (te.size=te.zero.length) && decide (0 < te.size)) (vPK (app id te.size te.bytes (f s) (f x) H) k)
   | _,_=>none)
  | .builtin .min=>(match c.args.toList with|[x,y]=>vHK H (minV (f x) (f y)) k|_=>none)
  | _=>none
 | _=>none
theorem vHK_eq (H:Hp)(v:Option Value)(k:Res->Option α):vHK H v k=(vH H v).bind k:=by cases v <;> rfl
theorem vPK_eq (v:Option (Value × Hp)) (k:Res->Option α):vPK v k=(vP v).bind k:=by cases v <;> rfl
theorem vSK_eq (v:Option Hp)(k:Res->Option α):vSK v k=(vS v).bind k:=by cases v <;> rfl
theorem iteK_eq (b:Bool)(x:Option α):Yr b x=if b=true then x else none:=by cases b <;> rfl
theorem step1K_eq (P:Program)(t:Tm)(o:Oper)(H:Hp)(id:Nat)(k:Res->Option α):step1K P t o H id k=(step1 P t o H id).bind k:=by
 unfold step1K step1
 cases o.op with
 | build ty parts=>
  simp only[Wj,iteK_eq,vHK_eq]
  cases tab P ty with
  | none=>rfl
  | some ti=>
   simp only[Option.bind_some,Bool.and_eq_true]
   split
   ·cases places P ty (ev t) parts.toList <;> rfl
   ·rfl
 | call c=>
  obtain⟨callee,as,ts⟩:=c
  cases callee with
  | invoke r m=>rfl
  | value g=>
   simp only
   generalize ev t g=v
   unfold calleeK calleeV
   cases v with
   | func fn a b=>cases fn <;> rfl
   | _=>rfl
  | builtin b=>
   simp only
   generalize as.toList=l1
   generalize ts.toList=l2
   cases b with
   | len=>
    rcases l1 with _|⟨x,_|⟨y,l1⟩⟩ <;> rcases l2 with _|⟨u,_|⟨v,l2⟩⟩ <;> try rfl
    simp only[iteK_eq,vHK_eq];split <;> rfl
   | append=>
    rcases l1 with _|⟨x,_|⟨y,_|⟨z,l1⟩⟩⟩ <;> rcases l2 with _|⟨u,_|⟨v,_|⟨w,l2⟩⟩⟩ <;> try rfl
    simp only[Wj,iteK_eq,vPK_eq]
    cases elemT P u with
    | none=>rfl
    | some ti=>
     simp only[Option.bind_some,Bool.and_eq_true,decide_eq_true_eq,and_assoc]
     split <;> rfl
   | min=>
    rcases l1 with _|⟨x,_|⟨y,_|⟨z,l1⟩⟩⟩ <;> try rfl
    simp only[vHK_eq,minV]
    generalize ev t x=a
    generalize ev t y=b
    cases a <;> try rfl
    cases b <;> try rfl
    simp only
    split <;> rfl
   | _=>rfl
 | index ty x i=>
  simp only[Wj,vHK_eq]
  cases tab P ty with
  | none=>rfl
  | some ti=>simp only[Option.bind_some];cases ti.desc <;> rfl
 | lookup a b c d=>
  simp only[Wj,vHK_eq]
  cases mapT P a with
  | none=>rfl
  | some ti=>
   simp only[Option.bind_some]
   generalize ti.2=l
   rcases l with _|⟨x,_|⟨y,l⟩⟩ <;> rfl
 | makeFunc a b c=>
  simp only[iteK_eq]
  by_cases h1:b.toList.isEmpty=true
  ·by_cases h2:(List.map (ev t) c.toList).all ptrV=true
   ·rw[if_pos h1,if_pos h2,if_pos ⟨h1,h2⟩];cases a <;> rfl
   ·rw[if_pos h1,if_neg h2,if_neg fun h=>h2 h.2];rfl
  ·rw[if_neg h1,if_neg fun h=>h1 h.1];rfl
 | slice a b c d e=>
  cases e with
  | some x=>rfl
  | none=>
   simp only[Wj,vHK_eq,iteK_eq]
   cases sliceSz P a <;> rfl
 | makeMap a b=>
  cases b with
  | some x=>rfl
  | none=>
   simp only[Wj,iteK_eq]
   cases mapT P a <;> rfl
 | move x=>rfl
 | assign x=>rfl
 | pick c a b=>simp only[vHK_eq]
 | alloc ty=>
  simp only[Wj,iteK_eq]
  cases tab P ty with
  | none=>rfl
  | some ti=>simp only[Option.bind_some];split <;> rfl
 | box ty x=>simp only;cases Zs (ev t x) <;> rfl
 | buildSlice ty n ps=>
  simp only[Wj,iteK_eq,vPK_eq]
  cases elemT P ty with
  | none=>rfl
  | some ti=>simp only[Option.bind_some];split <;> rfl
 | load ty a=>simp only[Wj,vHK_eq];cases tab P ty <;> rfl
 | store ty a x=>simp only[Wj,vSK_eq];cases tab P ty <;> rfl
 | nilCheck x=>simp only[vHK_eq]
 | binOp a b c d e=>simp only[vHK_eq]
 | unOp a b c=>simp only[vHK_eq]
 | convert a b c=>simp only[vPK_eq]
 | fieldAddr s x i=>simp only[Wj,vHK_eq];cases fieldAt P s i <;> rfl
 | field s x i=>simp only[Wj,vHK_eq];cases fieldAt P s i <;> rfl
 | indexAddr s x i=>simp only[Wj,vHK_eq];cases elemT P s <;> rfl
 | makeSlice ty l c=>
  simp only[Wj,iteK_eq,vPK_eq]
  cases elemT P ty with
  | none=>rfl
  | some ti=>simp only[Option.bind_some];split <;> rfl
 | mapUpdate a b c d=>simp only[Wj,vSK_eq];cases mapT P a <;> rfl
 | extract x i=>simp only[vHK_eq]
 | _=>rfl
abbrev callOf:Op->Option (Operand × List Operand)
 | .call c=>
  match c.callee with
  | .value g=>some (g,c.args.toList)
  | _=>none
 | _=>none
def calleeP (v:Value)(args:List Value):Option (Nat × List Value) :=
 match v with
 | .func (.func f) first captured=>some (f,first.toList++args++captured.toList)
 | _=>none
abbrev exec1K (P:Program)(C:Zb)(o:Oper)(id:Nat)(t:Tm)(H:Hp)(n:Nat)(k:Tm->Hp->Nat->Option α):Option α :=
 match callOf o.op with
 | some p=>(calleeP (ev t p.1) (p.2.map (ev t))).bind fun c=>(C c.1 c.2 H n).bind fun q=>k (Xv t o.dst q.1) q.2.1 q.2.2
 | none=>
  step1K P t o H id fun r=>
   match r with
   | .val v H=>k (Xv t o.dst v) H n
   | .skip H=>k (Xv t o.dst (.tuple #[])) H n
   | .call _ _=>none
theorem step1_noCall (P:Program)(t:Tm)(o:Oper)(H:Hp)(id:Nat)(h:callOf o.op=none)(f:Nat)(args:List Value):step1 P t o H id≠some (.call f args):=by
 intro e
 unfold step1 at e
 cases ho:o.op with
 | call c=>
  rw[ho]at e h
  simp only at e
  obtain⟨callee,as,ts⟩:=c
  cases callee with
  | value g=>simp[callOf]at h
  | invoke r m=>cases e
  | builtin b=>
   simp only at e
   generalize as.toList=l1 at e
   generalize ts.toList=l2 at e
   cases b with
   | len=>
    rcases l1 with _|⟨x,_|⟨y,l1⟩⟩ <;> rcases l2 with _|⟨u,_|⟨v,l2⟩⟩ <;> try cases e
    simp only at e
    split at e
    ·unfold vH at e;cases hl:Zx (isStrT P u) (ev t x) <;> rw[hl]at e <;> cases e
    ·cases e
   | append=>
    rcases l1 with _|⟨x,_|⟨y,_|⟨z,l1⟩⟩⟩ <;> rcases l2 with _|⟨u,_|⟨v,_|⟨w,l2⟩⟩⟩ <;> try cases e
    simp only at e
    cases ht:elemT P u with
    | none=>rw[ht]at e;cases e
    | some te=>
     rw[ht]at e
     simp only[Option.bind_some]at e
     split at e
     ·unfold vP at e;cases hl:app id te.size te.bytes (ev t x) (ev t y) H <;> rw[hl]at e <;> cases e
     ·cases e
   | min=>
    rcases l1 with _|⟨x,_|⟨y,_|⟨z,l1⟩⟩⟩ <;> try cases e
    simp only at e
    split at e
    ·split at e <;> cases e
    ·cases e
   | _=>cases e
 | _=>
  rw[ho]at e
  simp only at e
  repeat' (first
   | (cases e;done)
   | split at e
   | (unfold vH at e;simp only[Option.bind_eq_some_iff]at e;obtain⟨_,_,e⟩:=e)
   | (unfold vP at e;simp only[Option.bind_eq_some_iff]at e;obtain⟨_,_,e⟩:=e)
   | (unfold vS at e;simp only[Option.bind_eq_some_iff]at e;obtain⟨_,_,e⟩:=e)
   | (simp only[Option.bind_eq_some_iff]at e;obtain⟨_,_,e⟩:=e)
   | (obtain⟨_,_,e⟩:=e))
theorem calleeV_eq (v:Value)(args:List Value):calleeV v args=(calleeP v args).bind fun c=>some (.call c.1 c.2):=by
 unfold calleeV calleeP
 cases v with
 | func fn a b=>cases fn <;> rfl
 | _=>rfl
theorem exec1K_eq (P:Program)(C:Zb)(o:Oper)(id:Nat)(t:Tm)(H:Hp)(n:Nat)(k:Tm->Hp->Nat->Option α) :
  exec1K P C o id t H n k=(Xs P C o id t H n).bind fun q=>k q.1 q.2.1 q.2.2:=by
 unfold exec1K Xs
 cases hc:callOf o.op with
 | some p=>
  simp only
  have e:step1 P t o H id=calleeV (ev t p.1) (p.2.map (ev t)):=by
   unfold callOf at hc
   unfold step1
   cases ho:o.op with
   | call c=>
    rw[ho]at hc
    obtain⟨callee,as,ts⟩:=c
    cases callee with
    | value g=>simp only[Option.some.injEq]at hc;subst hc;rfl
    | invoke r m=>cases hc
    | builtin b=>cases hc
   | _=>rw[ho]at hc;cases hc
  rw[e,calleeV_eq]
  cases calleeP (ev t p.1) (p.2.map (ev t))with
  | none=>rfl
  | some c=>simp only[Option.bind_some];cases C c.1 c.2 H n <;> rfl
 | none=>
  simp only
  rw[step1K_eq]
  cases hs:step1 P t o H id with
  | none=>rfl
  | some r=>
   cases r with
   | val v H=>rfl
   | skip H=>rfl
   | call f args=>exact absurd hs (step1_noCall P t o H id hc f args)
abbrev moveOf:Op->Option Operand
 | .move x=>some x
 | .assign x=>some x
 | _=>none
def sameG (d:Nat)(g:Nat × Bool)(o:Oper):Bool:=(match o.guard with|some g'=>g'.1 == g.1 && g'.2 == g.2|none=>false) && (match o.dst with|some e=>!(e == d)|none=>true)
def grp (d:Nat)(g:Nat × Bool):List Oper->Nat
 | []=>0
 | o :: r=>if sameG d g o then grp d g r+1 else 0
def undefs:List Oper->Tm->Tm
 | [],t=>t
 | o :: r,t=>undefs r (Xv t o.dst (.tuple #[]))
def runU (P:Program)(C:Zb)(n0:Nat):List Oper->Nat->Tm->Hp->Nat->(Tm->Hp->Nat->Option α)->Option α
 | [],_,t,H,n,k=>k t H n
 | o :: r,i,t,H,n,k=>exec1K P C o (n0+i) t H n fun t H n=>runU P C n0 r (i+1) t H n k
abbrev loneMove (g:Nat)(o:Oper):Option Operand :=
 match g with
 | 1=>moveOf o.op
 | _=>none
def runOpsK (P:Program)(C:Zb)(ops:List Oper)(n0:Nat):Nat->List Oper->Nat->Tm->Hp->Nat->(Tm->Hp->Nat->Option α)->Option α
 | 0,_,_,t,H,n,k=>k t H n
 | _+1,[],_,t,H,n,k=>k t H n
 | f+1,o :: r,i,t,H,n,k=>
  match o.guard with
  | none=>exec1K P C o (n0+i) t H n fun t H n=>runOpsK P C ops n0 f r (i+1) t H n k
  | some g=>
   match (ops[g.1]?).bind (·.dst)with
   | some d=>
    match loneMove (grp d g (o :: r)) o with
    | some x=>runOpsK P C ops n0 f r (i+1) (Xv t o.dst (gsel (t d) g.2 (ev t x) (.tuple #[]))) H n k
    | none=>
     match grp d g (o :: r)with
     | 0=>(gsel (t d) g.2 (exec1K P C o (n0+i) t H n fun t H n=>some (t,H,n)) (some (Xv t o.dst (.tuple #[]),H,n))).bind fun q=>runOpsK P C ops n0 f r (i+1) q.1 q.2.1 q.2.2 k
     | m+1=>(gsel (t d) g.2 (runU P C n0 ((o :: r).take (m+1)) i t H n fun t H n=>some (t,H,n)) (some (undefs ((o :: r).take (m+1)) t,H,n))).bind fun q=>runOpsK P C ops n0 f ((o :: r).drop (m+1)) (i+(m+1)) q.1 q.2.1 q.2.2 k
   | none=>runOpsK P C ops n0 f r (i+1) (Xv t o.dst (.tuple #[])) H n k
theorem exec1K_some (P:Program)(C:Zb)(o:Oper)(id:Nat)(t:Tm)(H:Hp)(n:Nat):(exec1K P C o id t H n fun t H n=>some (t,H,n))=Xs P C o id t H n:=by
 rw[exec1K_eq]
 cases Xs P C o id t H n <;> rfl
theorem gsel_some {β γ:Type}(v:Value)(w:Bool)(f:β->γ)(A B:β):gsel v w (some (f A)) (some (f B))=some (f (gsel v w A B)):=by
 unfold gsel;split
 ·split <;> rfl
 ·rfl
theorem exec1_move (P:Program)(C:Zb)(o:Oper)(id:Nat)(t:Tm)(H:Hp)(n:Nat)(x:Operand)(h:moveOf o.op=some x):Xs P C o id t H n=some (Xv t o.dst (ev t x),H,n):=by
 unfold Xs step1
 unfold moveOf at h
 split at h
 ·rename_i ho;simp only[ho];cases h;rfl
 ·rename_i ho;simp only[ho];cases h;rfl
 ·cases h
def runUd (P:Program)(C:Zb)(n0:Nat):List Oper->Nat->Tm->Hp->Nat->Option R3
 | [],_,t,H,n=>some (t,H,n)
 | o :: r,i,t,H,n=>(Xs P C o (n0+i) t H n).bind fun q=>runUd P C n0 r (i+1) q.1 q.2.1 q.2.2
theorem runU_eq (P:Program)(C:Zb)(n0:Nat):∀ (l:List Oper)(i:Nat)(t:Tm)(H:Hp)(n:Nat)(k:Tm->Hp->Nat->Option α),
  runU P C n0 l i t H n k=(runUd P C n0 l i t H n).bind fun q=>k q.1 q.2.1 q.2.2:=by
 intro l
 induction l with
 | nil=>intros;rfl
 | cons o r ih=>
  intro i t H n k
  simp only[runU,runUd]
  rw[exec1K_eq]
  cases Xs P C o (n0+i) t H n with
  | none=>rfl
  | some q=>simp only[Option.bind_some];exact ih ..
theorem grp_spec (d:Nat)(g:Nat × Bool):∀ (l:List Oper)(o:Oper),o∈l.take (grp d g l)->o.guard=some g/\o.dst≠some d:=by
 intro l
 induction l with
 | nil=>intro o h;simp[grp]at h
 | cons x r ih=>
  intro o h
  unfold grp at h
  split at h
  ·rename_i hs
   simp only[List.take_succ_cons,List.mem_cons]at h
   rcases h with rfl|h
   ·unfold sameG at hs
    simp only[Bool.and_eq_true]at hs
    obtain⟨h1,h2⟩:=hs
    constructor
    ·split at h1
     ·rename_i g' hg
      simp only[Bool.and_eq_true,beq_iff_eq]at h1
      rw[hg];exact congrArg some (Prod.ext h1.1 h1.2)
     ·cases h1
    ·intro hd;rw[hd]at h2;simp at h2
   ·exact ih o h
  ·simp at h
theorem put_ne (t:Tm)(d:Option Nat)(v:Value)(e:Nat)(h:d≠some e):Xv t d v e=t e:=by
 cases d with
 | none=>rfl
 | some d=>simp only[Xv,put];exact if_neg fun he=>h (by rw[he])
theorem exec1_keeps {P:Program}{C:Zb}{o:Oper}{id:Nat}{t:Tm}{H:Hp}{n:Nat}{q:R3}(h:Xs P C o id t H n=some q)(e:Nat)(he:o.dst≠some e):q.1 e=t e:=by
 unfold Xs at h
 simp only[Option.bind_eq_some_iff]at h
 obtain⟨r,_,h⟩:=h
 cases r with
 | val v H=>cases h;exact put_ne _ _ _ _ he
 | skip H=>cases h;exact put_ne _ _ _ _ he
 | call f args=>
  simp only[Option.bind_eq_some_iff]at h
  obtain⟨_,_,h⟩:=h
  cases h;exact put_ne _ _ _ _ he
theorem runOps_group (P:Program)(C:Zb)(ops:List Oper)(n0 d:Nat)(g:Nat × Bool)(hd:(ops[g.1]?).bind (·.dst)=some d) (l2:List Oper):∀ (l1:List Oper)(i:Nat)(t:Tm)(H:Hp)(n:Nat),
  (∀ o∈l1,o.guard=some g/\o.dst≠some d) ->
  Ww P C ops n0 (l1++l2) i t H n=(gsel (t d) g.2 (runUd P C n0 l1 i t H n) (some (undefs l1 t,H,n))).bind fun q=>Ww P C ops n0 l2 (i+l1.length) q.1 q.2.1 q.2.2:=by
 intro l1
 induction l1 with
 | nil=>
  intro i t H n _
  simp only[List.nil_append,runUd,undefs,List.length_nil,Nat.add_zero]
  unfold gsel
  split
  ·split <;> rfl
  ·rfl
 | cons o l1 ih=>
  intro i t H n hg
  have ho:=hg o (List.mem_cons_self ..)
  have hl:=fun x hx=>hg x (List.mem_cons_of_mem _ hx)
  simp only[List.cons_append,Ww,runUd,undefs,List.length_cons]
  have e:Yl ops t o (Xs P C o (n0+i) t H n) (some (Xv t o.dst (.tuple #[]),H,n))=gsel (t d) g.2 (Xs P C o (n0+i) t H n) (some (Xv t o.dst (.tuple #[]),H,n)):=by
   unfold Yl;rw[ho.1];obtain⟨j,w⟩:=g;simp only at hd ⊢;rw[hd]
  rw[e]
  have e2:i+(l1.length+1)=i+1+l1.length:=by omega
  rw[e2]
  unfold gsel
  split
  ·rename_i b hb
   split
   ·rename_i hw
    cases hx:Xs P C o (n0+i) t H n with
    | none=>rfl
    | some q=>
     simp only[Option.bind_some]
     rw[ih _ _ _ _ hl,exec1_keeps hx d ho.2,hb]
     simp only[gsel,hw,if_true]
   ·rename_i hw
    simp only[Option.bind_some]
    rw[ih _ _ _ _ hl,put_ne _ _ _ _ ho.2,hb]
    simp only[gsel,hw,if_false,Option.bind_some]
  ·rename_i hb
   simp only[Option.bind_some]
   rw[ih _ _ _ _ hl,put_ne _ _ _ _ ho.2]
   unfold gsel
   split
   ·rename_i b hb';exact absurd hb' (hb b)
   ·rfl
theorem runOpsK_eq (P:Program)(C:Zb)(ops:List Oper)(n0:Nat):∀ (f:Nat)(l:List Oper)(i:Nat)(t:Tm)(H:Hp)(n:Nat)(k:Tm->Hp->Nat->Option α),l.length<=f ->
  runOpsK P C ops n0 f l i t H n k=(Ww P C ops n0 l i t H n).bind fun q=>k q.1 q.2.1 q.2.2:=by
 intro f
 induction f with
 | zero=>
  intro l i t H n k hl
  have:l=[]:=List.length_eq_zero_iff.1 (by omega)
  subst this;rfl
 | succ f ih=>
  intro l i t H n k hl
  cases l with
  | nil=>rfl
  | cons o r=>
   have hr:r.length<=f:=by simpa using hl
   unfold runOpsK
   cases hg:o.guard with
   | none=>
    simp only[Ww,Yl,hg]
    rw[exec1K_eq]
    cases Xs P C o (n0+i) t H n with
    | none=>rfl
    | some q=>simp only[Option.bind_some];exact ih _ _ _ _ _ _ hr
   | some g=>
    simp only
    have step:∀ d,(ops[g.1]?).bind (·.dst)=some d->Yl ops t o (Xs P C o (n0+i) t H n) (some (Xv t o.dst (.tuple #[]),H,n))=gsel (t d) g.2 (Xs P C o (n0+i) t H n) (some (Xv t o.dst (.tuple #[]),H,n)):=by
     intro d hd
     unfold Yl;rw[hg];obtain⟨j,w⟩:=g;simp only at hd ⊢;rw[hd]
    cases hd:(ops[g.1]?).bind (·.dst)with
    | none=>
     simp only[Ww,Yl,hg]
     obtain⟨j,w⟩:=g
     simp only at hd ⊢
     rw[hd]
     simp only[Option.bind_some]
     exact ih _ _ _ _ _ _ hr
    | some d=>
     simp only
     cases hm:loneMove (grp d g (o :: r)) o with
     | some x=>
      simp only[Ww]
      have hm':moveOf o.op=some x:=by
       unfold loneMove at hm;split at hm
       ·exact hm
       ·cases hm
      rw[step d hd,exec1_move P C o _ t H n x hm',gsel_some (t d) g.2 (fun v=>(Xv t o.dst v,H,n)) (ev t x) (.tuple #[]),Option.bind_some]
      exact ih _ _ _ _ _ _ hr
     | none=>
      simp only
      cases hgr:grp d g (o :: r)with
      | zero=>
       simp only[Ww]
       rw[step d hd,exec1K_some]
       cases gsel (t d) g.2 (Xs P C o (n0+i) t H n) (some (Xv t o.dst (.tuple #[]),H,n))with
       | none=>rfl
       | some q=>simp only[Option.bind_some];exact ih _ _ _ _ _ _ hr
      | succ m=>
       simp only
       have hs:=grp_spec d g (o :: r)
       rw[hgr]at hs
       have happ:Ww P C ops n0 (o :: r) i t H n=Ww P C ops n0 ((o :: r).take (m+1)++(o :: r).drop (m+1)) i t H n:=by rw[List.take_append_drop]
       rw[happ,runOps_group P C ops n0 d g hd _ _ i t H n hs]
       have e1:(runU P C n0 ((o :: r).take (m+1)) i t H n fun t H n=>some (t,H,n))=runUd P C n0 ((o :: r).take (m+1)) i t H n:=by
        rw[runU_eq];cases runUd P C n0 ((o :: r).take (m+1)) i t H n <;> rfl
       rw[e1]
       have hlen:((o :: r).take (m+1)).length=m+1:=by
        have:grp d g (o :: r)<=(o :: r).length:=by
         clear hgr hs happ e1 hl hm
         generalize o :: r=l
         induction l with
         | nil=>simp[grp]
         | cons x l ihl=>unfold grp;split <;> simp <;> omega
        rw[List.length_take];omega
       rw[hlen]
       cases gsel (t d) g.2 (runUd P C n0 ((o :: r).take (m+1)) i t H n) (some (undefs ((o :: r).take (m+1)) t,H,n))with
       | none=>rfl
       | some q=>simp only[Option.bind_some];exact ih _ _ _ _ _ _ (by rw[List.length_drop];simp only[List.length_cons];omega)
noncomputable abbrev draw1K (P:Program) (C:Zb) (m:Nat) (o:Oper) (i id:Nat) (q:R5) (k:R5->Option α):Option α :=
 match loadOf o.op with
 | some (ty,a)=>
  optK (tab P ty) fun ti=>(ld ti.agg ti.size (ev q.t a) q.H).bind fun v=>
   askB m ti.agg ti.size (ev q.t a) v q.hs (k ⟨Xv q.t o.dst v,q.H,q.n,⟨i,ti.agg,ti.size,ev q.t a,v⟩ :: q.rs,q.hs⟩)
 | none=>
  exec1K P C o id q.t q.H q.n fun t H n=>
   if cls P o == 3 then asks m H q.rs (k ⟨t,H,n,q.rs,(i,q.H) :: q.hs⟩)
   else k ⟨t,H,n,q.rs,q.hs⟩
theorem ask_bind {β:Type}(p:Prop)(x:Option β)(k:β->Option α):(ask p x).bind k=ask p (x.bind k):=by
 unfold ask;split <;> rfl
theorem asks_bind {β:Type}(m:Nat)(H:Hp)(rs:List Rd)(x:Option β)(k:β->Option α):(asks m H rs x).bind k=asks m H rs (x.bind k):=by
 induction rs with
 | nil=>rfl
 | cons r rs ih=>
  unfold asks
  split
  ·exact ih
  ·rw[ask_bind,ih]
theorem askB_bind {β:Type}(m:Nat)(agg:Bool)(sz:Nat)(a v:Value)(hs:List (Nat × Hp)) (x:Option β)(k:β->Option α):(askB m agg sz a v hs x).bind k=askB m agg sz a v hs (x.bind k):=by
 induction hs with
 | nil=>rfl
 | cons r rs ih=>
  unfold askB
  split
  ·exact ih
  ·rw[ask_bind,ih]
theorem draw1K_eq (P:Program)(C:Zb)(m:Nat)(o:Oper)(i id:Nat)(q:R5)(k:R5->Option α):draw1K P C m o i id q k=(Wr P C m o i id q).bind k:=by
 unfold draw1K Wr
 cases loadOf o.op with
 | some p=>
  obtain⟨ty,a⟩:=p
  simp only
  rw[Wj]
  cases tab P ty with
  | none=>rfl
  | some ti=>
   simp only[Option.bind_some]
   cases ld ti.agg ti.size (ev q.t a) q.H with
   | none=>rfl
   | some v=>simp only[Option.bind_some,askB_bind]
 | none=>
  simp only
  rw[exec1K_eq]
  cases Xs P C o id q.t q.H q.n with
  | none=>rfl
  | some p=>
   simp only[Option.bind_some]
   split
   ·simp only[asks_bind,Option.bind_some]
   ·rfl
noncomputable def runDU (P:Program)(C:Zb)(b:List Nat)(n0:Nat):List Oper->Nat->R5->(R5->Option α)->Option α
 | [],_,q,k=>k q
 | o :: r,i,q,k=>draw1K P C (b.getD i 0) o i (n0+i) q fun q=>runDU P C b n0 r (i+1) q k
noncomputable def runDrawK (P:Program)(C:Zb)(ops:List Oper)(b:List Nat)(n0:Nat):Nat->List Oper->Nat->R5->(R5->Option α)->Option α
 | 0,_,_,q,k=>k q
 | _+1,[],_,q,k=>k q
 | f+1,o :: r,i,q,k=>
  match o.guard with
  | none=>draw1K P C (b.getD i 0) o i (n0+i) q fun q=>runDrawK P C ops b n0 f r (i+1) q k
  | some g=>
   match (ops[g.1]?).bind (·.dst)with
   | some d=>
    match loneMove (grp d g (o :: r)) o with
    | some x=>runDrawK P C ops b n0 f r (i+1) { q with t:=Xv q.t o.dst (gsel (q.t d) g.2 (ev q.t x) (.tuple #[])) } k
    | none=>
     match grp d g (o :: r)with
     | 0=>(gsel (q.t d) g.2 (draw1K P C (b.getD i 0) o i (n0+i) q some) (some { q with t:=Xv q.t o.dst (.tuple #[]) })).bind fun q=>runDrawK P C ops b n0 f r (i+1) q k
     | m+1=>(gsel (q.t d) g.2 (runDU P C b n0 ((o :: r).take (m+1)) i q some) (some { q with t:=undefs ((o :: r).take (m+1)) q.t })).bind fun q=>runDrawK P C ops b n0 f ((o :: r).drop (m+1)) (i+(m+1)) q k
   | none=>runDrawK P C ops b n0 f r (i+1) { q with t:=Xv q.t o.dst (.tuple #[]) } k
theorem draw1K_some (P:Program)(C:Zb)(m:Nat)(o:Oper)(i id:Nat)(q:R5):draw1K P C m o i id q some=Wr P C m o i id q:=by
 rw[draw1K_eq];cases Wr P C m o i id q <;> rfl
theorem draw1_move (P:Program)(C:Zb)(m:Nat)(o:Oper)(i id:Nat)(q:R5)(x:Operand)(h:moveOf o.op=some x):Wr P C m o i id q=some { q with t:=Xv q.t o.dst (ev q.t x) }:=by
 have e:=exec1_move P C o id q.t q.H q.n x h
 unfold moveOf at h
 unfold Wr loadOf
 have c:(cls P o == 3)=false:=by unfold cls;split at h <;> simp_all
 split at h
 ·rename_i ho;simp only[ho,e,c];rfl
 ·rename_i ho;simp only[ho,e,c];rfl
 ·cases h
noncomputable def runDUd (P:Program)(C:Zb)(b:List Nat)(n0:Nat):List Oper->Nat->R5->Option R5
 | [],_,q=>some q
 | o :: r,i,q=>(Wr P C (b.getD i 0) o i (n0+i) q).bind fun q=>runDUd P C b n0 r (i+1) q
theorem runDU_eq (P:Program)(C:Zb)(b:List Nat)(n0:Nat):∀ (l:List Oper)(i:Nat)(q:R5)(k:R5->Option α),runDU P C b n0 l i q k=(runDUd P C b n0 l i q).bind k:=by
 intro l
 induction l with
 | nil=>intros;rfl
 | cons o r ih=>
  intro i q k
  simp only[runDU,runDUd]
  rw[draw1K_eq]
  cases Wr P C (b.getD i 0) o i (n0+i) q with
  | none=>rfl
  | some q=>simp only[Option.bind_some];exact ih ..
theorem ask_some {p:Prop}{β:Type}{x:Option β}{r:β}(h:ask p x=some r):p/\x=some r:=by
 unfold ask at h;split at h
 ·exact⟨by assumption,h⟩
 ·cases h
theorem asks_some {m:Nat}{H:Hp}{rs:List Rd}{β:Type}{x:Option β}{r:β}(h:asks m H rs x=some r):(∀ d∈rs,m.testBit d.i=true∨ld d.agg d.sz d.a H=some d.v)/\x=some r:=by
 induction rs with
 | nil=>exact⟨by simp,h⟩
 | cons d rs ih=>
  unfold asks at h
  split at h
  ·rename_i hb
   obtain⟨h1,h2⟩:=ih h
   exact⟨fun e he=>by rcases List.mem_cons.1 he with rfl|he;exact .inl hb;exact h1 e he,h2⟩
  ·obtain⟨hp,h⟩:=ask_some h
   obtain⟨h1,h2⟩:=ih h
   exact⟨fun e he=>by rcases List.mem_cons.1 he with rfl|he;exact .inr hp;exact h1 e he,h2⟩
theorem askB_some {m:Nat}{agg:Bool}{sz:Nat}{a v:Value}{hs:List (Nat × Hp)}{β:Type}{x:Option β}{r:β}(h:askB m agg sz a v hs x=some r):(∀ d∈hs,m.testBit d.1=true∨ld agg sz a d.2=some v)/\x=some r:=by
 induction hs with
 | nil=>exact⟨by simp,h⟩
 | cons d hs ih=>
  unfold askB at h
  split at h
  ·rename_i hb
   obtain⟨h1,h2⟩:=ih h
   exact⟨fun e he=>by rcases List.mem_cons.1 he with rfl|he;exact .inl hb;exact h1 e he,h2⟩
  ·obtain⟨hp,h⟩:=ask_some h
   obtain⟨h1,h2⟩:=ih h
   exact⟨fun e he=>by rcases List.mem_cons.1 he with rfl|he;exact .inr hp;exact h1 e he,h2⟩
theorem draw1_keeps {P:Program}{C:Zb}{m:Nat}{o:Oper}{i id:Nat}{q r:R5}(h:Wr P C m o i id q=some r)(e:Nat)(he:o.dst≠some e):r.t e=q.t e:=by
 unfold Wr at h
 cases hl:loadOf o.op with
 | some p=>
  rw[hl]at h
  simp only[Option.bind_eq_some_iff]at h
  obtain⟨ti,_,v,_,h⟩:=h
  have:=(askB_some h).2
  cases this
  exact put_ne _ _ _ _ he
 | none=>
  rw[hl]at h
  simp only[Option.bind_eq_some_iff]at h
  obtain⟨p,hp,h⟩:=h
  split at h
  ·have:=(asks_some h).2
   cases this
   exact exec1_keeps hp e he
  ·cases h;exact exec1_keeps hp e he
theorem runDraw_group (P:Program)(C:Zb)(ops:List Oper)(b:List Nat)(n0 d:Nat)(g:Nat × Bool)(hd:(ops[g.1]?).bind (·.dst)=some d) (l2:List Oper):∀ (l1:List Oper)(i:Nat)(q:R5),
  (∀ o∈l1,o.guard=some g/\o.dst≠some d) ->
  Xn P C ops b n0 (l1++l2) i q=(gsel (q.t d) g.2 (runDUd P C b n0 l1 i q) (some { q with t:=undefs l1 q.t })).bind fun q=>Xn P C ops b n0 l2 (i+l1.length) q:=by
 intro l1
 induction l1 with
 | nil=>
  intro i q _
  simp only[List.nil_append,runDUd,undefs,List.length_nil,Nat.add_zero]
  unfold gsel
  split
  ·split <;> rfl
  ·rfl
 | cons o l1 ih=>
  intro i q hg
  have ho:=hg o (List.mem_cons_self ..)
  have hl:=fun x hx=>hg x (List.mem_cons_of_mem _ hx)
  simp only[List.cons_append,Xn,runDUd,undefs,List.length_cons]
  have e:Yl ops q.t o (Wr P C (b.getD i 0) o i (n0+i) q) (some { q with t:=Xv q.t o.dst (.tuple #[]) })=gsel (q.t d) g.2 (Wr P C (b.getD i 0) o i (n0+i) q) (some { q with t:=Xv q.t o.dst (.tuple #[]) }):=by
   unfold Yl;rw[ho.1];obtain⟨j,w⟩:=g;simp only at hd ⊢;rw[hd]
  rw[e]
  have e2:i+(l1.length+1)=i+1+l1.length:=by omega
  rw[e2]
  unfold gsel
  split
  ·rename_i c hb
   split
   ·rename_i hw
    cases hx:Wr P C (b.getD i 0) o i (n0+i) q with
    | none=>rfl
    | some q'=>
     simp only[Option.bind_some]
     rw[ih _ _ hl,draw1_keeps hx d ho.2,hb]
     simp only[gsel,hw,if_true]
   ·rename_i hw
    simp only[Option.bind_some]
    rw[ih _ _ hl]
    show Option.bind (gsel (Xv q.t o.dst (.tuple #[]) d) _ _ _) _=_
    rw[put_ne _ _ _ _ ho.2,hb]
    simp only[gsel,hw,if_false,Option.bind_some]
  ·rename_i hb
   simp only[Option.bind_some]
   rw[ih _ _ hl]
   show Option.bind (gsel (Xv q.t o.dst (.tuple #[]) d) _ _ _) _=_
   rw[put_ne _ _ _ _ ho.2]
   unfold gsel
   split
   ·rename_i c hb';exact absurd hb' (hb c)
   ·rfl
theorem grp_le (d:Nat)(g:Nat × Bool)(l:List Oper):grp d g l<=l.length:=by
 induction l with
 | nil=>simp[grp]
 | cons x l ihl=>unfold grp;split <;> simp <;> omega
theorem runDrawK_eq (P:Program)(C:Zb)(ops:List Oper)(b:List Nat)(n0:Nat):∀ (f:Nat)(l:List Oper)(i:Nat)(q:R5)(k:R5->Option α),l.length<=f ->
  runDrawK P C ops b n0 f l i q k=(Xn P C ops b n0 l i q).bind k:=by
 intro f
 induction f with
 | zero=>
  intro l i q k hl
  have:l=[]:=List.length_eq_zero_iff.1 (by omega)
  subst this;rfl
 | succ f ih=>
  intro l i q k hl
  cases l with
  | nil=>rfl
  | cons o r=>
   have hr:r.length<=f:=by simpa using hl
   unfold runDrawK
   cases hg:o.guard with
   | none=>
    simp only[Xn,Yl,hg]
    rw[draw1K_eq]
    cases Wr P C (b.getD i 0) o i (n0+i) q with
    | none=>rfl
    | some q=>simp only[Option.bind_some];exact ih _ _ _ _ hr
   | some g=>
    simp only
    have step:∀ d,(ops[g.1]?).bind (·.dst)=some d->Yl ops q.t o (Wr P C (b.getD i 0) o i (n0+i) q) (some { q with t:=Xv q.t o.dst (.tuple #[]) })=gsel (q.t d) g.2 (Wr P C (b.getD i 0) o i (n0+i) q) (some { q with t:=Xv q.t o.dst (.tuple #[]) }):=by
     intro d hd
     unfold Yl;rw[hg];obtain⟨j,w⟩:=g;simp only at hd ⊢;rw[hd]
    cases hd:(ops[g.1]?).bind (·.dst)with
    | none=>
     simp only[Xn,Yl,hg]
     obtain⟨j,w⟩:=g
     simp only at hd ⊢
     rw[hd]
     simp only[Option.bind_some]
     exact ih _ _ _ _ hr
    | some d=>
     simp only
     cases hm:loneMove (grp d g (o :: r)) o with
     | some x=>
      simp only[Xn]
      have hm':moveOf o.op=some x:=by
       unfold loneMove at hm;split at hm
       ·exact hm
       ·cases hm
      rw[step d hd,draw1_move P C _ o i _ q x hm',gsel_some (q.t d) g.2 (fun v=>({ q with t:=Xv q.t o.dst v }:R5)) (ev q.t x) (.tuple #[]),Option.bind_some]
      exact ih _ _ _ _ hr
     | none=>
      simp only
      cases hgr:grp d g (o :: r)with
      | zero=>
       simp only[Xn]
       rw[step d hd,draw1K_some]
       cases gsel (q.t d) g.2 (Wr P C (b.getD i 0) o i (n0+i) q) (some { q with t:=Xv q.t o.dst (.tuple #[]) })with
       | none=>rfl
       | some q=>simp only[Option.bind_some];exact ih _ _ _ _ hr
      | succ m=>
       simp only
       have hs:=grp_spec d g (o :: r)
       have hle:=grp_le d g (o :: r)
       rw[hgr]at hs hle
       have happ:Xn P C ops b n0 (o :: r) i q=Xn P C ops b n0 ((o :: r).take (m+1)++(o :: r).drop (m+1)) i q:=by rw[List.take_append_drop]
       rw[happ,runDraw_group P C ops b n0 d g hd _ _ i q hs]
       have e1:(runDU P C b n0 ((o :: r).take (m+1)) i q some)=runDUd P C b n0 ((o :: r).take (m+1)) i q:=by
        rw[runDU_eq];cases runDUd P C b n0 ((o :: r).take (m+1)) i q <;> rfl
       rw[e1]
       have hlen:((o :: r).take (m+1)).length=m+1:=by rw[List.length_take];omega
       rw[hlen]
       cases gsel (q.t d) g.2 (runDUd P C b n0 ((o :: r).take (m+1)) i q) (some { q with t:=undefs ((o :: r).take (m+1)) q.t })with
       | none=>rfl
       | some q=>simp only[Option.bind_some];exact ih _ _ _ _ (by rw[List.length_drop];simp only[List.length_cons];omega)
noncomputable abbrev regionK (P:Program) (C:Zb) (ops:List Oper) (draw:Bool) (t:Tm) (H:Hp) (n:Nat) (k:Tm->Hp->Nat->Option α):Option α :=
  Yr (ops.all opsOk)
    (match draw with
     | true=>Yr (drawOk P ops) (runDrawK P C ops (befs ops []) n ops.length ops 0 ⟨t,H,n+ops.length,[],[]⟩ fun q=>k q.t q.H q.n)
     | false=>runOpsK P C ops n ops.length ops 0 t H (n+ops.length) k)
theorem regionK_eq (P:Program)(C:Zb)(ops:List Oper)(draw:Bool)(t:Tm)(H:Hp)(n:Nat)(k:Tm->Hp->Nat->Option α) :
  regionK P C ops draw t H n k=(region P C ops draw t H n).bind fun q=>k q.1 q.2.1 q.2.2:=by
 unfold regionK region
 rw[iteK_eq]
 split
 ·cases draw with
  | false=>simp only[Bool.false_eq_true,if_false];exact runOpsK_eq _ _ _ _ _ _ _ _ _ _ _ (Nat.le_refl _)
  | true=>
   simp only[if_true]
   rw[iteK_eq]
   split
   ·rw[runDrawK_eq _ _ _ _ _ _ _ _ _ _ (Nat.le_refl _)]
    cases Xn P C ops (befs ops []) n ops 0 ⟨t,H,n+ops.length,[],[]⟩ <;> rfl
   ·rfl
 ·rfl
end
def exitsTo (id:Nat):Code->Bool
 | .exit j=>j == id
 | .seq a b=>exitsTo id a || exitsTo id b
 | .cond _ x y=>exitsTo id x || exitsTo id y
 | .block _ c=>exitsTo id c
 | .loop c=>exitsTo id c
 | _=>false
def falls:Code->Bool
 | .skip=>true
 | .region _ _ _=>true
 | .seq a b=>falls a && falls b
 | .cond _ x y=>falls x || falls y
 | .block id c=>falls c || exitsTo id c
 | _=>false
def cnt (id:Nat):Code->Nat
 | .exit j=>if j=id then 1 else 0
 | .seq a b=>cnt id a+cnt id b
 | .cond _ x y=>cnt id x+cnt id y
 | .block _ c=>cnt id c
 | .loop c=>cnt id c
 | _=>0
def Vn:List Nat->Code->Bool
 | _,.skip=>true
 | _,.region _ _ _=>true
 | ids,.seq a b=>Vn ids a && Vn ids b
 | ids,.cond _ x y=>Vn ids x && Vn ids y
 | ids,.block j c=>Vn (j :: ids) c
 | ids,.loop c=>Vn ids c
 | ids,.exit j=>ids.contains j
 | _,_=>false
def meets (id:Nat)(c:Code):Bool:=decide (2<=cnt id c+(if falls c then 1 else 0))
abbrev normK {α:Type}(nx:Bool)(k:Out->Option α)(o:Out):Option α :=
 match nx with
 | true=>k ⟨.normal,o.t,o.H,o.n⟩
 | false=>k o
abbrev condK {α:Type}(b:Bool)(x y:Option α):Option α :=
 match b with
 | true=>x
 | false=>y
abbrev Xe {α:Type}(o:Out)(x y:Option α):Option α :=
 match o.e with
 | .normal=>x
 | _=>y
noncomputable def Vb (P:Program)(C:Zb)(Lp:Zc->Zc):Code->(α:Type)->Tm->Hp->Nat->(Out->Option α)->Option α
 | .skip,_,t,H,n,k=>k ⟨.normal,t,H,n⟩
 | .region _ ops draw,_,t,H,n,k=>regionK P C ops.toList draw t H n fun t H n=>k ⟨.normal,t,H,n⟩
 | .seq a b,α,t,H,n,k=>Vb P C Lp a α t H n fun o=>Xe o (Vb P C Lp b α o.t o.H o.n k) (k o)
 | .cond c x y,α,t,H,n,k=>
   condK (falls x && falls y)
    ((csel (ev t c) (Vb P C Lp x Out t H n some) (Vb P C Lp y Out t H n some)).bind (normK (Vn [] x && Vn [] y) k))
    (csel (ev t c) (Vb P C Lp x α t H n k) (Vb P C Lp y α t H n k))
 | .block id (.loop c),_,t,H,n,k=>(Lp (fun t H n=>Vb P C Lp c Out t H n some) t H n).bind (normK (Vn [id] c) fun o=>k (outOf id o))
 | .block id c,α,t,H,n,k=>
   condK (meets id c)
    ((Vb P C Lp c Out t H n some).bind (normK (Vn [id] c) fun o=>k (outOf id o)))
    (Vb P C Lp c α t H n fun o=>k (outOf id o))
 | .loop c,_,t,H,n,k=>(Lp (fun t H n=>Vb P C Lp c Out t H n some) t H n).bind k
 | .exit id,_,t,H,n,k=>k ⟨.exit id,t,H,n⟩
 | .ret,_,t,H,n,k=>k ⟨.ret,t,H,n⟩
 | _,_,_,_,_,_=>none
def LpOk (Lp:Zc->Zc):Prop:=∀ φ t H n o,Lp φ t H n=some o->o.e≠.normal/\∃ t' H' n',φ t' H' n'=some o
def within (ids:List Nat):Ex->Prop
 | .normal=>True
 | .exit j=>j∈ids
 | .ret=>False
theorem noEsc_within (P:Program)(C:Zb)(Lp:Zc->Zc)(hL:LpOk Lp)(c:Code):∀ (ids:List Nat),Vn ids c=true->∀ (t:Tm)(H:Hp)(n:Nat)(o:Out),code P C Lp c t H n=some o->within ids o.e:=by
 induction c with
 | skip=>intro ids _ t H n o h;simp only[code,Option.some.injEq]at h;subst h;trivial
 | region id ops d=>
  intro ids _ t H n o h
  simp only[code,Option.bind_eq_some_iff,Option.some.injEq]at h
  obtain⟨q,_,rfl⟩:=h;trivial
 | seq a b iha ihb=>
  intro ids hc t H n o h
  simp only[Vn,Bool.and_eq_true]at hc
  simp only[code,Option.bind_eq_some_iff]at h
  obtain⟨o1,h1,h2⟩:=h
  unfold Xw at h2
  split at h2
  ·exact ihb ids hc.2 _ _ _ _ h2
  ·cases h2;exact iha ids hc.1 _ _ _ _ h1
 | cond c x y ihx ihy=>
  intro ids hc t H n o h
  simp only[Vn,Bool.and_eq_true]at hc
  simp only[code,csel]at h
  split at h
  ·split at h
   ·exact ihx ids hc.1 _ _ _ _ h
   ·exact ihy ids hc.2 _ _ _ _ h
  ·cases h
 | block id c ih=>
  intro ids hc t H n o h
  simp only[Vn]at hc
  simp only[code,Option.bind_eq_some_iff,Option.some.injEq]at h
  obtain⟨o1,h1,rfl⟩:=h
  have:=ih _ hc _ _ _ _ h1
  unfold outOf
  revert this
  obtain⟨e,t1,H1,n1⟩:=o1
  cases e with
  | normal=>intro;trivial
  | ret=>intro h;exact h
  | exit j=>
   intro hj
   simp only
   split
   ·trivial
   ·simp only[within,List.mem_cons]at hj ⊢
    exact hj.resolve_left (by assumption)
 | loop c ih=>
  intro ids hc t H n o h
  simp only[Vn]at hc
  simp only[code]at h
  obtain⟨_,t',H',n',h'⟩:=hL _ _ _ _ _ h
  exact ih ids hc _ _ _ _ h'
 | exit id=>
  intro ids hc t H n o h
  simp only[code,Option.some.injEq]at h
  subst h
  simpa[Vn,within]using hc
 | ret=>intro ids hc;simp[Vn]at hc
 | _=>intro ids hc;simp[Vn]at hc
theorem csel_bind {α β:Type}(v:Value)(A B:Option β)(k:β->Option α):(csel v A B).bind k=csel v (A.bind k) (B.bind k):=by
 unfold csel;split
 ·split <;> rfl
 ·rfl
theorem norm_of {P:Program}{C:Zb}{Lp:Zc->Zc}(hL:LpOk Lp){c:Code}{α:Type}{id:Nat}{t:Tm}{H:Hp}{n:Nat}(k:Out->Option α) :
  (code P C Lp c t H n).bind (normK (Vn [id] c) fun o=>k (outOf id o))=(code P C Lp c t H n).bind fun o=>k (outOf id o):=by
 cases hc:code P C Lp c t H n with
 | none=>rfl
 | some o=>
  simp only[Option.bind_some]
  cases hb:Vn [id] c with
  | false=>rfl
  | true=>
   have:=noEsc_within P C Lp hL c [id] hb t H n o hc
   revert this
   obtain⟨e,t1,H1,n1⟩:=o
   cases e with
   | normal=>intro;rfl
   | ret=>intro h;exact h.elim
   | exit j=>
    intro hj
    simp only[within,List.mem_singleton]at hj
    subst hj
    simp[normK,outOf]
theorem codeK_eq (P:Program)(C:Zb)(Lp:Zc->Zc)(hL:LpOk Lp)(c:Code):∀ {α:Type}(t:Tm)(H:Hp)(n:Nat)(k:Out->Option α),
  Vb P C Lp c α t H n k=(code P C Lp c t H n).bind k:=by
 induction c with
 | region id ops d=>
  intro α t H n k
  simp only[Vb,code]
  rw[regionK_eq]
  cases region P C ops.toList d t H n <;> rfl
 | seq a b iha ihb=>
  intro α t H n k
  simp only[Vb,code]
  rw[iha]
  cases code P C Lp a t H n with
  | none=>rfl
  | some o=>
   simp only[Option.bind_some,Xw,Xe]
   cases o.e with
   | normal=>simp only;exact ihb ..
   | exit id=>rfl
   | ret=>rfl
 | cond c x y ihx ihy=>
  intro α t H n k
  simp only[Vb,code]
  have ex:Vb P C Lp x Out t H n some=code P C Lp x t H n:=by rw[ihx];cases code P C Lp x t H n <;> rfl
  have ey:Vb P C Lp y Out t H n some=code P C Lp y t H n:=by rw[ihy];cases code P C Lp y t H n <;> rfl
  cases falls x && falls y with
  | false=>simp only[condK];rw[ihx,ihy,csel_bind]
  | true=>
   simp only[condK]
   rw[ex,ey]
   cases hb:Vn [] x && Vn [] y with
   | false=>rfl
   | true=>
    rw[csel_bind,csel_bind]
    simp only[Bool.and_eq_true]at hb
    have nx:∀ z,Vn [] z=true->(code P C Lp z t H n).bind (normK true k)=(code P C Lp z t H n).bind k:=by
     intro z hz
     cases hc:code P C Lp z t H n with
     | none=>rfl
     | some o=>
      have:=noEsc_within P C Lp hL z [] hz t H n o hc
      revert this
      obtain⟨e,t1,H1,n1⟩:=o
      cases e with
      | normal=>intro;rfl
      | ret=>intro h;exact h.elim
      | exit j=>intro h;simp[within]at h
    rw[nx x hb.1,nx y hb.2]
 | block id c ih=>
  intro α t H n k
  have e:∀ t H n,Vb P C Lp c Out t H n some=code P C Lp c t H n:=by intro t H n;rw[ih];cases code P C Lp c t H n <;> rfl
  have fin:(code P C Lp (.block id c) t H n).bind k=(code P C Lp c t H n).bind fun o=>k (outOf id o):=by
   simp only[code];cases code P C Lp c t H n <;> rfl
  rw[fin]
  have gen:condK (meets id c) ((Vb P C Lp c Out t H n some).bind (normK (Vn [id] c) fun o=>k (outOf id o))) (Vb P C Lp c α t H n fun o=>k (outOf id o))=(code P C Lp c t H n).bind fun o=>k (outOf id o):=by
   cases meets id c with
   | true=>simp only[condK];rw[e,norm_of hL]
   | false=>simp only[condK];rw[ih]
  cases c with
  | loop b=>
   simp only[Vb]
   have h1:=e t H n
   simp only[Vb]at h1
   have h2:Lp (fun t H n=>Vb P C Lp b Out t H n some) t H n=code P C Lp (.loop b) t H n:=by
    rw[← h1];cases Lp (fun t H n=>Vb P C Lp b Out t H n some) t H n <;> rfl
   rw[h2]
   exact norm_of (c:=.loop b) hL k
  | _=>exact gen
 | loop c ih=>
  intro α t H n k
  simp only[Vb,code]
  have e:(fun t H n=>Vb P C Lp c Out t H n some)=code P C Lp c:=by
   funext t H n;rw[ih];cases code P C Lp c t H n <;> rfl
  rw[e]
 | skip=>intros;rfl
 | exit id=>intros;rfl
 | ret=>intros;rfl
 | _=>intros;rfl
def resLK {α:Type}(P:Program)(t:Tm)(H:Hp):List ResultVar->(List Value->Option α)->Option α
 | [],k=>k []
 | .tmp i :: rs,k=>resLK P t H rs fun l=>k (t i :: l)
 | .cell a ty :: rs,k=>optK (tab P ty) fun ti=>(ld ti.agg ti.size (t a) H).bind fun v=>resLK P t H rs fun l=>k (v :: l)
theorem resLK_eq {α:Type}(P:Program)(t:Tm)(H:Hp)(rs:List ResultVar):∀ (k:List Value->Option α),resLK P t H rs k=(resL P t H rs).bind k:=by
 induction rs with
 | nil=>intro k;rfl
 | cons r rs ih=>
  intro k
  cases r with
  | tmp i=>
   simp only[resLK,resL,resV,Option.bind_some]
   rw[ih];cases resL P t H rs <;> rfl
  | cell a ty=>
   simp only[resLK,resL,resV,Wj]
   cases tab P ty with
   | none=>rfl
   | some ti=>
    simp only[Option.bind_some]
    cases ld ti.agg ti.size (t a) H with
    | none=>rfl
    | some v=>
     simp only[Option.bind_some]
     rw[ih];cases resL P t H rs <;> rfl
abbrev Vs {α:Type}(e:Ex)(x:Option α):Option α :=
 match e with
 | .exit _=>none
 | _=>x
abbrev finishK (P:Program)(rs:List ResultVar)(o:Out):Option (Value × Hp × Nat) :=
 Vs o.e (resLK P o.t o.H rs fun l=>outV l o.H o.n)
theorem finishK_eq (P:Program)(rs:List ResultVar)(o:Out):finishK P rs o=finish P rs o:=by
 unfold finishK finish Vs
 cases o.e with
 | exit id=>rfl
 | normal=>simp only;rw[resLK_eq]
 | ret=>simp only;rw[resLK_eq]
noncomputable abbrev Zq (P:Program) (C:Zb) (Lp:Zc->Zc) (fn:Func) (t:Tm) (H:Hp) (n:Nat):Option (Value × Hp × Nat) :=
 match fn.body with
 | none=>none
 | some c => Yr (codeOk fn.ntmps c && !(fn.name == "runtime.NumGoroutine")) (Vb P C Lp c (Value × Hp × Nat) t H n (finishK P fn.results.toList))
theorem bodyK_eq (P:Program)(C:Zb)(Lp:Zc->Zc)(hL:LpOk Lp)(fn:Func)(args:List Value)(H:Hp)(n:Nat):Zq P C Lp fn (Zp args) H n=body P C Lp fn args H n:=by
 unfold Zq body
 cases fn.body with
 | none=>rfl
 | some c=>
  simp only[iteK_eq,Bool.and_eq_true,Bool.not_eq_true']
  split
  ·rw[codeK_eq P C Lp hL]
   congr 1
   funext o
   exact finishK_eq ..
  ·rfl
structure Le {α:Type}(x y:Option α):Prop where
 to:∀ r,x=some r->y=some r
theorem Le.refl {α:Type}(x:Option α):Le x x:=⟨fun _ h=>h⟩
theorem Le.none {α:Type}(x:Option α):Le none x:=⟨fun _ h=>by cases h⟩
theorem Le.trans {α:Type}{x y z:Option α}(h:Le x y)(h':Le y z):Le x z:=⟨fun r hr=>h'.to r (h.to r hr)⟩
theorem Le.bind {α β:Type}{x y:Option α}{f g:α->Option β}(h:Le x y)(h':∀ a,Le (f a) (g a)):Le (x.bind f) (y.bind g):=by
 refine⟨fun r hr=>?_⟩
 cases x with
 | none=>cases hr
 | some a=>rw[h.to a rfl];exact(h' a).to r hr
theorem Le.ite {α:Type}{p:Prop} [Decidable p] {x y x' y':Option α}(h:Le x x')(h':Le y y'):Le (if p then x else y) (if p then x' else y'):=by
 split
 ·exact h
 ·exact h'
theorem Le.gsel {α:Type}(v:Value)(w:Bool){x y x' y':Option α}(h:Le x x')(h':Le y y'):Le (gsel v w x y) (gsel v w x' y'):=by
 unfold Ax.gsel;split
 ·exact Le.ite h h'
 ·exact h'
theorem Le.csel {α:Type}(v:Value){x y x' y':Option α}(h:Le x x')(h':Le y y'):Le (csel v x y) (csel v x' y'):=by
 unfold Ax.csel;split
 ·exact Le.ite h h'
 ·exact Le.none _
theorem Le.ask {α:Type}(p:Prop){x y:Option α}(h:Le x y):Le (ask p x) (ask p y):=by
 unfold Ax.ask
 split
 ·exact h
 ·exact Le.none _
theorem Le.asks {α:Type}(m:Nat)(H:Hp)(rs:List Rd){x y:Option α}(h:Le x y):Le (asks m H rs x) (asks m H rs y):=by
 induction rs with
 | nil=>exact h
 | cons r rs ih=>unfold Ax.asks;exact Le.ite ih (Le.ask _ ih)
theorem Le.askB {α:Type}(m:Nat)(agg:Bool)(sz:Nat)(a v:Value)(hs:List (Nat × Hp)){x y:Option α}(h:Le x y):Le (askB m agg sz a v hs x) (askB m agg sz a v hs y):=by
 induction hs with
 | nil=>exact h
 | cons r rs ih=>unfold Ax.askB;exact Le.ite ih (Le.ask _ ih)
def CLe (C C':Zb):Prop:=∀ f args H n,Le (C f args H n) (C' f args H n)
def BLe (φ ψ:Zc):Prop:=∀ t H n,Le (φ t H n) (ψ t H n)
def LLe (L L':Zc->Zc):Prop:=∀ φ ψ,BLe φ ψ->BLe (L φ) (L' ψ)
theorem exec1_le {P:Program}{C C':Zb}(h:CLe C C')(o:Oper)(id:Nat)(t:Tm)(H:Hp)(n:Nat):Le (Xs P C o id t H n) (Xs P C' o id t H n):=by
 unfold Xs
 refine Le.bind (Le.refl _) fun r=>?_
 cases r with
 | val v H=>exact Le.refl _
 | skip H=>exact Le.refl _
 | call f args=>exact Le.bind (h ..) fun q=>Le.refl _
theorem guardSel_le {α:Type}(ops:List Oper)(t:Tm)(o:Oper){x y x' y':Option α}(h:Le x x')(h':Le y y'):Le (Yl ops t o x y) (Yl ops t o x' y'):=by
 unfold Yl
 split
 ·exact h
 ·split
  ·exact Le.gsel _ _ h h'
  ·exact h'
theorem runOps_le {P:Program}{C C':Zb}(h:CLe C C')(ops:List Oper)(n0:Nat):∀ (l:List Oper)(i:Nat)(t:Tm)(H:Hp)(n:Nat),Le (Ww P C ops n0 l i t H n) (Ww P C' ops n0 l i t H n):=by
 intro l
 induction l with
 | nil=>intros;exact Le.refl _
 | cons o r ih=>intro i t H n;exact Le.bind (guardSel_le _ _ _ (exec1_le h ..) (Le.refl _)) fun q=>ih ..
theorem draw1_le {P:Program}{C C':Zb}(h:CLe C C')(m:Nat)(o:Oper)(i id:Nat)(q:R5):Le (Wr P C m o i id q) (Wr P C' m o i id q):=by
 unfold Wr
 cases loadOf o.op with
 | some p=>exact Le.refl _
 | none=>
  refine Le.bind (exec1_le h ..) fun p=>Le.ite (Le.refl _) (Le.refl _)
theorem runDraw_le {P:Program}{C C':Zb}(h:CLe C C')(ops:List Oper)(b:List Nat)(n0:Nat):∀ (l:List Oper)(i:Nat)(q:R5),Le (Xn P C ops b n0 l i q) (Xn P C' ops b n0 l i q):=by
 intro l
 induction l with
 | nil=>intros;exact Le.refl _
 | cons o r ih=>intro i q;exact Le.bind (guardSel_le _ _ _ (draw1_le h ..) (Le.refl _)) fun q=>ih ..
theorem region_le {P:Program}{C C':Zb}(h:CLe C C')(ops:List Oper)(d:Bool)(t:Tm)(H:Hp)(n:Nat):Le (region P C ops d t H n) (region P C' ops d t H n):=by
 unfold region
 refine Le.ite (Le.ite (Le.ite (Le.bind (runDraw_le h ..) fun q=>Le.refl _) (Le.refl _)) (runOps_le h ..)) (Le.refl _)
theorem thenO_le (o:Out){k k':Zc}(h:BLe k k'):Le (Xw o k) (Xw o k'):=by
 unfold Xw;split
 ·exact h ..
 ·exact Le.refl _
theorem code_le {P:Program}{C C':Zb}(h:CLe C C'){L L':Zc->Zc}(hL:LLe L L')(c:Code):BLe (code P C L c) (code P C' L' c):=by
 induction c with
 | region id ops d=>intro t H n;exact Le.bind (region_le h ..) fun q=>Le.refl _
 | seq a b iha ihb=>intro t H n;exact Le.bind (iha ..) fun o=>thenO_le o ihb
 | cond c x y ihx ihy=>intro t H n;exact Le.csel _ (ihx ..) (ihy ..)
 | block id c ih=>intro t H n;exact Le.bind (ih ..) fun o=>Le.refl _
 | loop c ih=>exact hL _ _ ih
 | _=>intro t H n;exact Le.refl _
theorem iter_le (k:Nat):LLe (iter k) (iter k):=by
 induction k with
 | zero=>intro φ ψ h t H n;exact Le.refl _
 | succ k ih=>intro φ ψ h t H n;exact Le.bind (h ..) fun o=>thenO_le o (ih _ _ h)
theorem iter_more (φ:Zc)(k:Nat):BLe (iter k φ) (iter (k+1) φ):=by
 induction k with
 | zero=>intro t H n;exact Le.none _
 | succ k ih=>intro t H n;exact Le.bind (Le.refl _) fun o=>thenO_le o ih
theorem iter_step (k:Nat):LLe (iter k) (iter (k+1)):=fun φ ψ h t H n=>Le.trans (iter_le k φ ψ h t H n) (iter_more ψ k t H n)
theorem body_le {P:Program}{C C':Zb}(h:CLe C C'){L L':Zc->Zc}(hL:LLe L L')(fn:Func)(args:List Value)(H:Hp)(n:Nat):Le (body P C L fn args H n) (body P C' L' fn args H n):=by
 unfold body
 split
 ·exact Le.refl _
 ·exact Le.ite (Le.bind (code_le h hL ..) fun o=>Le.refl _) (Le.refl _)
theorem Vg (P:Program)(k:Nat):CLe (Vl P k) (Vl P (k+1)):=by
 induction k with
 | zero=>intro f args H n;exact Le.none _
 | succ k ih=>
  intro f args H n
  show Le (match P.funcs[f]? with|some fn=>body P (Vl P k) (iter k) fn args H n|none=>none) (match P.funcs[f]? with|some fn=>body P (Vl P (k+1)) (iter (k+1)) fn args H n|none=>none)
  split
  ·exact body_le ih (iter_step k) ..
  ·exact Le.refl _
theorem mono_of {α:Type}{g:Nat->Option α}(h:∀ k,Le (g k) (g (k+1))){j k:Nat}(hjk:j<=k):Le (g j) (g k):=by
 obtain⟨d,rfl⟩:=Nat.exists_eq_add_of_le hjk
 induction d with
 | zero=>exact Le.refl _
 | succ d ih=>exact Le.trans (ih (by omega)) (h _)
open Classical in
noncomputable def lim {α:Type}(g:Nat->Option α):Option α:=if h:∃ r k,g k=some r then some h.choose else none
theorem lim_some {α:Type}{g:Nat->Option α}(hg:∀ k,Le (g k) (g (k+1))){r:α}:lim g=some r↔∃ k,g k=some r:=by
 unfold lim
 constructor
 ·intro h
  split at h
  ·rename_i hx
   obtain⟨k,hk⟩:=hx.choose_spec
   injection h with h
   exact⟨k,by rw[hk,h]⟩
  ·cases h
 ·rintro⟨k,hk⟩
  have hx:∃ r k,g k=some r:=⟨r,k,hk⟩
  rw[dif_pos hx]
  obtain⟨j,hj⟩:=hx.choose_spec
  have h1:=(mono_of hg (Nat.le_max_left j k)).to _ hj
  have h2:=(mono_of hg (Nat.le_max_right j k)).to _ hk
  rw[h1]at h2
  exact h2
theorem Le.lim {α:Type}{g:Nat->Option α}(hg:∀ k,Le (g k) (g (k+1))) (k:Nat):Le (g k) (lim g):=⟨fun _ h=>(lim_some hg).2 ⟨k,h⟩⟩
theorem lim_le {α:Type}{g:Nat->Option α}(hg:∀ k,Le (g k) (g (k+1))){x:Option α}(h:∀ k,Le (g k) x):Le (lim g) x:=by
 refine⟨fun r hr=>?_⟩
 obtain⟨k,hk⟩:=(lim_some hg).1 hr
 exact(h k).to r hk
theorem Le.antisymm {α:Type}{x y:Option α}(h:Le x y)(h':Le y x):x=y:=by
 cases x with
 | some a=>rw[h.to a rfl]
 | none=>
  cases y with
  | none=>rfl
  | some b=>rw[h'.to b rfl]
noncomputable def Call (P:Program):Zb:=fun f args H n=>lim fun k=>Vl P k f args H n
noncomputable def Zm (φ:Zc):Zc:=fun t H n=>lim fun k=>iter k φ t H n
theorem Call_some {P:Program}{f:Nat}{args:List Value}{H:Hp}{n:Nat}{r:Value × Hp × Nat}:Call P f args H n=some r↔∃ k,Vl P k f args H n=some r :=
 lim_some (g:=fun k=>Vl P k f args H n) fun k=>Vg P k f args H n
theorem Loop_some {φ:Zc}{t:Tm}{H:Hp}{n:Nat}{o:Out}:Zm φ t H n=some o↔∃ k,iter k φ t H n=some o :=
 lim_some (g:=fun k=>iter k φ t H n) fun k=>iter_more φ k t H n
theorem Loop_eq (φ:Zc)(t:Tm)(H:Hp)(n:Nat):Zm φ t H n=(φ t H n).bind fun o=>Xw o (Zm φ):=by
 refine Le.antisymm ?_ ?_
 ·refine lim_le (fun k=>iter_more φ k t H n) fun k=>?_
  cases k with
  | zero=>exact Le.none _
  | succ k=>exact Le.bind (Le.refl _) fun o=>thenO_le o fun t H n=>Le.lim (g:=fun k=>iter k φ t H n) (fun k=>iter_more φ k t H n) k
 ·refine⟨fun r hr=>?_⟩
  cases ho:φ t H n with
  | none=>rw[ho]at hr;cases hr
  | some o=>
   rw[ho,Option.bind_some]at hr
   unfold Xw at hr
   split at hr
   ·rename_i he
    obtain⟨k,hk⟩:=Loop_some.1 hr
    refine Loop_some.2 ⟨k+1,?_⟩
    show(φ t H n).bind (fun o=>Xw o (iter k φ))=some r
    rw[ho,Option.bind_some]
    unfold Xw
    rw[he]
    exact hk
   ·rename_i he
    refine Loop_some.2 ⟨1,?_⟩
    show(φ t H n).bind (fun o=>Xw o (iter 0 φ))=some r
    rw[ho,Option.bind_some]
    unfold Xw
    split
    ·rename_i he';exact absurd he' he
    ·exact hr
theorem Loop_ok:LpOk Zm:=by
 intro φ t H n o h
 obtain⟨k,hk⟩:=Loop_some.1 h
 clear h
 induction k generalizing t H n with
 | zero=>cases hk
 | succ k ih=>
  simp only[iter,Option.bind_eq_some_iff]at hk
  obtain⟨o1,h1,h2⟩:=hk
  unfold Xw at h2
  split at h2
  ·exact ih _ _ _ h2
  ·rename_i he;cases h2;exact⟨he,t,H,n,h1⟩
theorem iter_Loop (k:Nat):LLe (iter k) Zm:=fun φ ψ h t H n=>Le.trans (iter_le k φ ψ h t H n) (Le.lim (g:=fun k=>iter k ψ t H n) (fun k=>iter_more ψ k t H n) k)
theorem acall_Call (P:Program)(k:Nat):CLe (Vl P k) (Call P):=fun f args H n=>Le.lim (g:=fun k=>Vl P k f args H n) (fun k=>Vg P k f args H n) k
noncomputable def appr (P:Program)(k:Nat)(c:Code):Zc:=fun t H n=>code P (Vl P k) (iter k) c t H n
theorem appr_step (P:Program)(c:Code)(k:Nat):BLe (appr P k c) (appr P (k+1) c):=code_le (Vg P k) (iter_step k) c
theorem exec1_cont {P:Program}(o:Oper)(id:Nat)(t:Tm)(H:Hp)(n:Nat)(r:R3)(h:Xs P (Call P) o id t H n=some r):∃ k,Xs P (Vl P k) o id t H n=some r:=by
 unfold Xs at h ⊢
 cases hs:step1 P t o H id with
 | none=>rw[hs]at h;cases h
 | some s=>
  rw[hs]at h
  simp only[Option.bind_some]at h ⊢
  cases s with
  | val v H=>exact⟨0,h⟩
  | skip H=>exact⟨0,h⟩
  | call f args=>
   simp only[Option.bind_eq_some_iff]at h
   obtain⟨q,hq,hr⟩:=h
   obtain⟨k,hk⟩:=Call_some.1 hq
   exact⟨k,by simp only[hk,Option.bind_some];exact hr⟩
theorem guardSel_cont {α:Type}(ops:List Oper)(t:Tm)(o:Oper){x:Option α}{y:Option α}{g:Nat->Option α}{r:α}(hx:∀ r,x=some r->∃ k,g k=some r)(h:Yl ops t o x y=some r):∃ k,Yl ops t o (g k) y=some r:=by
 unfold Yl at h ⊢
 split at h
 ·exact hx r h
 ·split at h
  ·unfold gsel at h ⊢
   split at h
   ·split at h
    ·rename_i hb
     obtain⟨k,hk⟩:=hx r h
     exact⟨k,by rw[if_pos hb];exact hk⟩
    ·rename_i hb;exact⟨0,by rw[if_neg hb];exact h⟩
   ·exact⟨0,h⟩
  ·exact⟨0,h⟩
theorem bind_cont {α β:Type}{x:Option α}{f:α->Option β}{g:Nat->Option α}{h:Nat->α->Option β}(hg:∀ k,Le (g k) (g (k+1))) (hh:∀ k a,Le (h k a) (h (k+1) a))
  (h1:∀ a,x=some a->∃ k,g k=some a) (h2:∀ a r,f a=some r->∃ k,h k a=some r) {r:β} (hr:x.bind f=some r):∃ k,(g k).bind (h k)=some r:=by
 cases x with
 | none=>cases hr
 | some a=>
  obtain⟨k,hk⟩:=h1 a rfl
  obtain⟨j,hj⟩:=h2 a r hr
  refine⟨max k j,?_⟩
  rw[(mono_of hg (Nat.le_max_left k j)).to _ hk,Option.bind_some]
  exact(mono_of (fun k=>hh k a) (Nat.le_max_right k j)).to _ hj
theorem runOps_cont {P:Program}(ops:List Oper)(n0:Nat):∀ (l:List Oper)(i:Nat)(t:Tm)(H:Hp)(n:Nat)(r:R3),Ww P (Call P) ops n0 l i t H n=some r->∃ k,Ww P (Vl P k) ops n0 l i t H n=some r:=by
 intro l
 induction l with
 | nil=>intro i t H n r h;exact⟨0,h⟩
 | cons o l ih=>
  intro i t H n r h
  exact bind_cont (x:=Yl ops t o (Xs P (Call P) o (n0+i) t H n) (some (Xv t o.dst (.tuple #[]),H,n))) (f:=fun q=>Ww P (Call P) ops n0 l (i+1) q.1 q.2.1 q.2.2)
   (g:=fun k=>Yl ops t o (Xs P (Vl P k) o (n0+i) t H n) (some (Xv t o.dst (.tuple #[]),H,n))) (h:=fun k q=>Ww P (Vl P k) ops n0 l (i+1) q.1 q.2.1 q.2.2)
   (fun k=>guardSel_le _ _ _ (exec1_le (Vg P k) ..) (Le.refl _)) (fun k q=>runOps_le (Vg P k) ..) (fun a ha=>guardSel_cont _ _ _ (fun r hr=>exec1_cont _ _ _ _ _ _ hr) ha) (fun q r hr=>ih _ _ _ _ _ hr) h
theorem draw1_cont {P:Program}(m:Nat)(o:Oper)(i id:Nat)(q r:R5)(h:Wr P (Call P) m o i id q=some r):∃ k,Wr P (Vl P k) m o i id q=some r:=by
 unfold Wr at h ⊢
 cases hl:loadOf o.op with
 | some p=>rw[hl]at h;exact⟨0,h⟩
 | none=>
  rw[hl]at h
  simp only at h ⊢
  simp only[Option.bind_eq_some_iff]at h
  obtain⟨p,hp,hr⟩:=h
  obtain⟨k,hk⟩:=exec1_cont _ _ _ _ _ _ hp
  exact⟨k,by rw[hk,Option.bind_some];exact hr⟩
theorem runDraw_cont {P:Program}(ops:List Oper)(b:List Nat)(n0:Nat):∀ (l:List Oper)(i:Nat)(q r:R5),Xn P (Call P) ops b n0 l i q=some r->∃ k,Xn P (Vl P k) ops b n0 l i q=some r:=by
 intro l
 induction l with
 | nil=>intro i q r h;exact⟨0,h⟩
 | cons o l ih=>
  intro i q r h
  exact bind_cont (x:=Yl ops q.t o (Wr P (Call P) (b.getD i 0) o i (n0+i) q) (some { q with t:=Xv q.t o.dst (.tuple #[]) })) (f:=fun q=>Xn P (Call P) ops b n0 l (i+1) q)
   (g:=fun k=>Yl ops q.t o (Wr P (Vl P k) (b.getD i 0) o i (n0+i) q) (some { q with t:=Xv q.t o.dst (.tuple #[]) })) (h:=fun k q=>Xn P (Vl P k) ops b n0 l (i+1) q)
   (fun k=>guardSel_le _ _ _ (draw1_le (Vg P k) ..) (Le.refl _)) (fun k q=>runDraw_le (Vg P k) ..) (fun a ha=>guardSel_cont _ _ _ (fun r hr=>draw1_cont _ _ _ _ _ _ hr) ha) (fun q r hr=>ih _ _ _ hr) h
theorem region_cont {P:Program}(ops:List Oper)(d:Bool)(t:Tm)(H:Hp)(n:Nat)(r:R3)(h:region P (Call P) ops d t H n=some r):∃ k,region P (Vl P k) ops d t H n=some r:=by
 unfold region at h ⊢
 split at h
 ·rename_i h1
  simp only[h1,if_true]
  split at h
  ·rename_i h2
   simp only[h2,if_true]
   split at h
   ·rename_i h3
    simp only[h3,if_true]
    simp only[Option.bind_eq_some_iff]at h
    obtain⟨q,hq,hr⟩:=h
    obtain⟨k,hk⟩:=runDraw_cont _ _ _ _ _ _ _ hq
    exact⟨k,by rw[hk,Option.bind_some];exact hr⟩
   ·cases h
  ·rename_i h2
   simp only[h2]
   exact runOps_cont _ _ _ _ _ _ _ _ h
 ·cases h
theorem code_cont {P:Program}(c:Code):∀ (t:Tm)(H:Hp)(n:Nat)(o:Out),code P (Call P) Zm c t H n=some o->∃ k,appr P k c t H n=some o:=by
 induction c with
 | region id ops d=>
  intro t H n o h
  simp only[code,Option.bind_eq_some_iff]at h
  obtain⟨q,hq,hr⟩:=h
  obtain⟨k,hk⟩:=region_cont _ _ _ _ _ _ hq
  exact⟨k,by unfold appr;simp only[code];rw[hk,Option.bind_some];exact hr⟩
 | seq a b iha ihb=>
  intro t H n o h
  have:=bind_cont (g:=fun k=>appr P k a t H n) (h:=fun k o=>Xw o (appr P k b)) (fun k=>appr_step P a k t H n) (fun k o=>thenO_le o (appr_step P b k)) (fun a ha=>iha _ _ _ _ ha)
   (fun o r hr=>by
    unfold Xw at hr ⊢
    split at hr
    ·exact ihb _ _ _ _ hr
    ·exact⟨0,hr⟩) h
  exact this
 | cond c x y ihx ihy=>
  intro t H n o h
  simp only[code,csel]at h
  unfold appr
  simp only[code,csel]
  split at h
  ·split at h
   ·rename_i hb
    obtain⟨k,hk⟩:=ihx _ _ _ _ h
    exact⟨k,by rw[if_pos hb];exact hk⟩
   ·rename_i hb
    obtain⟨k,hk⟩:=ihy _ _ _ _ h
    exact⟨k,by rw[if_neg hb];exact hk⟩
  ·cases h
 | block id c ih=>
  intro t H n o h
  simp only[code,Option.bind_eq_some_iff]at h
  obtain⟨q,hq,hr⟩:=h
  obtain⟨k,hk⟩:=ih _ _ _ _ hq
  exact⟨k,by unfold appr at hk ⊢;simp only[code];rw[hk,Option.bind_some];exact hr⟩
 | loop c ih=>
  intro t H n o h
  simp only[code]at h
  obtain⟨k,hk⟩:=Loop_some.1 h
  clear h
  induction k generalizing t H n with
  | zero=>cases hk
  | succ k ihk=>
   simp only[iter,Option.bind_eq_some_iff]at hk
   obtain⟨o1,h1,h2⟩:=hk
   obtain⟨j,hj⟩:=ih _ _ _ _ h1
   unfold Xw at h2
   split at h2
   ·rename_i he
    obtain⟨m,hm⟩:=ihk _ _ _ h2
    refine⟨max j m+1,?_⟩
    have e1:=(mono_of (fun k=>appr_step P c k t H n) (Nat.le_succ_of_le (Nat.le_max_left j m))).to _ hj
    have e2:appr P (max j m) (.loop c) o1.t o1.H o1.n=some o:=(mono_of (fun k=>appr_step P (.loop c) k o1.t o1.H o1.n) (Nat.le_max_right j m)).to _ hm
    unfold appr at e1 e2 ⊢
    simp only[code]at e2 ⊢
    show(code P _ _ c t H n).bind (fun o=>Xw o (iter (max j m) _))=some o
    rw[e1,Option.bind_some]
    unfold Xw
    rw[he]
    exact(iter_le _ _ _ (code_le (Vg P _) (iter_step _) c) _ _ _).to _ e2
   ·rename_i he
    cases h2
    refine⟨j+1,?_⟩
    have e1:=(appr_step P c j t H n).to _ hj
    unfold appr at e1 ⊢
    simp only[code]
    show(code P _ _ c t H n).bind (fun o=>Xw o (iter j _))=some o
    rw[e1,Option.bind_some]
    unfold Xw
    split
    ·rename_i he';exact absurd he' he
    ·rfl
 | _=>intro t H n o h;exact⟨0,h⟩
theorem Call_eq {P:Program}{f:Nat}{fn:Func}(hf:P.funcs[f]?=some fn)(args:List Value)(H:Hp)(n:Nat):Call P f args H n=body P (Call P) Zm fn args H n:=by
 refine Le.antisymm ?_ ?_
 ·refine lim_le (fun k=>Vg P k f args H n) fun k=>?_
  cases k with
  | zero=>exact Le.none _
  | succ k=>
   show Le (match P.funcs[f]? with|some fn=>body P (Vl P k) (iter k) fn args H n|none=>none) _
   rw[hf]
   exact body_le (acall_Call P k) (iter_Loop k) ..
 ·refine⟨fun r hr=>?_⟩
  unfold body at hr
  split at hr
  ·cases hr
  ·rename_i c hc
   split at hr
   ·rename_i hok
    simp only[Option.bind_eq_some_iff]at hr
    obtain⟨o,ho,hfin⟩:=hr
    obtain⟨k,hk⟩:=code_cont _ _ _ _ _ ho
    refine Call_some.2 ⟨k+1,?_⟩
    show(match P.funcs[f]? with|some fn=>body P (Vl P k) (iter k) fn args H n|none=>none)=some r
    rw[hf]
    simp only
    unfold body
    rw[hc]
    simp only
    rw[if_pos hok]
    unfold appr at hk
    rw[hk]
    exact hfin
   ·cases hr
theorem Zg {P:Program}{f:Nat}{fn:Func}(hf:P.funcs[f]?=some fn)(args:List Value)(H:Hp)(n:Nat):Call P f args H n=Zq P (Call P) Zm fn (Zp args) H n:=by
 rw[Call_eq hf,bodyK_eq P _ _ Loop_ok]
theorem Zn (t:Tm)(d:Nat)(v:Value)(i:Nat):put t d v i=if i=d then v else t i:=rfl
theorem Xz {α:Type}(b:Bool)(A B:Option α):csel (.bool b) A B=if b=true then A else B:=rfl
theorem Yi {α:Type}(b:Bool)(A B:α):gsel (.bool b) true A B=if b=true then A else B:=rfl
theorem Yf {α:Type}(b:Bool)(A B:α):gsel (.bool b) false A B=if b=true then B else A:=by cases b <;> rfl
theorem gsel_undef {α:Type}(l:Array Value)(w:Bool)(A B:α):gsel (.tuple l) w A B=B:=rfl
theorem pickV_true (x y:Value):Zl (.bool true) x y=some x:=rfl
theorem pickV_false (x y:Value):Zl (.bool false) x y=some y:=rfl
theorem Yg (b:Bool)(x y:Value):Zl (.bool b) x y=some (if b=true then x else y):=rfl
theorem un_not (b:Bool):un .not (.bool b)=some (.bool !b):=rfl
theorem un_neg (k:IntKind)(n:Int):un .neg (.int k n)=some (.int k (k.wrap (0 - n))):=rfl
theorem bool_eq (a b:Bool):Zd .bool .eql (.bool a) (.bool b)=some (.bool (a == b)):=rfl
theorem bool_ne (a b:Bool):Zd .bool .neq (.bool a) (.bool b)=some (.bool !(a == b)):=rfl
theorem i_add (k:IntKind)(a b:Int):Zd .plain .add (.int k a) (.int k b)=some (.int k (k.wrap (a+b))):=by simp[Zd,bin,Vd,intBin]
theorem i_sub (k:IntKind)(a b:Int):Zd .plain .sub (.int k a) (.int k b)=some (.int k (k.wrap (a - b))):=by simp[Zd,bin,Vd,intBin]
theorem i_mul (k:IntKind)(a b:Int):Zd .plain .mul (.int k a) (.int k b)=some (.int k (k.wrap (a * b))):=by simp[Zd,bin,Vd,intBin]
theorem i_quo (k:IntKind)(a b:Int):Zd .plain .quo (.int k a) (.int k b)=if b=0 then none else some (.int k (k.wrap (a.tdiv b))):=by simp[Zd,bin,Vd,intBin]
theorem i_rem (k:IntKind)(a b:Int):Zd .plain .rem (.int k a) (.int k b)=if b=0 then none else some (.int k (a.tmod b)):=by simp[Zd,bin,Vd,intBin]
theorem Vt (k:IntKind)(a b:Int):Zd .plain .eql (.int k a) (.int k b)=some (.bool (decide (a=b))):=by simp[Zd,bin,Vd,intBin];rfl
theorem i_neq (k:IntKind)(a b:Int):Zd .plain .neq (.int k a) (.int k b)=some (.bool (decide (a≠b))):=by simp[Zd,bin,Vd,intBin,bne];rfl
theorem i_lss (k:IntKind)(a b:Int):Zd .plain .lss (.int k a) (.int k b)=some (.bool (decide (a < b))):=by simp[Zd,bin,Vd,intBin]
theorem Vc (k:IntKind)(a b:Int):Zd .plain .leq (.int k a) (.int k b)=some (.bool (decide (a<=b))):=by simp[Zd,bin,Vd,intBin]
theorem i_gtr (k:IntKind)(a b:Int):Zd .plain .gtr (.int k a) (.int k b)=some (.bool (decide (b < a))):=by simp[Zd,bin,Vd,intBin]
theorem Wy (k:IntKind)(a b:Int):Zd .plain .geq (.int k a) (.int k b)=some (.bool (decide (b<=a))):=by simp[Zd,bin,Vd,intBin]
theorem i_shr (k k':IntKind)(a b:Int):Zd .plain .shr (.int k a) (.int k' b)=if b < 0 then none else some (.int k (a.fdiv (2 ^ (min b.toNat k.bits)))):=by simp[Zd,bin,Vd,shiftBin]
theorem s_eql (a b:ByteArray):Zd .plain .eql (.string a) (.string b)=some (.bool (a.toList == b.toList)):=rfl
theorem s_neq (a b:ByteArray):Zd .plain .neq (.string a) (.string b)=some (.bool !(a.toList == b.toList)):=rfl
theorem len_str (s:ByteArray):Zx true (.string s)=some (.int .i64 s.size):=rfl
theorem len_sl (a:Option Addr)(n c:Nat):Zx false (.slice a n c)=some (.int .i64 n):=rfl
theorem thenK_normal {α:Type}{t:Tm}{H:Hp}{n:Nat}(x y:Option α):Xe ⟨.normal,t,H,n⟩ x y=x:=rfl
theorem thenK_ret {α:Type}{t:Tm}{H:Hp}{n:Nat}(x y:Option α):Xe ⟨.ret,t,H,n⟩ x y=y:=rfl
theorem thenK_exit {α:Type}{j:Nat}{t:Tm}{H:Hp}{n:Nat}(x y:Option α):Xe ⟨.exit j,t,H,n⟩ x y=y:=rfl
theorem outOf_exit (j:Nat)(t:Tm)(H:Hp)(n:Nat):outOf j ⟨.exit j,t,H,n⟩=⟨.normal,t,H,n⟩:=by simp[outOf]
theorem outOf_ret (j:Nat)(t:Tm)(H:Hp)(n:Nat):outOf j ⟨.ret,t,H,n⟩=⟨.ret,t,H,n⟩:=rfl
theorem notTup_i (k:IntKind)(x:Int):notTup (.int k x)=true:=rfl
theorem notTup_b (x:Bool):notTup (.bool x)=true:=rfl
theorem notTup_s (x:ByteArray):notTup (.string x)=true:=rfl
theorem notTup_l (p:Option Addr)(n c:Nat):notTup (.slice p n c)=true:=rfl
theorem notTup_a (x:Array Value):notTup (.agg x)=true:=rfl
theorem notTup_p (p:Option Addr):notTup (.pointer p)=true:=rfl
theorem Zz (l:List Value)(i:Nat):Zp l i=l.getD i (.tuple #[]):=rfl
theorem Wo {n:Int}(h : -9223372036854775808<=n/\n<=9223372036854775807):IntKind.i64.wrap n=n:=IntWalk.i64_in n h
def View (H:Hp)(sz:Nat)(v:Value)(cells:List Value)(n:Nat):Prop :=
 cells.length=n * sz/\((n=0/\(v=nilS∨∃ i o q c,v=.slice (some ⟨i,o,some q⟩) 0 c))∨∃ i o c cs e rw,v=.slice (some ⟨i,o,none⟩) n c/\H i=some (.row cs e rw)/\o+n * sz<=cs.length/\(cs.drop o).take (n * sz)=cells)
theorem View.len {H:Hp}{sz:Nat}{v:Value}{cells:List Value}{n:Nat}(h:View H sz v cells n):Zx false v=some (.int .i64 n):=by
 obtain⟨_,h|⟨i,o,c,cs,e,rw,rfl,_⟩⟩:=h
 ·obtain⟨rfl,rfl|⟨i,o,q,c,rfl⟩⟩:=h <;> rfl
 ·rfl
theorem Uf {H:Hp}{i p:Nat}{cs:List Value}{e:Nat}{rw:Bool}{sz:Nat}{v:Value}(h:H i=some (.row cs e rw)) (hv:cs[p]?=some v):ld false sz (ptr i p) H=some v:=by
 simp[ld,ldc,We,h,hv]
theorem ld_agg {H:Hp}{i p:Nat}{cs:List Value}{e:Nat}{rw:Bool}{sz:Nat}(h:H i=some (.row cs e rw)) (hv:p+sz<=cs.length):ld true sz (ptr i p) H=some (.agg ⟨(cs.drop p).take sz⟩):=by
 simp[ld,lda,We,h,hv]
theorem View.idx {H:Hp}{sz:Nat}{v:Value}{cells:List Value}{n:Nat}(h:View H sz v cells n){k:IntKind}{j:Int}(h0:0<=j)(h1:j < n) :
  ∃ p,Zo sz v (.int k j)=some p/\(∀ x,sz=1->cells[j.toNat]?=some x->ld false 1 p H=some x)/\ld true sz p H=some (.agg ⟨(cells.drop (j.toNat * sz)).take sz⟩):=by
 obtain⟨hl,h|⟨i,o,c,cs,e,rw,rfl,hi,hle,hcs⟩⟩:=h
 ·omega
 ·have hj:j.toNat < n:=by omega
  have hmul:j.toNat * sz+sz<=n * sz:=by
   have:=Nat.mul_le_mul_right sz (show j.toNat+1<=n from hj)
   rw[Nat.add_mul,Nat.one_mul]at this
   exact this
  refine⟨ptr i (o+j.toNat * sz),by simp[Zo,h0,h1],?_,?_⟩
  ·intro x hs hx
   subst hs
   refine Uf hi ?_
   rw[← hcs,List.getElem?_take]at hx
   split at hx
   ·rw[List.getElem?_drop]at hx
    rw[Nat.mul_one];exact hx
   ·cases hx
  ·rw[ld_agg hi (by omega),← hcs]
   congr 2
   congr 1
   rw[List.drop_take,List.drop_drop,List.take_take]
   congr 1
   omega
theorem View.le {H H':Hp}{sz:Nat}{v:Value}{cells:List Value}{n:Nat}(h:View H sz v cells n)(hv:∀ i o a c,v=.slice (some ⟨i,o,none⟩) a c->H' i=H i):View H' sz v cells n:=by
 obtain⟨hl,h|⟨i,o,c,cs,e,rw,rfl,hi,hle,hcs⟩⟩:=h
 ·exact⟨hl,.inl h⟩
 ·exact⟨hl,.inr ⟨i,o,c,cs,e,rw,rfl,by rw[hv i o n c rfl];exact hi,hle,hcs⟩⟩
theorem View.new {H:Hp}{id sz e n:Nat}{cs:List Value}{rw:Bool}(h:H id=some (.row cs e rw)) (hl:cs.length=n * sz):View H sz (sl id 0 n) cs n :=
 ⟨hl,.inr ⟨id,0,0,cs,e,rw,rfl,h,by omega,by rw[List.drop_zero,← hl,List.take_length]⟩⟩
theorem View.nil {H:Hp}{sz:Nat}:View H sz nilS [] 0:=⟨by simp,.inl ⟨rfl,.inl rfl⟩⟩
abbrev bytesV (l:List Int):List Value:=l.map (Value.int .u8)
def Same (n:Nat)(H H':Hp):Prop:=∀ i,i < n->H' i=H i
theorem Same.refl (n:Nat)(H:Hp):Same n H H:=fun _ _=>rfl
theorem Same.trans {n n1:Nat}{H H1 H2:Hp}(h:Same n H H1)(h1:Same n1 H1 H2)(hn:n<=n1):Same n H H2:=fun i hi=>(h1 i (by omega)).trans (h i hi)
theorem Same.less {n n1:Nat}{H H1:Hp}(h:Same n1 H H1)(hn:n<=n1):Same n H H1:=fun i hi=>h i (by omega)
theorem Ze (H:Hp)(i:Nat)(o:Option Obj):H.set i o i=o:=by simp[Hp.set]
theorem Zf (H:Hp){i j:Nat}(o:Option Obj)(h:j≠i):H.set i o j=H j:=by simp[Hp.set,h]
def Wp {α:Type}(x:Option α)(Q:α->Prop):Prop:=∃ a,x=some a/\Q a
theorem Wp.pure {α:Type}{a:α}{Q:α->Prop}(h:Q a):Wp (some a) Q:=⟨a,rfl,h⟩
theorem Wp.bind {α β:Type}{x:Option α}{f:α->Option β}{R:α->Prop}{Q:β->Prop}(h:Wp x R)(k:∀ a,R a->Wp (f a) Q):Wp (x.bind f) Q:=by
 obtain⟨a,rfl,ha⟩:=h
 exact k a ha
theorem Wp.mono {α:Type}{x:Option α}{R Q:α->Prop}(h:Wp x R)(k:∀ a,R a->Q a):Wp x Q:=by
 obtain⟨a,rfl,ha⟩:=h
 exact⟨a,rfl,k a ha⟩
def Nxt (I:Nat->Tm->Hp->Nat->Prop)(d:Nat)(Q:Out->Prop)(o:Out):Prop :=
 match o.e with
 | .normal=>∃ d',d' < d/\I d' o.t o.H o.n
 | _=>Q o
theorem Nxt.go {I:Nat->Tm->Hp->Nat->Prop}{d:Nat}{Q:Out->Prop}{t:Tm}{H:Hp}{n:Nat}(d':Nat)(hd:d' < d)(h:I d' t H n):Nxt I d Q ⟨.normal,t,H,n⟩:=⟨d',hd,h⟩
theorem Nxt.exit {I:Nat->Tm->Hp->Nat->Prop}{d j:Nat}{Q:Out->Prop}{t:Tm}{H:Hp}{n:Nat}(h:Q ⟨.exit j,t,H,n⟩):Nxt I d Q ⟨.exit j,t,H,n⟩:=h
theorem Nxt.ret {I:Nat->Tm->Hp->Nat->Prop}{d:Nat}{Q:Out->Prop}{t:Tm}{H:Hp}{n:Nat}(h:Q ⟨.ret,t,H,n⟩):Nxt I d Q ⟨.ret,t,H,n⟩:=h
theorem Zt {φ:Zc}(I:Nat->Tm->Hp->Nat->Prop)(Q:Out->Prop)(step:∀ d t H n,I d t H n->Wp (φ t H n) (Nxt I d Q)):∀ d t H n,I d t H n->Wp (Zm φ t H n) Q:=by
 intro d
 induction d using Nat.strongRecOn with
 | _ d ih=>
  intro t H n hI
  obtain⟨⟨oe,ot,oH,on⟩,e1,e2⟩:=step d t H n hI
  rw[Loop_eq,e1,Option.bind_some]
  unfold Xw
  cases oe with
  | normal=>
   obtain⟨d',hd,hI'⟩:=e2
   exact ih d' hd _ _ _ hI'
  | exit j=>exact⟨_,rfl,e2⟩
  | ret=>exact⟨_,rfl,e2⟩
structure Enc (α:Type) where
 sz:Nat
 cells:α->List Value
 ok:∀ x,(cells x).length=sz
theorem flat_len {α:Type}(E:Enc α)(l:List α):(l.flatMap E.cells).length=l.length * E.sz:=by
 induction l with
 | nil=>simp
 | cons x l ih=>rw[List.flatMap_cons,List.length_append,ih,E.ok,List.length_cons,Nat.add_mul,Nat.one_mul,Nat.add_comm]
theorem flat_drop {α:Type}(E:Enc α):∀ (l:List α)(j:Nat),(l.flatMap E.cells).drop (j * E.sz)=(l.drop j).flatMap E.cells
 | [],j=>by simp
 | x :: l,0=>by simp
 | x :: l,j+1=>by
  rw[List.flatMap_cons,List.drop_succ_cons,← flat_drop E l j,Nat.add_mul,Nat.one_mul,Nat.add_comm,← List.drop_drop]
  rw[List.drop_left' (E.ok x)]
theorem flat_take {α:Type}(E:Enc α):∀ (l:List α)(j:Nat),(l.flatMap E.cells).take (j * E.sz)=(l.take j).flatMap E.cells
 | [],j=>by simp
 | x :: l,0=>by simp
 | x :: l,j+1=>by
  rw[List.flatMap_cons,List.take_succ_cons,List.flatMap_cons,← flat_take E l j,Nat.add_mul,Nat.one_mul,Nat.add_comm,List.take_append,E.ok]
  rw[List.take_of_length_le (by rw[E.ok];omega)]
  congr 2;omega
theorem flat_at {α:Type}(E:Enc α){l:List α}{j:Nat}(hj:j < l.length):((l.flatMap E.cells).drop (j * E.sz)).take E.sz=E.cells l[j]:=by
 rw[flat_drop,List.drop_eq_getElem_cons hj,List.flatMap_cons,List.take_left' (E.ok _)]
theorem flat_cell {α:Type}(E:Enc α){l:List α}{j f:Nat}(hj:j < l.length)(hf:f < E.sz):(l.flatMap E.cells)[j * E.sz+f]?=(E.cells l[j])[f]?:=by
 rw[← flat_at E hj,List.getElem?_take,if_pos hf,List.getElem?_drop]
abbrev eByte:Enc Int:=⟨1,fun x=>[.int .u8 x],fun _=>rfl⟩
abbrev eInt:Enc Int:=⟨1,fun x=>[.int .i64 x],fun _=>rfl⟩
abbrev eBool:Enc Bool:=⟨1,fun x=>[.bool x],fun _=>rfl⟩
abbrev eStr:Enc ByteArray:=⟨1,fun x=>[.string x],fun _=>rfl⟩
structure Nd where
 k:Int
 n:Int
 s:ByteArray
 a:Int
 b:Int
deriving DecidableEq
instance:Inhabited Nd:=⟨⟨0,0,⟨#[]⟩,0,0⟩⟩
def Nd.cells (x:Nd):List Value:=[.int .i64 x.k,.int .i64 x.n,.string x.s,.int .i64 x.a,.int .i64 x.b]
abbrev eNode:Enc Nd:=⟨5,Nd.cells,fun _=>rfl⟩
structure Ins where
 op:Int
 n:Int
 i:Int
 s:ByteArray
deriving DecidableEq
instance:Inhabited Ins:=⟨⟨0,0,0,⟨#[]⟩⟩⟩
def Ins.cells (x:Ins):List Value:=[.int .i64 x.op,.int .i64 x.n,.int .i64 x.i,.string x.s]
abbrev eIns:Enc Ins:=⟨4,Ins.cells,fun _=>rfl⟩
structure Df where
 s:ByteArray
 at_:Int
 args:Int
deriving DecidableEq
instance:Inhabited Df:=⟨⟨⟨#[]⟩,0,0⟩⟩
def Df.cells (x:Df):List Value:=[.string x.s,.int .i64 x.at_,.int .i64 x.args]
abbrev eDef:Enc Df:=⟨3,Df.cells,fun _=>rfl⟩
instance:Inhabited ByteArray:=⟨⟨#[]⟩⟩
theorem bytesV_flat (l:List Int):bytesV l=l.flatMap eByte.cells:=by
 induction l with
 | nil=>rfl
 | cons x l ih=>rw[List.flatMap_cons,← ih];rfl
def Old (n:Nat)(v:Value):Prop:=∀ i o a c,v=.slice (some ⟨i,o,none⟩) a c->i < n
theorem Old.up {n m:Nat}{v:Value}(h:Old n v)(hm:n<=m):Old m v:=fun i o a c e=>Nat.lt_of_lt_of_le (h i o a c e) hm
theorem View.same {H H':Hp}{sz n m:Nat}{v:Value}{cells:List Value}(h:View H sz v cells n)(ho:Old m v)(hs:Same m H H'):View H' sz v cells n:=h.le fun i o a c hv=>hs i (ho i o a c hv)
def elP (sz:Nat)(v:Value)(j:Nat):Value :=
 match v with
 | .slice (some ⟨i,o,_⟩) _ _=>ptr i (o+j * sz)
 | _=>.pointer none
def elF (sz:Nat)(v:Value)(j f:Nat):Value :=
 match v with
 | .slice (some ⟨i,o,_⟩) _ _=>ptr i (o+j * sz+f)
 | _=>.pointer none
def cell1:Value->Bool
 | .agg _=>false
 | .tuple _=>false
 | _=>true
theorem vcells1 {v:Value}(h:cell1 v=true):Zs v=some [v]:=by cases v <;> first|rfl|cases h
def Li {α:Type}(E:Enc α)(n:Nat)(H:Hp)(v:Value)(l:List α):Prop:=View H E.sz v (l.flatMap E.cells) l.length/\Old n v
namespace Li
variable {α:Type}{E:Enc α}{n:Nat}{H:Hp}{v:Value}{l:List α}
theorem keep (h:Li E n H v l){H':Hp}{m:Nat}(hs:Same m H H')(hm:n<=m):Li E n H' v l:=⟨h.1.same h.2 (hs.less hm),h.2⟩
theorem keep' (h:Li E n H v l){H':Hp}(hs:∀ i o a c,v=.slice (some ⟨i,o,none⟩) a c->H' i=H i):Li E n H' v l:=⟨h.1.le hs,h.2⟩
theorem up (h:Li E n H v l){m:Nat}(hm:n<=m):Li E m H v l:=⟨h.1,h.2.up hm⟩
theorem len (h:Li E n H v l):Zx false v=some (.int .i64 l.length):=h.1.len
theorem idx (h:Li E n H v l){k:IntKind}{j:Int}(h0:0<=j)(h1:j < l.length):Zo E.sz v (.int k j)=some (elP E.sz v j.toNat):=by
 obtain⟨⟨_,h|⟨i,o,c,cs,e,rw,rfl,hi,hle,hcs⟩⟩,_⟩:=h
 ·omega
 ·simp[Zo,elP,h0,h1]
theorem lda (h:Li E n H v l){j:Int}(h0:0<=j)(h1:j < l.length):ld true E.sz (elP E.sz v j.toNat) H=some (.agg ⟨E.cells (l[j.toNat]'(by omega))⟩):=by
 obtain⟨⟨_,h|⟨i,o,c,cs,e,rw,rfl,hi,hle,hcs⟩⟩,_⟩:=h
 ·omega
 ·have hj:j.toNat < l.length:=by omega
  have hmul:j.toNat * E.sz+E.sz<=l.length * E.sz:=by
   have:=Nat.mul_le_mul_right E.sz (show j.toNat+1<=l.length from hj)
   rw[Nat.add_mul,Nat.one_mul]at this
   exact this
  show ld true E.sz (ptr i (o+j.toNat * E.sz)) H=_
  rw[ld_agg hi (by omega),← flat_at E hj,← hcs]
  congr 3
  rw[List.drop_take,List.drop_drop,List.take_take]
  congr 1
  omega
theorem fld (h:Li E n H v l){j:Int}(h0:0<=j)(h1:j < l.length)(f:Nat):Za f (elP E.sz v j.toNat)=some (elF E.sz v j.toNat f):=by
 obtain⟨⟨_,h|⟨i,o,c,cs,e,rw,rfl,hi,hle,hcs⟩⟩,_⟩:=h
 ·omega
 ·rfl
theorem ldf (h:Li E n H v l){j:Int}(h0:0<=j)(h1:j < l.length){f:Nat}{c:Value}(hc:(E.cells (l[j.toNat]'(by omega)))[f]?=some c):ld false 1 (elF E.sz v j.toNat f) H=some c:=by
 obtain⟨⟨_,h|⟨i,o,c,cs,e,rw,rfl,hi,hle,hcs⟩⟩,_⟩:=h
 ·omega
 ·have hj:j.toNat < l.length:=by omega
  have hf:f < E.sz:=by
   rw[← E.ok l[j.toNat]]
   exact(List.getElem?_eq_some_iff.1 hc).1
  show ld false 1 (ptr i (o+j.toNat * E.sz+f)) H=_
  refine Uf hi ?_
  rw[← flat_cell E hj hf,← hcs,List.getElem?_take]at hc
  split at hc
  ·rw[List.getElem?_drop,← Nat.add_assoc]at hc
   exact hc
  ·cases hc
theorem ldc (h:Li E n H v l){j:Int}(h0:0<=j)(h1:j < l.length){c:Value}(hc:(E.cells (l[j.toNat]'(by omega)))[0]?=some c):ld false 1 (elP E.sz v j.toNat) H=some c:=by
 rw[← h.ldf h0 h1 hc]
 unfold elP elF
 split <;> rfl
theorem nil:Li E n H nilS []:=⟨View.nil,fun i o a c h=>by cases h⟩
theorem bytes {l:List Int}(h:Li eByte n H v l):View H 1 v (bytesV l) l.length:=by rw[bytesV_flat];exact h.1
end Li
def At {α:Type}(E:Enc α)(id:Nat)(H:Hp)(v:Value)(l:List α):Prop:=(v=nilS/\l=[])∨(v=sl id 0 l.length/\H id=some (.row (l.flatMap E.cells) E.sz true))
namespace At
variable {α:Type}{E:Enc α}{id n:Nat}{H H':Hp}{v:Value}{l:List α}
theorem lst (h:At E id H v l)(hn:id < n):Li E n H v l:=by
 rcases h with⟨rfl,rfl⟩|⟨rfl,h⟩
 ·exact Li.nil
 ·exact⟨View.new h (flat_len E l),fun i o a c e=>by cases e;exact hn⟩
theorem keep (h:At E id H v l)(hs:H' id=H id):At E id H' v l:=by
 rcases h with h|⟨h1,h2⟩
 ·exact .inl h
 ·exact .inr ⟨h1,by rw[hs];exact h2⟩
theorem cell (h:At E id H v l):cell1 v=true:=by
 rcases h with⟨rfl,rfl⟩|⟨rfl,h⟩ <;> rfl
theorem nil:At E id H nilS []:=.inl ⟨rfl,rfl⟩
end At
def New {α:Type}(E:Enc α)(lo n:Nat)(H:Hp)(v:Value)(l:List α):Prop:=∃ id,lo<=id/\id < n/\At E id H v l
namespace New
variable {α:Type}{E:Enc α}{lo n:Nat}{H H':Hp}{v:Value}{l:List α}
theorem lst (h:New E lo n H v l):Li E n H v l:=by obtain⟨id,_,h2,h3⟩:=h;exact h3.lst h2
theorem keep (h:New E lo n H v l){m:Nat}(hs:Same m H H')(hm:n<=m):New E lo n H' v l:=by obtain⟨id,h1,h2,h3⟩:=h;exact⟨id,h1,h2,h3.keep (hs id (by omega))⟩
theorem up (h:New E lo n H v l){lo' m:Nat}(hl:lo'<=lo)(hm:n<=m):New E lo' m H v l:=by obtain⟨id,h1,h2,h3⟩:=h;exact⟨id,by omega,by omega,h3⟩
end New
theorem flat_set {α:Type}(E:Enc α):∀ (l:List α)(j:Nat)(y:α),j < l.length->Yz (l.flatMap E.cells) (j * E.sz) (E.cells y)=(l.set j y).flatMap E.cells:=by
 intro l j y hj
 unfold Yz
 rw[flat_take,E.ok,show j * E.sz+E.sz=(j+1) * E.sz by rw[Nat.add_mul,Nat.one_mul],flat_drop,List.set_eq_take_append_cons_drop,if_pos hj,List.flatMap_append,List.flatMap_cons,List.append_assoc]
theorem setAt_right (A R vs:List Value)(f:Nat):Yz (A++R) (A.length+f) vs=A++Yz R f vs:=by
 unfold Yz
 rw[List.take_append,List.take_of_length_le (by omega),Nat.add_sub_cancel_left,show A.length+f+vs.length=A.length+(f+vs.length) by omega,← List.drop_drop,List.drop_left' rfl]
 simp[List.append_assoc]
theorem setAt_left (C B vs:List Value)(f:Nat)(hf:f+vs.length<=C.length):Yz (C++B) f vs=Yz C f vs++B:=by
 unfold Yz
 rw[List.take_append_of_le_length (by omega),List.drop_append_of_le_length hf]
 simp[List.append_assoc]
theorem flat_setf {α:Type}(E:Enc α)(l:List α)(j f:Nat)(y:α)(c:Value)(hj:j < l.length)(hf:f < E.sz)(hy:E.cells y=Yz (E.cells l[j]) f [c]):Yz (l.flatMap E.cells) (j * E.sz+f) [c]=(l.set j y).flatMap E.cells:=by
 have hl:l.flatMap E.cells=(l.take j).flatMap E.cells++(E.cells l[j]++(l.drop (j+1)).flatMap E.cells):=by
  rw[← List.flatMap_cons,← List.drop_eq_getElem_cons hj,← List.flatMap_append,List.take_append_drop]
 have ha:((l.take j).flatMap E.cells).length=j * E.sz:=by rw[flat_len,List.length_take,Nat.min_eq_left (by omega)]
 rw[hl,← ha,setAt_right,setAt_left _ _ _ _ (by rw[E.ok];simp;omega),← hy,List.set_eq_take_append_cons_drop,if_pos hj,List.flatMap_append,List.flatMap_cons]
theorem src_lst {α:Type}{E:Enc α}{n:Nat}{H:Hp}{v:Value}{l:List α}(h:Li E n H v l):src E.sz v H=some (l.flatMap E.cells,l.length):=by
 obtain⟨⟨hl,h|⟨i,o,c,cs,e,rw,rfl,hi,hle,hcs⟩⟩,_⟩:=h
 ·obtain⟨h0,rfl|⟨i,o,q,c,rfl⟩⟩:=h <;> (have:l=[]:=List.length_eq_zero_iff.1 h0;subst this;rfl)
 ·simp[src,hi,hle,hcs]
theorem app_at {α:Type}{E:Enc α}{id id2 bytes:Nat}{H:Hp}{v x:Value}{l m:List α}(h:At E id H v l)(hs:src E.sz x H=some (m.flatMap E.cells,m.length)) (hb:1<=bytes)(hl:(2 * (l.length+m.length)+1024) * bytes<=281474976710656) :
  ∃ v' H',app id2 E.sz bytes v x H=some (v',H')/\At E id2 H' v' (l++m)/\∀ i,i≠id->i≠id2->H' i=H i:=by
 rcases h with⟨rfl,rfl⟩|⟨rfl,h⟩
 ·cases m with
  | nil=>exact⟨nilS,H,by simp only[app,hs,Option.bind_some];rfl,At.nil,fun _ _ _=>rfl⟩
  | cons y m=>
   refine⟨sl id2 0 (y :: m).length,H.set id2 (some (.row ((y :: m).flatMap E.cells) E.sz true)),?_,.inr ⟨rfl,Ze ..⟩,fun i _ hi=>Zf _ _ hi⟩
   simp only[app,hs,Option.bind_some]
   rw[if_neg (by simp),if_pos ⟨hb,by simpa using hl⟩]
 ·refine⟨sl id2 0 (l++m).length,(H.set id none).set id2 (some (.row ((l++m).flatMap E.cells) E.sz true)),?_,.inr ⟨rfl,Ze ..⟩,fun i h1 h2=>by rw[Zf _ _ h2,Zf _ _ h1]⟩
  simp only[app,hs,Option.bind_some,h]
  rw[if_pos ⟨trivial,by rw[flat_len];exact Nat.le_refl _,hb,hl⟩,List.take_of_length_le (by rw[flat_len];exact Nat.le_refl _),List.length_append,List.flatMap_append]
theorem app_one {α:Type}{E:Enc α}{id id1 id2 bytes:Nat}{H:Hp}{v:Value}{l:List α}(x:α)(h:At E id H v l)(h1:id≠id1)(hb:1<=bytes)(hl:(2 * (l.length+1)+1024) * bytes<=281474976710656) :
  ∃ H',app id2 E.sz bytes v (sl id1 0 1) (H.set id1 (some (.row (E.cells x) E.sz true)))=some (sl id2 0 (l++[x]).length,H')/\H' id2=some (.row ((l++[x]).flatMap E.cells) E.sz true)/\∀ i,i≠id->i≠id1->i≠id2->H' i=H i:=by
 have hs:src E.sz (sl id1 0 1) (H.set id1 (some (.row (E.cells x) E.sz true)))=some ([x].flatMap E.cells,[x].length):=by
  simp[src,Ze,E.ok]
  exact List.take_of_length_le (by rw[E.ok];omega)
 obtain⟨v',H',e1,e2,e3⟩:=app_at (id2:=id2) (bytes:=bytes) (h.keep (H':=H.set id1 (some (.row (E.cells x) E.sz true))) (Zf _ _ h1)) hs hb hl
 rcases e2 with⟨_,e2⟩|⟨rfl,e2⟩
 ·simp at e2
 ·exact⟨H',e1,e2,fun i a b c=>by rw[e3 i a c,Zf _ _ b]⟩
theorem bsl_one {α:Type}(E:Enc α)(x:α)(id:Nat)(zero:List Value)(v:Value)(H:Hp)(hz:zero.length=E.sz)(hv:Zs v=some (E.cells x)) (hsz:E.sz<=1000):Xx id E.sz 1 zero [(0,E.sz,v)] H=some (sl id 0 1,H.set id (some (.row (E.cells x) E.sz true))):=by
 have:Yz zero 0 (E.cells x)=E.cells x:=by
  unfold Yz
  rw[E.ok,Nat.zero_add,List.drop_of_length_le (by omega)]
  simp
 simp[Xx,fill,hz,hv,E.ok,this]
 omega
theorem flat_rep {α:Type}(E:Enc α)(z:α):∀ k:Nat,(List.replicate k (E.cells z)).flatten=(List.replicate k z).flatMap E.cells
 | 0=>rfl
 | k+1=>by rw[List.replicate_succ,List.flatten_cons,flat_rep E z k];rfl
theorem mks_new {α:Type}(E:Enc α)(z:α){id bytes k:Nat}(H:Hp)(hb:1<=bytes)(hk:k * bytes<=140737488355328):mks id E.sz bytes (E.cells z) (.int .i64 k) (.int .i64 k) H=some (sl id 0 k,H.set id (some (.row ((List.replicate k z).flatMap E.cells) E.sz true))):=by
 unfold mks
 have:(k:Int) * (bytes:Int)<=140737488355328:=by
  have:=Int.ofNat_le.2 hk
  rw[Int.natCast_mul]at this
  exact this
 simp only
 rw[if_pos ⟨trivial,by omega,hb,this,E.ok z⟩,flat_rep]
 simp
theorem st_el {α:Type}{E:Enc α}{id:Nat}{H:Hp}{l:List α}(h:H id=some (.row (l.flatMap E.cells) E.sz true)){j:Nat}(hj:j < l.length)(y:α):stv (ptr id (j * E.sz)) (E.cells y) H=some (H.set id (some (.row ((l.set j y).flatMap E.cells) E.sz true))):=by
 have hle:j * E.sz+E.sz<=(l.flatMap E.cells).length:=by
  rw[flat_len]
  have:=Nat.mul_le_mul_right E.sz (show j+1<=l.length from hj)
  rw[Nat.add_mul,Nat.one_mul]at this
  exact this
 simp only[stv,h,E.ok,hle,if_true,flat_set E l j y hj]
theorem st_fld {α:Type}{E:Enc α}{id:Nat}{H:Hp}{l:List α}(h:H id=some (.row (l.flatMap E.cells) E.sz true)){j f:Nat}(hj:j < l.length)(hf:f < E.sz){y:α}{c:Value}(hy:E.cells y=Yz (E.cells l[j]) f [c]):stv (ptr id (j * E.sz+f)) [c] H=some (H.set id (some (.row ((l.set j y).flatMap E.cells) E.sz true))):=by
 have hle:j * E.sz+E.sz<=(l.flatMap E.cells).length:=by
  rw[flat_len]
  have:=Nat.mul_le_mul_right E.sz (show j+1<=l.length from hj)
  rw[Nat.add_mul,Nat.one_mul]at this
  exact this
 simp only[stv,h,List.length_cons,List.length_nil,show j * E.sz+f+(0+1)<=(l.flatMap E.cells).length by omega,if_true,flat_setf E l j f y c hj hf hy]
theorem Li.slice {α:Type}{E:Enc α}{n:Nat}{H:Hp}{v:Value}{l:List α}(h:Li E n H v l)(hz:0 < E.sz)(lo hi:Option Value)(a b:Nat)(ha:bnd 0 lo=some a)(hb:∀ d,d=l.length->bnd d hi=some b)(hab:a<=b)(hbl:b<=l.length) :
  ∃ v',Yt E.sz v lo hi=some v'/\Li E n H v' ((l.drop a).take (b - a)):=by
 obtain⟨⟨hl,h|⟨i,o,c,cs,e,rw,rfl,hi,hle,hcs⟩⟩,ho⟩:=h
 ·obtain⟨h0,hv⟩:=h
  have hl0:l=[]:=List.length_eq_zero_iff.1 h0
  subst hl0
  have hb0:b=0:=by simpa using hbl
  subst hb0
  have ha0:a=0:=by omega
  subst ha0
  have hb:=hb 0 rfl
  rcases hv with rfl|⟨i,o,q,c,rfl⟩
  ·exact⟨nilS,by simp[Yt,ha,hb,hz],by simpa using Li.nil⟩
  ·exact⟨emptyS,by simp[Yt,ha,hb,hz],⟨by simp,.inl ⟨by simp,.inr ⟨0,0,0,0,rfl⟩⟩⟩,fun i o a c e=>by cases e⟩
 ·have hb:=hb _ rfl
  by_cases hab':a=b
  ·subst hab'
   refine⟨emptyS,by simp[Yt,ha,hb,hz,hbl],⟨by simp,.inl ⟨by simp,.inr ⟨0,0,0,0,rfl⟩⟩⟩,fun i o a c e=>by cases e⟩
  ·refine⟨sl i (o+a * E.sz) (b - a),by simp[Yt,ha,hb,hz,hbl,hab,hab'],?_,fun i' o' a' c' e'=>by cases e';exact ho i o _ _ rfl⟩
   have hlen:((l.drop a).take (b - a)).length=b - a:=by rw[List.length_take,List.length_drop];omega
   have hm1:(a+(b - a)) * E.sz<=l.length * E.sz:=Nat.mul_le_mul_right _ (by omega)
   rw[Nat.add_mul]at hm1
   refine⟨flat_len E _,.inr ⟨i,o+a * E.sz,0,cs,e,rw,by rw[hlen],hi,by rw[hlen];omega,?_⟩⟩
   rw[hlen,← flat_take E (l.drop a) (b - a),← flat_drop E l a,← hcs,List.drop_take,List.drop_drop,List.take_take]
   congr 1
   rw[← Nat.sub_mul]
   rw[Nat.min_eq_left]
   exact Nat.mul_le_mul_right _ (by omega)
theorem rows_lst {α:Type}{E:Enc α}{n:Nat}{H:Hp}{v:Value}{l:List α}(h:Li E n H v l):rowsOf E.sz v H=some (l.flatMap E.cells):=by
 obtain⟨⟨hl,h|⟨i,o,c,cs,e,rw,rfl,hi,hle,hcs⟩⟩,_⟩:=h
 ·obtain⟨h0,rfl|⟨i,o,q,c,rfl⟩⟩:=h <;> (have:l=[]:=List.length_eq_zero_iff.1 h0;subst this;rfl)
 ·simp[rowsOf,hi,hle,hcs]
def Vo (l:List Int):ByteArray:=⟨⟨l.map fun n=>UInt8.ofNat n.toNat⟩⟩
theorem strOf_size (l:List Int):(Vo l).size=l.length:=by
 show(Array.mk (l.map _)).size=_
 simp
theorem unbytes_flat (l:List Int):unbytes (l.flatMap eByte.cells)=some (l.map fun n=>UInt8.ofNat n.toNat):=by
 induction l with
 | nil=>rfl
 | cons x l ih=>rw[List.flatMap_cons];show((unbytes (l.flatMap eByte.cells)).bind fun r=>some (UInt8.ofNat x.toNat :: r))=_;rw[ih];rfl
theorem conv_bs {n:Nat}{H:Hp}{v:Value}{l:List Int}(h:Li eByte n H v l)(id:Nat):conv .bytesToStr id v H=some (.string (Vo l),H):=by
 have hr:rowsOf 1 v H=some (l.flatMap eByte.cells):=rows_lst h
 have:conv .bytesToStr id v H=(rowsOf 1 v H).bind fun cs=>(unbytes cs).bind fun l=>some (.string ⟨⟨l⟩⟩,H):=by
  unfold conv;split <;> simp_all
 rw[this,hr,Option.bind_some,unbytes_flat];rfl
theorem ld_box {H:Hp}{i o:Nat}{cs:List Value}{e:Nat}{rw:Bool}(h:H i=some (.row cs e rw)) (sz:Nat):ld false sz (ptr i o) H=cs[o]?:=by simp[ld,Ax.ldc,We,h]
theorem ldA_box {H:Hp}{i o sz:Nat}{cs:List Value}{e:Nat}{rw:Bool}(h:H i=some (.row cs e rw)):ld true sz (ptr i o) H=if o+sz<=cs.length then some (.agg ⟨(cs.drop o).take sz⟩)else none:=by simp[ld,Ax.lda,We,h]
theorem stv_box {H:Hp}{i o:Nat}{cs vs:List Value}{e:Nat}(h:H i=some (.row cs e true)):stv (ptr i o) vs H=if o+vs.length<=cs.length then some (H.set i (some (.row (Yz cs o vs) e true)))else none:=by simp[stv,h]
theorem st_c {v:Value}(hv:cell1 v=true)(a:Value)(H:Hp):st false 1 a v H=stv a [v] H:=by
 cases v <;> first|rfl|cases hv
theorem vcells_agg (cs:List Value):Zs (.agg ⟨cs⟩)=some cs:=rfl
theorem fieldA_ptr (f i o:Nat):Za f (ptr i o)=some (ptr i (o+f)):=rfl
theorem partV_c (sz off:Nat)(cs:List Value):partV false sz off (.agg ⟨cs⟩)=cs[off]?:=rfl
theorem partV_a (sz off:Nat)(cs:List Value):partV true sz off (.agg ⟨cs⟩)=if off+sz<=cs.length then some (.agg ⟨(cs.drop off).take sz⟩)else none:=rfl
theorem ext_tup (i:Nat)(vs:List Value):ext i (.tuple ⟨vs⟩)=vs[i]?:=rfl
theorem nilchk_ptr (i o:Nat):Zh (ptr i o)=some (ptr i o):=rfl
theorem conv_i (k k':IntKind)(id:Nat)(n:Int)(H:Hp):conv (.toInt k) id (.int k' n) H=some (.int k (k.wrap n),H):=rfl
theorem conv_ss (id:Nat)(s:ByteArray)(H:Hp):conv .strToStr id (.string s) H=some (.string s,H):=rfl
def Upd (n:Nat)(S:List Nat)(H H':Hp):Prop:=∀ i,i < n->i ∉ S->H' i=H i
theorem Upd.refl (n:Nat)(S:List Nat)(H:Hp):Upd n S H H:=fun _ _ _=>rfl
theorem Upd.trans {n n1:Nat}{S S1:List Nat}{H H1 H2:Hp}(h:Upd n S H H1)(h1:Upd n1 S1 H1 H2)(hn:n<=n1)(hS:∀ i,i∈S1->i < n->i∈S):Upd n S H H2:=fun i hi hs=>(h1 i (by omega) fun hm=>hs (hS i hm hi)).trans (h i hi hs)
theorem Upd.same {n m:Nat}{S:List Nat}{H H':Hp}(h:Upd n S H H')(hm:m<=n)(hS:∀ i,i∈S->m<=i):Same m H H':=fun i hi=>h i (by omega) fun hs=>by have:=hS i hs;omega
theorem Same.upd {n m:Nat}{H H':Hp}(h:Same n H H')(hm:m<=n)(S:List Nat):Upd m S H H':=fun i hi _=>h i (by omega)
theorem Li.upd {α:Type}{E:Enc α}{n m:Nat}{H H':Hp}{v:Value}{l:List α}{S:List Nat}(h:Li E n H v l)(hs:Upd m S H H')(hm:n<=m)(hS:∀ i o a c,v=.slice (some ⟨i,o,none⟩) a c->i ∉ S):Li E n H' v l:=h.keep' fun i o a c e=>hs i (by have:=h.2 i o a c e;omega) (hS i o a c e)
def gi {α:Type} [Inhabited α] (l:List α)(i:Int):α:=l.getD i.toNat default
theorem gi_at {α:Type} [Inhabited α] {l:List α}{i:Int}(h0:0<=i)(h1:i < l.length):gi l i=l[i.toNat]'(by omega):=by
 unfold gi
 rw[List.getD_eq_getElem?_getD,List.getElem?_eq_getElem (by omega)]
 rfl
theorem Yq {α:Type} [Inhabited α] {l:List α}{j:Nat}(h:j < l.length):gi l (j:Int)=l[j]:=gi_at (by omega) (by omega)
theorem Yb {α:Type} [Inhabited α] {l:List α}{i:Int}(h0:0<=i)(h1:i < l.length):gi l i∈l:=by rw[gi_at h0 h1];exact List.getElem_mem _
theorem gi_app {α:Type} [Inhabited α] {l m:List α}{i:Int}(h1:i < l.length)(h0:0<=i):gi (l++m) i=gi l i:=by
 rw[gi_at h0 h1,gi_at h0 (by rw[List.length_append];omega)]
 exact List.getElem_append_left (by omega)
theorem gi_last {α:Type} [Inhabited α] (l:List α)(x:α):gi (l++[x]) (l.length:Int)=x:=by
 rw[Yq (by simp)];simp
namespace Li
variable {n:Nat}{H:Hp}{v:Value}
theorem nAll {l:List Nd}(h:Li eNode n H v l){i:Int}(h0:0<=i)(h1:i < l.length) :
  (∀ k,Zo 5 v (.int k i)=some (elP 5 v i.toNat))/\ld true 5 (elP 5 v i.toNat) H=some (.agg ⟨(gi l i).cells⟩)/\(∀ f,Za f (elP 5 v i.toNat)=some (elF 5 v i.toNat f)) /\
  ld false 1 (elF 5 v i.toNat 0) H=some (.int .i64 (gi l i).k)/\ld false 1 (elF 5 v i.toNat 1) H=some (.int .i64 (gi l i).n)/\ld false 1 (elF 5 v i.toNat 2) H=some (.string (gi l i).s) /\
  ld false 1 (elF 5 v i.toNat 3) H=some (.int .i64 (gi l i).a)/\ld false 1 (elF 5 v i.toNat 4) H=some (.int .i64 (gi l i).b):=by
 rw[gi_at h0 h1]
 exact⟨fun k=>h.idx h0 h1,h.lda h0 h1,fun f=>h.fld h0 h1 f,h.ldf h0 h1 rfl,h.ldf h0 h1 rfl,h.ldf h0 h1 rfl,h.ldf h0 h1 rfl,h.ldf h0 h1 rfl⟩
theorem sAll {l:List Ins}(h:Li eIns n H v l){i:Int}(h0:0<=i)(h1:i < l.length) :
  (∀ k,Zo 4 v (.int k i)=some (elP 4 v i.toNat))/\ld true 4 (elP 4 v i.toNat) H=some (.agg ⟨(gi l i).cells⟩)/\(∀ f,Za f (elP 4 v i.toNat)=some (elF 4 v i.toNat f)) /\
  ld false 1 (elF 4 v i.toNat 0) H=some (.int .i64 (gi l i).op)/\ld false 1 (elF 4 v i.toNat 1) H=some (.int .i64 (gi l i).n)/\ld false 1 (elF 4 v i.toNat 2) H=some (.int .i64 (gi l i).i) /\
  ld false 1 (elF 4 v i.toNat 3) H=some (.string (gi l i).s):=by
 rw[gi_at h0 h1]
 exact⟨fun k=>h.idx h0 h1,h.lda h0 h1,fun f=>h.fld h0 h1 f,h.ldf h0 h1 rfl,h.ldf h0 h1 rfl,h.ldf h0 h1 rfl,h.ldf h0 h1 rfl⟩
theorem dAll {l:List Df}(h:Li eDef n H v l){i:Int}(h0:0<=i)(h1:i < l.length) :
  (∀ k,Zo 3 v (.int k i)=some (elP 3 v i.toNat))/\ld true 3 (elP 3 v i.toNat) H=some (.agg ⟨(gi l i).cells⟩)/\(∀ f,Za f (elP 3 v i.toNat)=some (elF 3 v i.toNat f)) /\
  ld false 1 (elF 3 v i.toNat 0) H=some (.string (gi l i).s)/\ld false 1 (elF 3 v i.toNat 1) H=some (.int .i64 (gi l i).at_)/\ld false 1 (elF 3 v i.toNat 2) H=some (.int .i64 (gi l i).args):=by
 rw[gi_at h0 h1]
 exact⟨fun k=>h.idx h0 h1,h.lda h0 h1,fun f=>h.fld h0 h1 f,h.ldf h0 h1 rfl,h.ldf h0 h1 rfl,h.ldf h0 h1 rfl⟩
theorem iAll {l:List Int}(h:Li eInt n H v l){i:Int}(h0:0<=i)(h1:i < l.length):(∀ k,Zo 1 v (.int k i)=some (elP 1 v i.toNat))/\ld false 1 (elP 1 v i.toNat) H=some (.int .i64 (gi l i)):=by
 rw[gi_at h0 h1]
 exact⟨fun k=>h.idx h0 h1,h.ldc h0 h1 rfl⟩
theorem bAll {l:List Int}(h:Li eByte n H v l){i:Int}(h0:0<=i)(h1:i < l.length):(∀ k,Zo 1 v (.int k i)=some (elP 1 v i.toNat))/\ld false 1 (elP 1 v i.toNat) H=some (.int .u8 (gi l i)):=by
 rw[gi_at h0 h1]
 exact⟨fun k=>h.idx h0 h1,h.ldc h0 h1 rfl⟩
theorem tAll {l:List ByteArray}(h:Li eStr n H v l){i:Int}(h0:0<=i)(h1:i < l.length):(∀ k,Zo 1 v (.int k i)=some (elP 1 v i.toNat))/\ld false 1 (elP 1 v i.toNat) H=some (.string (gi l i)):=by
 rw[gi_at h0 h1]
 exact⟨fun k=>h.idx h0 h1,h.ldc h0 h1 rfl⟩
end Li
theorem ld_set (H:Hp)(i j o sz:Nat)(cs:List Value)(e:Nat)(rw:Bool):ld false sz (ptr i o) (H.set j (some (.row cs e rw)))=if i=j then cs[o]? else ld false sz (ptr i o) H:=by
 by_cases h:i=j
 ·subst h;rw[if_pos rfl,ld_box (Ze _ _ _)]
 ·rw[if_neg h];simp[ld,Ax.ldc,We,Zf _ _ h]
theorem ldA_set (H:Hp)(i j o sz:Nat)(cs:List Value)(e:Nat)(rw:Bool):ld true sz (ptr i o) (H.set j (some (.row cs e rw)))=if i=j then(if o+sz<=cs.length then some (.agg ⟨(cs.drop o).take sz⟩)else none)else ld true sz (ptr i o) H:=by
 by_cases h:i=j
 ·subst h;rw[if_pos rfl,ldA_box (Ze _ _ _)]
 ·rw[if_neg h];simp[ld,Ax.lda,We,Zf _ _ h]
theorem Hp_set_set (H:Hp)(i:Nat)(a b:Option Obj):(H.set i a).set i b=H.set i b:=by
 funext j;unfold Hp.set;split <;> rfl
theorem stv_set (H:Hp)(i o:Nat)(cs vs:List Value)(e:Nat):stv (ptr i o) vs (H.set i (some (.row cs e true)))=if o+vs.length<=cs.length then some (H.set i (some (.row (Yz cs o vs) e true)))else none:=by
 rw[stv_box (Ze _ _ _),Hp_set_set]
theorem st_i (a:Value)(k:IntKind)(x:Int)(H:Hp):st false 1 a (.int k x) H=stv a [.int k x] H:=rfl
theorem st_s (a:Value)(x:ByteArray)(H:Hp):st false 1 a (.string x) H=stv a [.string x] H:=rfl
theorem st_b (a:Value)(x:Bool)(H:Hp):st false 1 a (.bool x) H=stv a [.bool x] H:=rfl
theorem st_l (a:Value)(p:Option Addr)(n c:Nat)(H:Hp):st false 1 a (.slice p n c) H=stv a [.slice p n c] H:=rfl
theorem st_p (a:Value)(p:Option Addr)(H:Hp):st false 1 a (.pointer p) H=stv a [.pointer p] H:=rfl
theorem st_agg (a:Value)(sz:Nat)(cs:List Value)(H:Hp):st true sz a (.agg ⟨cs⟩) H=if cs.length=sz then stv a cs H else none:=rfl
theorem vcells_s (x:ByteArray):Zs (.string x)=some [.string x]:=rfl
theorem vcells_b (x:Bool):Zs (.bool x)=some [.bool x]:=rfl
theorem vcells_l (p:Option Addr)(n c:Nat):Zs (.slice p n c)=some [.slice p n c]:=rfl
theorem vcells_i (k:IntKind)(x:Int):Zs (.int k x)=some [.int k x]:=rfl
theorem ask_same {α:Type}{p:Prop}(h:p)(k:Option α):ask p k=k:=by unfold ask;rw[if_pos h]
theorem Zr {α:Type}(k:Option α):ask True k=k:=ask_same trivial k
def rowGet (o:Option Obj)(p:Nat):Option Value:=match o with|some (.row cs _ _)=>cs[p]?|_=>none
def rowAgg (o:Option Obj)(p sz:Nat):Option Value:=match o with|some (.row cs _ _)=>if p+sz<=cs.length then some (.agg ⟨(cs.drop p).take sz⟩)else none|_=>none
def rowSt (H:Hp)(i p:Nat)(vs:List Value)(o:Option Obj):Option Hp:=match o with|some (.row cs e true)=>if p+vs.length<=cs.length then some (H.set i (some (.row (Yz cs p vs) e true)))else none|_=>none
theorem Yc (cs:List Value)(e:Nat)(rw:Bool)(p:Nat):rowGet (some (.row cs e rw)) p=cs[p]?:=rfl
theorem rowAgg_row (cs:List Value)(e:Nat)(rw:Bool)(p sz:Nat):rowAgg (some (.row cs e rw)) p sz=if p+sz<=cs.length then some (.agg ⟨(cs.drop p).take sz⟩)else none:=rfl
theorem rowSt_row (H:Hp)(i p:Nat)(vs cs:List Value)(e:Nat):rowSt H i p vs (some (.row cs e true))=if p+vs.length<=cs.length then some (H.set i (some (.row (Yz cs p vs) e true)))else none:=rfl
theorem ld_r (sz i o:Nat)(H:Hp):ld false sz (ptr i o) H=rowGet (H i) o:=by
 cases h:H i with
 | none=>simp[ld,Ax.ldc,We,h,rowGet]
 | some b=>cases b <;> simp[ld,Ax.ldc,We,h,rowGet]
theorem ldA_r (sz i o:Nat)(H:Hp):ld true sz (ptr i o) H=rowAgg (H i) o sz:=by
 cases h:H i with
 | none=>simp[ld,Ax.lda,We,h,rowAgg]
 | some b=>cases b <;> simp[ld,Ax.lda,We,h,rowAgg]
theorem stv_r (i o:Nat)(vs:List Value)(H:Hp):stv (ptr i o) vs H=rowSt H i o vs (H i):=by
 cases h:H i with
 | none=>simp[stv,h,rowSt]
 | some b=>cases b with
  | row cs e rw=>cases rw <;> simp[stv,h,rowSt]
  | map es=>simp[stv,h,rowSt]
theorem Same.set {n i:Nat}{H H':Hp}(h:Same n H H')(hi:n<=i)(o:Option Obj):Same n H (H'.set i o):=fun j hj=>by rw[Zf _ _ (by omega)];exact h j hj
theorem Same.at {n i:Nat}{H H':Hp}(h:Same n H H')(hi:i < n){o:Option Obj}(ho:H i=o):H' i=o:=by rw[h i hi];exact ho
abbrev Rt (P:Program)(f:Nat)(args:List Value)(H:Hp)(n:Nat)(v:Value):Prop:=∃ H' n',n<=n'/\Same n H H'/\Call P f args H n=some (v,H',n')
abbrev RtN (P:Program)(f:Nat)(args:List Value)(H:Hp)(n:Nat)(R:Value->Hp->Nat->Prop):Prop:=∃ v H' n',n<=n'/\Same n H H'/\Call P f args H n=some (v,H',n')/\R v H' n'
theorem Wa {α:Type}{l:List α}{j:Nat}(h:j < l.length):l.take (j+1)=l.take j++[l[j]]:=by rw[List.take_add_one,List.getElem?_eq_getElem h];rfl
theorem wj {j:Nat}{len:Nat}(h:j < len)(hl:len<=1000000000):IntKind.i64.wrap ((j:Int)+1)=((j+1:Nat):Int):=by rw[Wo (by omega)];omega
theorem nats_lt {j len:Nat}:((j:Int) < (len:Int))=(j < len):=by apply propext;omega
theorem i_and (k:IntKind)(a b:Int):Zd .plain .and (.int k a) (.int k b)=some (.int k (k.wrap (BitVec.ofInt k.bits a &&& BitVec.ofInt k.bits b).toNat)):=by simp[Zd,bin,Vd,intBin]
theorem i_xor (k:IntKind)(a b:Int):Zd .plain .xor (.int k a) (.int k b)=some (.int k (k.wrap (BitVec.ofInt k.bits a ^^^ BitVec.ofInt k.bits b).toNat)):=by simp[Zd,bin,Vd,intBin]
theorem i_shr' (k k':IntKind)(a b:Int)(h:0<=b):Zd .plain .shr (.int k a) (.int k' b)=some (.int k (a.fdiv (2 ^ (min b.toNat k.bits)))):=by rw[i_shr,if_neg (by omega)]
theorem and_le (a:Int)(m:Nat)(hm:m < 9223372036854775808):0<=IntKind.i64.wrap (BitVec.ofInt IntKind.i64.bits a &&& BitVec.ofInt IntKind.i64.bits (m:Int)).toNat/\IntKind.i64.wrap (BitVec.ofInt IntKind.i64.bits a &&& BitVec.ofInt IntKind.i64.bits (m:Int)).toNat<=m:=by
 have hbits:IntKind.i64.bits=64:=rfl
 rw[hbits,BitVec.toNat_and]
 have e:(BitVec.ofInt 64 (m:Int)).toNat=m:=by rw[BitVec.toNat_ofInt];omega
 rw[e]
 have:=@Nat.and_le_right (BitVec.ofInt 64 a).toNat m
 rw[Wo (by omega)]
 omega
def Off (c:Nat)(v:Value):Prop:=∀ i o a k,v=.slice (some ⟨i,o,none⟩) a k->i≠c
theorem Old.off {n c:Nat}{v:Value}(h:Old n v)(hc:n<=c):Off c v:=fun i o a k e=>by have:=h i o a k e;omega
theorem Off.sl {i o n c:Nat}(h:i≠c):Off c (sl i o n):=fun i' o' a k e=>by cases e;exact h
theorem Li.upd1 {α:Type}{E:Enc α}{n m c:Nat}{H H':Hp}{v:Value}{l:List α}(h:Li E n H v l)(hs:Upd m [c] H H')(hm:n<=m)(ho:Off c v):Li E n H' v l:=h.upd hs hm fun i o a k e hi=>ho i o a k e (by simpa using hi)
theorem Same.upd1 {n m c:Nat}{H H':Hp}(h:Same n H H')(hm:m<=n):Upd m [c] H H':=h.upd hm _
theorem Upd.tr {n n1 c:Nat}{H H1 H2:Hp}(h:Upd n [c] H H1)(h1:Upd n1 [c] H1 H2)(hn:n<=n1):Upd n [c] H H2:=h.trans h1 hn fun i hi _=>hi
theorem Upd.set {n c:Nat}{H H':Hp}(h:Upd n [c] H H')(o:Option Obj):Upd n [c] H (H'.set c o):=fun i hi hs=>by rw[Zf _ _ (by simpa using hs)];exact h i hi hs
theorem Upd.less {n m:Nat}{S:List Nat}{H H':Hp}(h:Upd n S H H')(hm:m<=n):Upd m S H H':=fun i hi hs=>h i (by omega) hs
theorem Upd.fresh {n i:Nat}{S:List Nat}{H H':Hp}(h:Upd n S H H')(hi:n<=i)(o:Option Obj):Upd n S H (H'.set i o):=fun j hj hs=>by rw[Zf _ _ (by omega)];exact h j hj hs
def Cu (c n:Nat)(H:Hp):Prop:=c < n/\∃ b l i h,Li eByte c H b l/\(∀ x∈l,0<=x/\x<=255)/\l.length<=1048576/\0<=i/\i<=(l.length:Int)/\H c=some (.row [b,.int .i64 i,.int .i64 h] 0 true)
theorem Cu.up {c n m:Nat}{H:Hp}(h:Cu c n H)(hm:n<=m):Cu c m H:=⟨by have:=h.1;omega,h.2⟩
theorem Cu.keep {c n m:Nat}{H H':Hp}(h:Cu c n H)(hs:Same m H H')(hm:n<=m):Cu c n H':=by
 obtain⟨h1,b,l,i,x,h2,h3,h4,h5,h6,h7⟩:=h
 exact⟨h1,b,l,i,x,h2.keep hs (by omega),h3,h4,h5,h6,by rw[hs c (by omega)];exact h7⟩
theorem Cu.low {c n m:Nat}{H H':Hp}(h:Cu c n H)(hs:∀ i,i<=c->H' i=H i)(hm:c < m):Cu c m H':=by
 obtain⟨h1,b,l,i,x,h2,h3,h4,h5,h6,h7⟩:=h
 exact⟨hm,b,l,i,x,h2.keep' fun q o a k e=>hs q (by have:=h2.2 q o a k e;omega),h3,h4,h5,h6,by rw[hs c (Nat.le_refl _)];exact h7⟩
theorem Cu.set {c n i:Nat}{H:Hp}(h:Cu c n H)(hi:c < i)(o:Option Obj):Cu c n (H.set i o):=h.low (fun j hj=>Zf _ _ (by omega)) h.1
abbrev RtD (P:Program)(f:Nat)(args:List Value)(c:Nat)(H:Hp)(n:Nat)(R:Value->Hp->Nat->Prop):Prop:=∃ v H' n',n<=n'/\Upd n [c] H H'/\Cu c n' H'/\Call P f args H n=some (v,H',n')/\R v H' n'
theorem Wp.step {α β:Type}{x:Option α}{f:α->Option β}{Q:β->Prop}{a:α}(h:x=some a)(k:Wp (f a) Q):Wp (x.bind f) Q:=by rw[h];exact k
theorem Wp.askT {α:Type}{p:Prop}{A:Option α}{Q:α->Prop}(h:p)(k:Wp A Q):Wp (ask p A) Q:=by rw[ask_same h];exact k
theorem Wp.iteKT {α:Type}{b:Bool}{A:Option α}{Q:α->Prop}(h:b=true)(k:Wp A Q):Wp (Yr b A) Q:=by rw[h];exact k
theorem Wp.andS {a b:Bool}{l:Array Value}{β:Type}{f:Value->Option β}{Q:β->Prop}(k:Wp (f (.bool (a && b))) Q):Wp ((Zl (.bool a) (gsel (.bool a) true (.bool b) (.tuple l)) (.bool false)).bind f) Q:=by cases a <;> exact k
theorem Wp.orS {a b:Bool}{l:Array Value}{β:Type}{f:Value->Option β}{Q:β->Prop}(k:Wp (f (.bool (a || b))) Q):Wp ((Zl (.bool a) (.bool true) (gsel (.bool a) false (.bool b) (.tuple l))).bind f) Q:=by cases a <;> exact k
theorem Rt.of {P:Program}{f:Nat}{args:List Value}{H:Hp}{n:Nat}{v:Value}(h:Wp (Call P f args H n) fun q=>n<=q.2.2/\Same n H q.2.1/\q.1=v):Rt P f args H n v:=by
 obtain⟨⟨v',H',n'⟩,h1,h2,h3,h4⟩:=h
 exact⟨H',n',h2,h3,by rw[h1,← h4]⟩
theorem RtN.of {P:Program}{f:Nat}{args:List Value}{H:Hp}{n:Nat}{R:Value->Hp->Nat->Prop}(h:Wp (Call P f args H n) fun q=>n<=q.2.2/\Same n H q.2.1/\R q.1 q.2.1 q.2.2):RtN P f args H n R:=by
 obtain⟨⟨v',H',n'⟩,h1,h2,h3,h4⟩:=h
 exact⟨v',H',n',h2,h3,h1,h4⟩
theorem RtD.of {P:Program}{f:Nat}{args:List Value}{c:Nat}{H:Hp}{n:Nat}{R:Value->Hp->Nat->Prop}(h:Wp (Call P f args H n) fun q=>n<=q.2.2/\Upd n [c] H q.2.1/\Cu c q.2.2 q.2.1/\R q.1 q.2.1 q.2.2):RtD P f args c H n R:=by
 obtain⟨⟨v',H',n'⟩,h1,h2,h3,h4,h5⟩:=h
 exact⟨v',H',n',h2,h3,h4,h1,h5⟩
theorem Wp.val {x:Option (Value × Hp × Nat)}{v:Value}(h:Wp x fun q=>q.1=v):∃ H' n',x=some (v,H',n'):=by
 obtain⟨⟨_,H,n⟩,rfl,rfl⟩:=h
 exact⟨H,n,rfl⟩
theorem text_beq (a b:ByteArray):(a.toList == b.toList)=decide (a=b):=by
 rw[ByteArray.toList_eq,ByteArray.toList_eq]
 by_cases h:a=b
 ·subst h;simp
 ·have:a.data.toList≠b.data.toList:=fun e=>h (by cases a;cases b;simp_all)
  rw[decide_eq_false h];simpa using this
theorem node_eql (k n:Int)(s:ByteArray)(a b k' n':Int)(s':ByteArray)(a' b':Int):Zd (.agg [(0,(.int .i64)),(1,(.int .i64)),(2,.string),(3,(.int .i64)),(4,(.int .i64))]) .eql (.agg ⟨[.int .i64 k,.int .i64 n,.string s,.int .i64 a,.int .i64 b]⟩) (.agg ⟨[.int .i64 k',.int .i64 n',.string s',.int .i64 a',.int .i64 b']⟩)=some (.bool (decide (k=k'/\n=n'/\s=s'/\a=a'/\b=b'))):=by
 have e:Zd (.agg [(0,(.int .i64)),(1,(.int .i64)),(2,.string),(3,(.int .i64)),(4,(.int .i64))]) .eql (.agg ⟨[.int .i64 k,.int .i64 n,.string s,.int .i64 a,.int .i64 b]⟩) (.agg ⟨[.int .i64 k',.int .i64 n',.string s',.int .i64 a',.int .i64 b']⟩)=some (.bool ((k == k') && ((n == n') && ((s.toList == s'.toList) && ((a == a') && ((b == b') && true)))))):=rfl
 rw[e,text_beq]
 by_cases h1:k=k' <;> by_cases h2:n=n' <;> by_cases h3:s=s' <;> by_cases h4:a=a' <;> by_cases h5:b=b' <;> simp[h1,h2,h3,h4,h5]
theorem t_eql (a b:ByteArray):Zd .plain .eql (.string a) (.string b)=some (.bool (decide (a=b))):=by rw[s_eql,text_beq]
theorem t_neq (a b:ByteArray):Zd .plain .neq (.string a) (.string b)=some (.bool (decide (a≠b))):=by rw[s_neq,text_beq];by_cases h:a=b <;> simp[h]
theorem b_eql (a b:Bool):Zd .bool .eql (.bool a) (.bool b)=some (.bool (decide (a=b))):=by rw[bool_eq];cases a <;> cases b <;> rfl
theorem b_neq (a b:Bool):Zd .bool .neq (.bool a) (.bool b)=some (.bool (decide (a≠b))):=by rw[bool_ne];cases a <;> cases b <;> rfl
theorem Wz (id:Nat)(z:Value)(H:Hp):Xx id 1 0 [z] [] H=some (sl id 0 0,H.set id (some (.row [] 1 true))):=by simp[Xx,fill]
theorem bsl_new {α:Type}(E:Enc α){id cnt:Nat}{zero:List Value}{parts:List (Nat × Nat × Value)}{H:Hp}(l:List α)(hz:cnt * E.sz<=16777216/\zero.length=E.sz)(hc:cnt=l.length)(hf:fill (List.replicate cnt zero).flatten parts=some (l.flatMap E.cells)) :
  Xx id E.sz cnt zero parts H=some (sl id 0 cnt,H.set id (some (.row (l.flatMap E.cells) E.sz true)))/\At E id (H.set id (some (.row (l.flatMap E.cells) E.sz true))) (sl id 0 cnt) l:=by
 refine⟨?_,.inr ⟨by rw[hc],Ze _ _ _⟩⟩
 unfold Xx
 rw[if_pos hz,hf];rfl
theorem At.off {α:Type}{E:Enc α}{id c:Nat}{H:Hp}{v:Value}{l:List α}(h:At E id H v l)(hc:id≠c):Off c v:=by
 rcases h with⟨rfl,_⟩|⟨rfl,_⟩
 ·intro i o a k e;cases e
 ·intro i o a k e;cases e;exact hc
end Go.Proofs.YtcffcnipmgkjfaaGreat.Ax
