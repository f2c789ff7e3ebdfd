/- What the law needs: laws of the abstract machine, and contracts of functions. -/
import Derived.Test.YtcffcnipmgkjfaaGreatM1
import Derived.Deep.LoopGhost
import Derived.Below
import Derived.Test.YtcffcnipmgkjfaaGreatM0
import Derived.Deep.Slices
import Derived.ChangeArms
import Derived.WideShapes
set_option linter.unusedSimpArgs false
set_option linter.unusedVariables false
set_option maxHeartbeats 8000000
namespace Go.Proofs.YtcffcnipmgkjfaaGreat.Ax
open Go
variable {P:Program}
def Fresh (G:Gh)(H:Hp)(n:Nat):Prop:=∀ i,n<=i->G i=none/\H i=none
theorem Fresh.post {G G':Gh}{H H':Hp}{w w':World}{n n':Nat}{New:Nat->Prop}(h:Fresh G H n)(hn:n<=n')(hp:Post New G H w G' H' w')(hN:∀ i,n'<=i->¬ New i):Fresh G' H' n' :=
 fun i hi=>⟨hp.dom i (h i (Nat.le_trans hn hi)).1 (hN i hi),hp.alive i (h i (Nat.le_trans hn hi)).2 (hN i hi)⟩
abbrev Span (n n':Nat):Nat->Prop:=fun i=>n<=i/\i < n'
def CALL (P:Program)(C:Zb):Prop :=
 ∀ f args H n v H' n', C f args H n = some (v, H', n') → (∃ fn c, P.funcs[f]? = some fn ∧ fn.body = some c ∧ (fn.name == "runtime.NumGoroutine") = false) ∧
  ∀ G w args', All2 (VR G) args args'->HR G H w->Fresh G H n ->
   Calls P f ⟨args'⟩ w fun e w'=>∃ v' G', e=.returned v'/\VR G' v v'/\n<=n'/\Post (Span n n') G H w G' H' w'
theorem exec_sim {C:Zb}(hC:CALL P C){G:Gh}{H:Hp}{w:World}(hH:HR G H w){n:Nat}(hF:Fresh G H n){id:Nat}(hid:G id=none){o:Oper}{p:Operand->Bool}(ho:o.op.operands.toList.all p=true){t:Tm}{a:Act}
  (hv:∀ x,p x=true->VR G (ev t x) (a.eval x)) {t':Tm}{H':Hp}{n':Nat} (h:Xs P C o id t H n=some (t',H',n')) {K:Act->World->Prop}{Q:Exit->Act->World->Prop}
  (hK:∀ v v' G' w',t'=Xv t o.dst v->VR G' v v'->n<=n'->Post (fun i=>i=id∨Span n n' i) G H w G' H' w'->K (a.put o.dst v') w'):o.wp P a w K Q:=by
 unfold Xs at h
 simp only[Option.bind_eq_some_iff]at h
 obtain⟨r,hr,h⟩:=h
 have hd:=step_sim hH hid ho hv hr
 unfold Oper.wp
 cases hd with
 | val h1 h2 h3=>
  cases h
  rw[h1,Oper.upon_value]
  exact hK _ _ _ _ rfl h2 (Nat.le_refl _) (h3.weaken fun i hi=>.inl hi)
 | skip h1 h3=>
  cases h
  rw[h1,Oper.upon_skip]
  exact hK _ _ _ _ rfl VR.undef (Nat.le_refl _) (h3.weaken fun i hi=>.inl hi)
 | call h1 h2=>
  simp only[Option.bind_eq_some_iff,Option.some.injEq,Prod.mk.injEq]at h
  obtain⟨⟨v,H1,n1⟩,hc,rfl,rfl,rfl⟩:=h
  obtain⟨⟨fn,c,e1,e2,e3⟩,hcall⟩:=hC _ _ _ _ _ _ _ hc
  rw[h2 fn c e1 e2 e3,Oper.upon_enter]
  refine Calls.mono (hcall G w _ h1 hH hF) ?_
  rintro e w' ⟨v',G',rfl,hv',hn,hp⟩
  exact hK _ _ _ _ rfl hv' hn (hp.weaken fun i hi=>.inr hi)
structure TR (G:Gh)(m:Nat)(t:Tm)(a:Act):Prop where
 size:m<=a.tmps.size
 val:∀ i,VR G (t i) (a.tmps.getD i undef)
theorem Act.put_size (a:Act)(d:Option Nat)(v:Value):(a.put d v).tmps.size=a.tmps.size:=by
 cases d <;> simp[Act.put]
theorem Act.put_defers (a:Act)(d:Option Nat)(v:Value):(a.put d v).defers=a.defers:=by
 cases d <;> rfl
theorem Act.put_get (a:Act)(d:Nat)(v:Value)(i:Nat)(hd:d < a.tmps.size):(a.put (some d) v).tmps.getD i undef=if i=d then v else a.tmps.getD i undef:=by
 simp only[Act.put,Array.getD_eq_getD_getElem?,Array.getElem?_setIfInBounds]
 by_cases h:d=i
 ·subst h;simp[hd]
 ·rw[if_neg h,if_neg (Ne.symm h)]
theorem TR.put {G:Gh}{m:Nat}{t:Tm}{a:Act}(h:TR G m t a){d:Option Nat}(hd:∀ x,d=some x->x < m){v v':Value}(hv:VR G v v'):TR G m (Xv t d v) (a.put d v'):=by
 cases d with
 | none=>exact h
 | some d=>
  have hlt:d < a.tmps.size:=Nat.lt_of_lt_of_le (hd d rfl) h.size
  refine⟨by rw[Act.put_size];exact h.size,fun i=>?_⟩
  rw[Act.put_get a d v' i hlt]
  show VR G (if i=d then v else t i) _
  split
  ·exact hv
  ·exact h.val i
theorem TR.mono {G G':Gh}{m:Nat}{t:Tm}{a:Act}(h:TR G m t a)(hg:GLe G G'):TR G' m t a:=⟨h.size,fun i=>(h.val i).mono hg⟩
theorem opnd_vr {G:Gh}{t:Tm}{a:Act}{x:Operand}(hx:opnd x=true)(ht:∀ i,x=.tmp i->VR G (t i) (a.tmps.getD i undef)):VR G (ev t x) (a.eval x):=by
 cases x with
 | tmp i=>exact ht i rfl
 | const v=>exact .sr (gnd1_sr hx)
 | global g=>cases hx
 | func f=>exact .p (.c (.fn f .nil))
theorem VR.bool_right {G:Gh}{x:Value}{b:Bool}(h:VR G x (.bool b)):x=.bool b:=by
 cases h with
 | p h=>cases h with
  | c h=>cases h with
   | s h=>cases h with
    | bool=>rfl
def yieldOf (x:Option Value):Option Bool :=
 match x with
 | some (.bool b)=>some b
 | _=>none
theorem guard_aux {α:Type}{G:Gh}{t:Tm}{tm:Array Value}(want:Bool)(A B:α):∀ (x:Option Nat),(∀ d,x=some d->VR G (t d) (tm.getD d undef)) ->
  (match x with|some d=>gsel (t d) want A B|none=>B)=if(yieldOf (x.bind (tm[·]?)) == some want)=true then A else B
 | none,_=>rfl
 | some d,h=>by
  have hv:=h d rfl
  show gsel (t d) want A B=if(yieldOf tm[d]? == some want)=true then A else B
  cases hx:tm[d]? with
  | none=>
   rw[Array.getD_eq_getD_getElem?,hx]at hv
   have:∀ b,t d≠.bool b:=by
    intro b hb
    rw[hb]at hv
    have:=hv.boolS
    cases this
   unfold gsel
   split
   ·rename_i b hb;exact absurd hb (this b)
   ·rfl
  | some x=>
   rw[Array.getD_eq_getD_getElem?,hx]at hv
   simp only[Option.getD_some]at hv
   unfold gsel
   split
   ·rename_i b hb
    rw[hb]at hv
    obtain rfl:=hv.boolS
    cases b <;> cases want <;> rfl
   ·rename_i hb
    have:∀ b,x≠.bool b:=by
     intro b he
     subst he
     exact hb b hv.bool_right
    cases x <;> first|exact absurd rfl (this _)|rfl
theorem guard_eq {α:Type}{G:Gh}{ops:Array Oper}{t:Tm}{a:Act}{o:Oper}(h:∀ j b d,o.guard=some (j,b)->(ops[j]?).bind (·.dst)=some d->VR G (t d) (a.tmps.getD d undef)) (A B:α) :
  Yl ops.toList t o A B=if Region.wanted o (yielded ops a.tmps)=true then A else B:=by
 unfold Yl Region.wanted
 cases hg:o.guard with
 | none=>rfl
 | some p=>
  obtain⟨j,want⟩:=p
  have:=guard_aux (t:=t) (tm:=a.tmps) want A B ((ops[j]?).bind (·.dst)) fun d hd=>h j want d hg hd
  simp only[Array.getElem?_toList]
  exact this
theorem text_sim {C:Zb}(hC:CALL P C){ops:Array Oper}{n0 m:Nat}(hops:ops.toList.all opsOk=true)(hdst:dstsOps m ops.toList=true){Q:Exit->Act->World->Prop} :
  ∀ (l:List Oper) (i:Nat) (t:Tm) (H:Hp) (n:Nat) (r:R3) (G:Gh) (a:Act) (w:World),l=ops.toList.drop i->Ww P C ops.toList n0 l i t H n=some r ->
   TR G m t a->HR G H w->Fresh G H n->n0+ops.size<=n->(∀ j,i<=j->j < ops.size->G (n0+j)=none) ->
   (∀ G' a' w',TR G' m r.1 a'->a'.defers=a.defers->n<=r.2.2->Post (Span n0 r.2.2) G H w G' r.2.1 w'->Q .normal a' w')->wpOps P ops Q (List.range' i l.length) a w
 | [],i,t,H,n,r,G,a,w,hl,h,hT,hH,hF,hn,hres,hQ=>by
  cases h
  exact hQ G a w hT rfl (Nat.le_refl _) (Post.refl hH)
 | o :: l,i,t,H,n,r,G,a,w,hl,h,hT,hH,hF,hn,hres,hQ=>by
  have hoi:ops.toList[i]?=some o:=by
   have:=congrArg (·[0]?) hl
   simpa using this.symm
  have hoi':ops[i]?=some o:=by rw[← Array.getElem?_toList];exact hoi
  have hmem:o∈ops.toList:=List.mem_of_getElem? hoi
  have hi:i < ops.size:=(Array.getElem?_eq_some_iff.1 hoi').1
  have hl':l=ops.toList.drop (i+1):=by
   have:=congrArg List.tail hl
   simpa using this
  have hdo:∀ x,o.dst=some x->x < m:=by
   intro x hx
   have:=List.all_eq_true.1 hdst o hmem
   rw[hx]at this
   simpa using this
  have hoo:o.op.operands.toList.all opnd=true:=List.all_eq_true.1 hops o hmem
  unfold Ww at h
  simp only[Option.bind_eq_some_iff]at h
  obtain⟨⟨t1,H1,n1⟩,h1,h2⟩:=h
  rw[guard_eq (G:=G) (a:=a) fun j b d _ _=>hT.val d]at h1
  rw[List.length_cons,List.range'_succ,wpOps_cons]
  unfold wpOp
  rw[hoi']
  simp only
  by_cases hw:Region.wanted o (yielded ops a.tmps)=true
  ·rw[if_pos hw]at h1 ⊢
   refine .inl (exec_sim hC hH hF (hres i (Nat.le_refl _) hi) hoo (fun x hx=>opnd_vr hx fun i _=>hT.val i) h1 ?_)
   intro v v' G' w' ht hv hn1 hp
   have hN:∀ k,n1<=k->¬ (k=n0+i∨Span n n1 k):=by
    rintro k hk (rfl|hs)
    ·omega
    ·exact absurd hs.2 (by omega)
   refine text_sim hC hops hdst l (i+1) t1 H1 n1 r G' _ w' hl' h2 (by rw[ht];exact(hT.mono hp.le).put hdo hv) hp.hr (hF.post hn1 hp hN) (by omega) ?_ ?_
   ·intro j hj hjs
    refine hp.dom _ (hres j (by omega) hjs) ?_
    rintro(hx|hs)
    ·omega
    ·have:=hs.1;omega
   ·intro G2 a2 w2 hT2 hd2 hn2 hp2
    refine hQ G2 a2 w2 hT2 (by rw[hd2,Act.put_defers]) (Nat.le_trans hn1 hn2) ?_
    refine(hp.trans hp2).weaken ?_
    rintro k ((rfl|hs)|hs)
    ·exact⟨by omega,by omega⟩
    ·have:=hs.1;have:=hs.2;exact⟨by omega,by omega⟩
    ·exact hs
  ·rw[if_neg hw]at h1 ⊢
   simp only[Option.some.injEq,Prod.mk.injEq]at h1
   obtain⟨rfl,rfl,rfl⟩:=h1
   refine text_sim hC hops hdst l (i+1) _ H n r G _ w hl' h2 (hT.put hdo VR.undef) hH hF hn (fun j hj hjs=>hres j (by omega) hjs) ?_
   intro G2 a2 w2 hT2 hd2 hn2 hp2
   exact hQ G2 a2 w2 hT2 (by rw[hd2,Act.put_defers]) hn2 hp2
end Go.Proofs.YtcffcnipmgkjfaaGreat.Ax
namespace Go.Proofs.YtcffcnipmgkjfaaGreat.Ax
open Go
variable {P:Program}
theorem edges_spec (ms:List Nat)(j:Nat):∀ (es:List Edge)(m:Nat),(es.foldl (fun m e=>if edgeOn e then m ||| (1 <<< e.on) ||| (ms.getD e.on 0)else m) m).testBit j=true ->
  m.testBit j=true∨∃ e∈es,edgeOn e=true/\(j=e.on∨(ms.getD e.on 0).testBit j=true)
 | [],m,h=>.inl h
 | e :: es,m,h=>by
  rw[List.foldl_cons]at h
  rcases edges_spec ms j es _ h with h|⟨e',h1,h2⟩
  ·split at h
   ·rename_i he
    rw[Nat.testBit_or,Nat.testBit_or,Bool.or_eq_true,Bool.or_eq_true,Nat.one_shiftLeft,Nat.testBit_two_pow]at h
    rcases h with(h|h)|h
    ·exact .inl h
    ·exact .inr ⟨e,List.mem_cons_self ..,he,.inl (by simpa[eq_comm]using h)⟩
    ·exact .inr ⟨e,List.mem_cons_self ..,he,.inr h⟩
   ·exact .inl h
  ·exact .inr ⟨e',List.mem_cons_of_mem _ h1,h2⟩
theorem befs_get:∀ (l:List Oper)(ms:List Nat)(i:Nat),i < ms.length->(befs l ms)[i]?=ms[i]?
 | [],ms,i,h=>rfl
 | o :: l,ms,i,h=>by
  unfold befs
  rw[befs_get l _ i (by simp;omega),List.getElem?_append_left h]
theorem befs_at:∀ (l:List Oper)(ms:List Nat)(k:Nat)(o:Oper),l[k]?=some o->∃ ms',(∀ i,i < ms.length+k->ms'[i]?=(befs l ms)[i]?)/\(befs l ms)[ms.length+k]?=some (edges o.after.toList ms')
 | [],ms,k,o,h=>by simp at h
 | o' :: l,ms,0,o,h=>by
  simp only[List.getElem?_cons_zero,Option.some.injEq]at h
  subst h
  refine⟨ms,fun i hi=>?_,?_⟩
  ·unfold befs
   rw[befs_get _ _ _ (by simp;omega),List.getElem?_append_left (by omega)]
  ·unfold befs
   rw[befs_get _ _ _ (by simp)]
   simp
 | o' :: l,ms,k+1,o,h=>by
  simp only[List.getElem?_cons_succ]at h
  obtain⟨ms',h1,h2⟩:=befs_at l (ms++[edges o'.after.toList ms]) k o h
  have hl:(ms++[edges o'.after.toList ms]).length=ms.length+1:=by simp
  rw[hl]at h1 h2
  refine⟨ms',fun i hi=>?_,?_⟩
  ·unfold befs;exact h1 i (by omega)
  ·unfold befs;rw[show ms.length+(k+1)=ms.length+1+k by omega];exact h2
theorem edgesOk_at:∀ (l:List Oper)(i k:Nat)(o:Oper),edgesOk l i=true->l[k]?=some o->∀ e∈o.after.toList,edgeOn e=true->e.on < i+k
 | [],i,k,o,_,h=>by simp at h
 | o' :: l,i,0,o,he,h=>by
  simp only[List.getElem?_cons_zero,Option.some.injEq]at h
  subst h
  unfold edgesOk at he
  rw[Bool.and_eq_true,List.all_eq_true]at he
  intro e hm hon
  have:=he.1 e hm
  rw[hon]at this
  simpa using this
 | o' :: l,i,k+1,o,he,h=>by
  simp only[List.getElem?_cons_succ]at h
  unfold edgesOk at he
  rw[Bool.and_eq_true]at he
  intro e hm hon
  have:=edgesOk_at l (i+1) k o he.2 h e hm hon
  omega
theorem bef_spec {l:List Oper}(he:edgesOk l 0=true){i j:Nat}{o:Oper}(ho:l[i]?=some o)(h:bef l j i=true):∃ e∈o.after.toList,edgeOn e=true/\(j=e.on∨bef l j e.on=true):=by
 unfold bef at h
 obtain⟨ms',h1,h2⟩:=befs_at l [] i o ho
 simp only[List.length_nil,Nat.zero_add]at h1 h2
 rw[List.getD_eq_getElem?_getD,h2,Option.getD_some]at h
 unfold edges at h
 rcases edges_spec ms' j _ 0 h with h|⟨e,e1,e2,e3⟩
 ·simp at h
 ·refine⟨e,e1,e2,e3.imp id fun h=>?_⟩
  have:=edgesOk_at l 0 i o he ho e e1 e2
  unfold bef
  rw[List.getD_eq_getElem?_getD,← h1 e.on (by omega),← List.getD_eq_getElem?_getD]
  exact h
theorem pairsOk_at {ops:List Oper}{b:List Nat}:∀ (l:List Oper)(i k:Nat)(o:Oper),pairsOk P ops b l i=true->l[k]?=some o->∀ j x,j < i+k->ops[j]?=some x->clash P ops x o=true->(b.getD (i+k) 0).testBit j=true
 | [],i,k,o,_,h=>by simp at h
 | o' :: l,i,0,o,he,h=>by
  simp only[List.getElem?_cons_zero,Option.some.injEq]at h
  subst h
  unfold pairsOk at he
  rw[Bool.and_eq_true,List.all_eq_true]at he
  intro j x hj hx hc
  have:=he.1 j (by simpa using hj)
  rw[hx]at this
  simp only[hc,Bool.not_true,Bool.false_or]at this
  exact this
 | o' :: l,i,k+1,o,he,h=>by
  simp only[List.getElem?_cons_succ]at h
  unfold pairsOk at he
  rw[Bool.and_eq_true]at he
  intro j x hj hx hc
  have:=pairsOk_at l (i+1) k o he.2 h j x (by omega) hx hc
  rwa [show i+1+k=i+(k+1) by omega]at this
theorem clash_bef {l:List Oper}(hp:pairsOk P l (befs l []) l 0=true){i j:Nat}{x o:Oper}(ho:l[i]?=some o)(hx:l[j]?=some x)(hj:j < i)(hc:clash P l x o=true):bef l j i=true:=by
 have:=pairsOk_at (P:=P) l 0 i o hp ho j x (by omega) hx hc
 rw[Nat.zero_add]at this
 exact this
theorem Post.vset {New:Nat->Prop}{G0 G:Gh}{H0 K:Hp}{w0 w:World}(h:Post New G0 H0 w0 G K w){id:Nat}(hN:New id)(hg:G id=none){ob:Obj}(hr:rwObj ob=true):Post New G0 H0 w0 G (K.set id (some ob)) w:=by
 refine⟨h.le,h.dom,?_,?_,?_,?_,h.fr,?_⟩
 ·intro i hi hn
  rw[Hp.set_ne _ _ (by rintro rfl;exact hn hN)]
  exact h.virt i hi hn
 ·intro i hi hn
  rw[Hp.set_ne _ _ (by rintro rfl;exact hn hN)]
  exact h.alive i hi hn
 ·rintro b ⟨i,o,g,hi,ho,hgi,rfl⟩
  rw[Hp.set_ne _ _ (by rintro rfl;rw[hg]at hgi;cases hgi)]at hi
  exact h.own _ ⟨i,o,g,hi,ho,hgi,rfl⟩
 ·intro i o hi ho
  by_cases e:i=id
  ·subst e;rw[Hp.set_same]at hi;cases hi;rw[hr]at ho;cases ho
  ·rw[Hp.set_ne _ _ e]at hi;exact h.ro i o hi ho
 ·refine h.hr.sub fun i o hi hgi=>?_
  rw[Hp.set_ne _ _ (by rintro rfl;exact hgi hg)]at hi
  exact hi
def over (X:Nat->Option Obj)(H:Hp):Hp:=fun i=>(X i).or (H i)
theorem Wb {X:Nat->Option Obj}{H:Hp}{i:Nat}{o:Obj}(h:X i=some o):over X H i=some o:=by simp[over,h]
theorem Yp {X:Nat->Option Obj}{H:Hp}{i:Nat}(h:X i=none):over X H i=H i:=by simp[over,h]
theorem Post.frame {New:Nat->Prop}{G G':Gh}{H H':Hp}{w w':World}(h:Post New G H w G' H' w'){X:Nat->Option Obj}(hX:∀ i o,X i=some o->rwObj o=true/\G i≠none/\H i=none/\¬ New i)(hK:HR G (over X H) w) (hN:∀ i,New i->H i=none) :
  Post New G (over X H) w G' (over X H') w':=by
 have ownUp:∀ b,Own G H b->Own G (over X H) b:=by
  rintro b ⟨i,o,g,hi,ho,hg,rfl⟩
  refine⟨i,o,g,?_,ho,hg,rfl⟩
  rw[Yp]
  ·exact hi
  ·cases hx:X i with
   | none=>rfl
   | some x=>rw[(hX i x hx).2.2.1]at hi;cases hi
 have hX':∀ i o,X i=some o->H' i=none:=fun i o hi=>h.alive i (hX i o hi).2.2.1 (hX i o hi).2.2.2
 have gX:∀ i o,X i=some o->∃ g,G i=some g/\G' i=some g/\OR G g o w.heap[g.blk]?/\¬ Own G H g.blk:=by
  intro i o hi
  obtain⟨h1,h2,h3,h4⟩:=hX i o hi
  obtain⟨g,hg⟩:=Option.ne_none_iff_exists'.1 h2
  refine⟨g,hg,h.le i g hg,hK.obj i o g (Wb hi) hg,?_⟩
  rintro⟨j,oj,gj,hj,hrj,hgj,hb⟩
  have hne:j≠i:=by rintro rfl;rw[h3]at hj;cases hj
  have hxj:X j=none:=by
   cases hx:X j with
   | none=>rfl
   | some x=>rw[(hX j x hx).2.2.1]at hj;cases hj
  exact hK.inj j i oj o gj g hne (by rw[Yp hxj];exact hj) (Wb hi) hrj hgj hg hb
 have same:∀ i o g,X i=some o->G' i=some g->w'.heap[g.blk]?=w.heap[g.blk]?/\g.blk < w.heap.size:=by
  intro i o g hi hg
  obtain⟨g1,e1,e2,e3,e4⟩:=gX i o hi
  obtain rfl:g1=g:=Option.some.inj (e2.symm.trans hg)
  have hlt:g1.blk < w.heap.size:=hK.lt (Wb hi) e1
  exact⟨h.fr.same _ hlt e4,hlt⟩
 refine⟨h.le,h.dom,?_,?_,?_,?_,?_,?_,?_⟩
 ·intro i hi hn
  cases hx:X i with
  | none=>rw[Yp hx,Yp hx];exact h.virt i hi hn
  | some x=>exact absurd hi (hX i x hx).2.1
 ·intro i hi hn
  cases hx:X i with
  | none=>rw[Yp hx]at hi ⊢;exact h.alive i hi hn
  | some x=>rw[Wb hx]at hi;cases hi
 ·rintro b ⟨i,o,g,hi,ho,hg,rfl⟩
  cases hx:X i with
  | none=>
   rw[Yp hx]at hi
   exact(h.own _ ⟨i,o,g,hi,ho,hg,rfl⟩).imp (ownUp _) id
  | some x=>
   obtain⟨g1,e1,e2,_⟩:=gX i x hx
   obtain rfl:g1=g:=Option.some.inj (e2.symm.trans hg)
   exact .inl ⟨i,x,g1,Wb hx,(hX i x hx).1,e1,rfl⟩
 ·intro i o hi ho
  cases hx:X i with
  | none=>rw[Yp hx]at hi ⊢;exact h.ro i o hi ho
  | some x=>obtain rfl:x=o:=Option.some.inj ((Wb hx).symm.trans hi);rw[(hX i x hx).1]at ho;cases ho
 ·exact⟨h.fr.os,h.fr.tape,h.fr.output,h.fr.size,fun b hb hn=>h.fr.same b hb fun hx=>hn (ownUp b hx)⟩
 ·intro i o g hi hg
  cases hx:X i with
  | none=>rw[Yp hx]at hi;exact h.hr.obj i o g hi hg
  | some x=>
   obtain rfl:x=o:=Option.some.inj ((Wb hx).symm.trans hi)
   obtain⟨g1,e1,e2,e3,e4⟩:=gX i x hx
   rw[(same i x g hx hg).1]
   obtain rfl:g1=g:=Option.some.inj (e2.symm.trans hg)
   exact e3.mono h.le
 ·intro i j oi oj gi gj hij hi hj hr hgi hgj
  -- of an object by the way and one that the operation knows
  have mixed:∀ x y ox oy gx gy,X x=some ox->X y=none->over X H' y=some oy->G' x=some gx->G' y=some gy->gx.blk≠gy.blk:=by
   intro x y ox oy gx gy hx hy hoy hgx hgy hb
   rw[Yp hy]at hoy
   obtain⟨g1,e1,e2,e3,e4⟩:=gX x ox hx
   obtain rfl:g1=gx:=Option.some.inj (e2.symm.trans hgx)
   have hlt:g1.blk < w.heap.size:=hK.lt (Wb hx) e1
   cases hrw:rwObj oy with
   | true=>
    rcases h.own _ ⟨y,oy,gy,hoy,hrw,hgy,rfl⟩with ho|ho
    ·exact e4 (hb ▸ ho)
    ·omega
   | false=>
    have hold:=h.ro y oy hoy hrw
    have hny:¬ New y:=fun hn=>by rw[hN y hn]at hold;cases hold
    have hgy0:G y=some gy:=by
     cases hg0:G y with
     | none=>rw[h.dom y hg0 hny]at hgy;cases hgy
     | some g0=>have:=h.le y g0 hg0;rw[hgy]at this;cases this;rfl
    have hne:x≠y:=by rintro rfl;rw[hx]at hy;cases hy
    exact hK.inj x y ox oy g1 gy hne (Wb hx) (by rw[Yp hy];exact hold) (hX x ox hx).1 e1 hgy0 hb
  cases hxi:X i with
  | none=>
   cases hxj:X j with
   | none=>
    rw[Yp hxi]at hi
    rw[Yp hxj]at hj
    exact h.hr.inj i j oi oj gi gj hij hi hj hr hgi hgj
   | some y=>
    exact fun hb=>mixed j i y oi gj gi hxj hxi hi hgj hgi hb.symm
  | some x=>
   cases hxj:X j with
   | none=>exact mixed i j x oj gi gj hxi hxj hj hgi hgj
   | some y=>
    obtain⟨g1,e1,e2,_⟩:=gX i x hxi
    obtain⟨g2,f1,f2,_⟩:=gX j y hxj
    obtain rfl:g1=gi:=Option.some.inj (e2.symm.trans hgi)
    obtain rfl:g2=gj:=Option.some.inj (f2.symm.trans hgj)
    exact hK.inj i j x y g1 g2 hij (Wb hxi) (Wb hxj) (hX i x hxi).1 e1 f1
theorem ld_mono {agg:Bool}{sz:Nat}{a v:Value}{H K:Hp}(h:ld agg sz a H=some v)(hK:∀ i o,H i=some o->K i=some o):ld agg sz a K=some v:=by
 have hc:∀ p,We a H=some p->We a K=some p:=by
  intro p hp
  unfold We at hp ⊢
  split at hp
  ·rename_i i o
   split at hp
   ·rename_i cs e rw_ hi
    rw[hK i _ hi]
    exact hp
   ·cases hp
  ·cases hp
 unfold ld at h ⊢
 split at h
 ·unfold lda at h ⊢
  simp only[Option.bind_eq_some_iff]at h
  obtain⟨p,hp,h⟩:=h
  rw[if_pos ‹_›,hc p hp]
  exact h
 ·unfold ldc at h ⊢
  simp only[Option.bind_eq_some_iff]at h
  obtain⟨p,hp,h⟩:=h
  rw[if_neg ‹_›,hc p hp]
  exact h
end Go.Proofs.YtcffcnipmgkjfaaGreat.Ax
namespace Go.Proofs.YtcffcnipmgkjfaaGreat.Ax
open Go
theorem inert_any {P:Program}{t:Tm}{o:Oper}{H:Hp}{id:Nat}{r:Res}(hc:cls P o=0)(h:step1 P t o H id=some r):∃ v,r=.val v H/\∀ K i,step1 P t o K i=some (.val v K):=by
 unfold step1 at h ⊢
 unfold cls at hc
 cases hop:o.op <;> rw[hop]at h hc <;> (try dsimp only at h) <;> (try dsimp only at hc) <;> (try dsimp only) <;> try(first|(cases h;done)|(cases hc;done))
 case move x=>cases h;exact⟨_,rfl,fun K i=>rfl⟩
 case assign x=>cases h;exact⟨_,rfl,fun K i=>rfl⟩
 case pick c a b=>obtain⟨x,h1,rfl⟩:=Xc h;exact⟨x,rfl,fun K i=>by simp only[h1];rfl⟩
 case build ty parts=>
  simp only[Option.bind_eq_some_iff]at h
  obtain⟨ti,ht,h⟩:=h
  split at h
  ·rename_i hc
   simp only[Option.bind_eq_some_iff]at h
   obtain⟨ps,hp,h⟩:=h
   obtain⟨x,h1,rfl⟩:=Xc h
   exact⟨x,rfl,fun K i=>by simp only[ht,Option.bind_some];rw[if_pos hc,hp,Option.bind_some,h1];rfl⟩
  ·cases h
 case nilCheck x=>obtain⟨x,h1,rfl⟩:=Xc h;exact⟨x,rfl,fun K i=>by simp only[h1];rfl⟩
 case binOp op ty x y s=>obtain⟨x,h1,rfl⟩:=Xc h;exact⟨x,rfl,fun K i=>by simp only[h1];rfl⟩
 case unOp op ty x=>obtain⟨x,h1,rfl⟩:=Xc h;exact⟨x,rfl,fun K i=>by simp only[h1];rfl⟩
 case convert s d x=>
  obtain⟨v,H',h1,rfl⟩:=vP_some h
  generalize hk:convK P s d=ck at h1 hc ⊢
  unfold conv at h1
  split at h1 <;> first|(cases hc;done)|skip
  ·cases h1;rename_i hx;exact⟨_,rfl,fun K i=>by simp only[conv,hx];rfl⟩
  ·cases h1;rename_i hx;exact⟨_,rfl,fun K i=>by simp only[conv,hx];rfl⟩
  ·cases h1;rename_i hx;exact⟨_,rfl,fun K i=>by simp only[conv,hx];rfl⟩
  ·cases h1
 case makeFunc fn first captured=>
  split at h
  ·rename_i hc
   split at h
   ·cases h;exact⟨_,rfl,fun K i=>by simp only[if_pos hc]⟩
   ·cases h
  ·cases h
 case slice ty x lo hi mx=>
  split at h
  ·cases h
  ·rename_i hm
   simp only[Option.bind_eq_some_iff]at h
   obtain⟨sz,hs,h⟩:=h
   obtain⟨v,h1,rfl⟩:=Xc h
   exact⟨v,rfl,fun K i=>by simp only[if_neg hm,hs,Option.bind_some,h1];rfl⟩
 case fieldAddr s x i=>
  simp only[Option.bind_eq_some_iff]at h
  obtain⟨p,hp,h⟩:=h
  obtain⟨v,h1,rfl⟩:=Xc h
  exact⟨v,rfl,fun K i=>by simp only[hp,Option.bind_some,h1];rfl⟩
 case field s x i=>
  simp only[Option.bind_eq_some_iff]at h
  obtain⟨p,hp,h⟩:=h
  obtain⟨v,h1,rfl⟩:=Xc h
  exact⟨v,rfl,fun K i=>by simp only[hp,Option.bind_some,h1];rfl⟩
 case indexAddr ty x i=>
  simp only[Option.bind_eq_some_iff]at h
  obtain⟨te,ht,h⟩:=h
  obtain⟨v,h1,rfl⟩:=Xc h
  exact⟨v,rfl,fun K i=>by simp only[ht,Option.bind_some,h1];rfl⟩
 case index ty x i=>
  simp only[Option.bind_eq_some_iff]at h
  obtain⟨ti,ht,h⟩:=h
  split at h
  ·rename_i hd
   obtain⟨v,h1,rfl⟩:=Xc h
   exact⟨v,rfl,fun K i=>by simp only[ht,Option.bind_some,hd,h1];rfl⟩
  ·cases h
 case extract x i=>obtain⟨v,h1,rfl⟩:=Xc h;exact⟨v,rfl,fun K i=>by simp only[h1];rfl⟩
 case call c=>
  cases hcc:c.callee with
  | value g=>rw[hcc]at hc;cases hc
  | invoke a b=>rw[hcc]at hc;cases hc
  | builtin b=>
   rw[hcc]at h hc
   cases b <;> dsimp only at hc <;> try(cases hc;done)
   case len=>
    dsimp only at h ⊢
    generalize c.args.toList=l1 at h ⊢
    generalize c.argTypes.toList=l2 at h ⊢
    split at h
    ·split at h
     ·rename_i hl
      obtain⟨v,h1,rfl⟩:=Xc h
      exact⟨v,rfl,fun K i=>by simp only[if_pos hl,h1];rfl⟩
     ·cases h
    ·cases h
   case min=>
    dsimp only at h ⊢
    generalize c.args.toList=l1 at h ⊢
    split at h
    ·split at h
     ·rename_i hx hy
      split at h
      ·rename_i hk
       cases h
       exact⟨_,rfl,fun K i=>by subst hk;simp[hx,hy]⟩
      ·cases h
     ·cases h
    ·cases h
theorem ext_any {P:Program}{t:Tm}{o:Oper}{H:Hp}{id:Nat}{r:Res}(hc:cls P o=2)(h:step1 P t o H id=some r) :
  ∃ v ob,r=.val v (H.set id (some ob))/\(rwObj ob=true/\(v=ptr id 0∨∃ n,v=sl id 0 n))/\∀ K,step1 P t o K id=some (.val v (K.set id (some ob))):=by
 unfold step1 at h ⊢
 unfold cls at hc
 cases hop:o.op <;> rw[hop]at h hc <;> (try dsimp only at h) <;> (try dsimp only at hc) <;> (try dsimp only) <;> try(first|(cases h;done)|(cases hc;done))
 case alloc ty=>
  simp only[Option.bind_eq_some_iff]at h
  obtain⟨ti,ht,h⟩:=h
  split at h
  ·rename_i hz;cases h
   exact⟨_,_,rfl,⟨rfl,.inl rfl⟩,fun K=>by simp only[ht,Option.bind_some,if_pos hz]⟩
  ·cases h
 case box ty x=>
  simp only[Option.bind_eq_some_iff,Option.some.injEq]at h
  obtain⟨cs,hcs,rfl⟩:=h
  exact⟨_,_,rfl,⟨rfl,.inl rfl⟩,fun K=>by simp only[hcs,Option.bind_some]⟩
 case buildSlice ty n parts=>
  simp only[Option.bind_eq_some_iff]at h
  obtain⟨te,ht,h⟩:=h
  split at h
  ·rename_i hz
   obtain⟨x,H',h1,rfl⟩:=vP_some h
   unfold Xx at h1
   split at h1
   ·rename_i hb
    simp only[Option.bind_eq_some_iff,Option.some.injEq,Prod.mk.injEq]at h1
    obtain⟨cs,hcs,rfl,rfl⟩:=h1
    exact⟨_,_,rfl,⟨rfl,.inr ⟨_,rfl⟩⟩,fun K=>by simp only[ht,Option.bind_some,if_pos hz,Xx,if_pos hb,hcs];rfl⟩
   ·cases h1
  ·cases h
 case convert s d x=>
  obtain⟨v,H',h1,rfl⟩:=vP_some h
  generalize hk:convK P s d=ck at h1 hc ⊢
  unfold conv at h1
  split at h1 <;> first|(cases hc;done)|skip
  ·cases h1;rename_i hx;exact⟨_,_,rfl,⟨rfl,.inr ⟨_,rfl⟩⟩,fun K=>by simp only[conv,hx];rfl⟩
  ·cases h1
 case makeSlice ty l c=>
  simp only[Option.bind_eq_some_iff]at h
  obtain⟨te,ht,h⟩:=h
  split at h
  ·rename_i hz
   obtain⟨x,H',h1,rfl⟩:=vP_some h
   unfold mks at h1
   split at h1
   ·rename_i hl hcc
    split at h1
    ·rename_i hb
     simp only[Option.some.injEq,Prod.mk.injEq]at h1
     obtain⟨rfl,rfl⟩:=h1
     exact⟨_,_,rfl,⟨rfl,.inr ⟨_,rfl⟩⟩,fun K=>by simp only[ht,Option.bind_some,if_pos hz,mks,hl,hcc];rw[if_pos hb];rfl⟩
    ·cases h1
   ·cases h1
  ·cases h
 case call c=>
  cases hcc:c.callee with
  | value g=>rw[hcc]at hc;cases hc
  | invoke a b=>rw[hcc]at hc;cases hc
  | builtin b=>rw[hcc]at hc;cases b <;> cases hc
def gon (L:List Oper)(t:Tm)(o:Oper):Bool:=Yl L t o true false
theorem gsel_gon {α:Type}(t:Tm)(w:Bool)(A B:α):∀ (x:Option Nat),(match x with|some d=>gsel (t d) w A B|none=>B)=if(match x with|some d=>gsel (t d) w true false|none=>false)=true then A else B
 | none=>rfl
 | some d=>by
  show gsel (t d) w A B=if gsel (t d) w true false=true then A else B
  generalize t d=v
  cases v <;> first|rfl|(rename_i b;cases b <;> cases w <;> rfl)
theorem guardSel_gon {α:Type}(L:List Oper)(t:Tm)(o:Oper)(A B:α):Yl L t o A B=if gon L t o=true then A else B:=by
 unfold gon Yl
 cases o.guard with
 | none=>rfl
 | some p=>exact gsel_gon t p.2 A B _
noncomputable def stepD (P:Program)(C:Zb)(L:List Oper)(n0:Nat)(o:Oper)(i:Nat)(q:R5):Option R5 :=
 Yl L q.t o (Wr P C ((befs L []).getD i 0) o i (n0+i) q) (some { q with t:=Xv q.t o.dst (.tuple #[]) })
theorem trace {P:Program}{C:Zb}{L:List Oper}{n0:Nat}:∀ (l:List Oper)(i:Nat)(q q':R5),Xn P C L (befs L []) n0 l i q=some q' ->
  ∃ f:Nat->R5,f i=q/\f (i+l.length)=q'/\∀ k o,l[k]?=some o->stepD P C L n0 o (i+k) (f (i+k))=some (f (i+k+1))
 | [],i,q,q',h=>by
  cases h
  exact⟨fun _=>q,rfl,rfl,fun k o hk=>by simp at hk⟩
 | o :: l,i,q,q',h=>by
  unfold Xn at h
  simp only[Option.bind_eq_some_iff]at h
  obtain⟨q1,h1,h2⟩:=h
  obtain⟨f,f1,f2,f3⟩:=trace l (i+1) q1 q' h2
  refine⟨fun j=>if j=i then q else f j,by simp,?_,?_⟩
  ·show(if i+(o :: l).length=i then q else f (i+(o :: l).length))=q'
   rw[List.length_cons,if_neg (by omega),show i+(l.length+1)=i+1+l.length by omega];exact f2
  ·intro k x hk
   cases k with
   | zero=>
    simp only[List.getElem?_cons_zero,Option.some.injEq]at hk
    subst hk
    simp only[Nat.add_zero,if_true]
    rw[if_neg (by omega),f1]
    exact h1
   | succ k=>
    simp only[List.getElem?_cons_succ]at hk
    have:=f3 k x hk
    simp only
    rw[if_neg (by omega),if_neg (by omega),show i+(k+1)=i+1+k by omega]
    exact this
section
variable (P:Program) (C:Zb) (L:List Oper) (n0:Nat)
inductive Ev (k:Nat) (o:Oper) (q q':R5):Prop
 | off:gon L q.t o=false->q'={ q with t:=Xv q.t o.dst (.tuple #[]) }->Ev k o q q'
 | inert (v:Value):gon L q.t o=true->cls P o=0->(∀ K i,step1 P q.t o K i=some (.val v K))->q'={ q with t:=Xv q.t o.dst v }->Ev k o q q'
 | load (ty:TypeId) (a:Operand) (ti:TI) (v:Value):gon L q.t o=true->cls P o=1->o.op=.load ty a->tab P ty=some ti->ld ti.agg ti.size (ev q.t a) q.H=some v ->
   (∀ x∈q.hs,((befs L []).getD k 0).testBit x.1=true∨ld ti.agg ti.size (ev q.t a) x.2=some v)->q'=⟨Xv q.t o.dst v,q.H,q.n,⟨k,ti.agg,ti.size,ev q.t a,v⟩ :: q.rs,q.hs⟩->Ev k o q q'
 | ext (v:Value) (ob:Obj):gon L q.t o=true->cls P o=2->(rwObj ob=true/\(v=ptr (n0+k) 0∨∃ n,v=sl (n0+k) 0 n))->(∀ K,step1 P q.t o K (n0+k)=some (.val v (K.set (n0+k) (some ob))))->q'={ q with t:=Xv q.t o.dst v,H:=q.H.set (n0+k) (some ob) }->Ev k o q q'
 | act (t':Tm) (H':Hp) (n':Nat):gon L q.t o=true->cls P o=3->Xs P C o (n0+k) q.t q.H q.n=some (t',H',n') ->
   (∀ r∈q.rs,((befs L []).getD k 0).testBit r.i=true∨ld r.agg r.sz r.a H'=some r.v)->q'=⟨t',H',n',q.rs,(k,q.H) :: q.hs⟩->Ev k o q q'
end
theorem ev_of {P:Program}{C:Zb}{L:List Oper}{n0 k:Nat}{o:Oper}{q q':R5}(hc:clsOk P o=true)(h:stepD P C L n0 o k q=some q'):Ev P C L n0 k o q q':=by
 unfold stepD at h
 rw[guardSel_gon]at h
 split at h
 ·rename_i hg
  unfold Wr at h
  split at h
  ·rename_i ty a hl
   have hop:o.op=.load ty a:=by
    unfold loadOf at hl
    split at hl
    ·rename_i heq;cases hl;exact heq
    ·cases hl
   simp only[Option.bind_eq_some_iff]at h
   obtain⟨ti,ht,v,hv,h⟩:=h
   obtain⟨h2,h1⟩:=askB_some h
   exact .load ty a ti v hg (by unfold cls;rw[hop]) hop ht hv h2 (Option.some.inj h1).symm
  ·rename_i hl
   simp only[Option.bind_eq_some_iff]at h
   obtain⟨⟨t',H',n'⟩,he,h⟩:=h
   split at h
   ·rename_i h3
    obtain⟨h2,h1⟩:=asks_some h
    exact .act t' H' n' hg (by simpa using h3) he h2 (Option.some.inj h1).symm
   ·rename_i h3
    have hc3:cls P o≠3:=by simpa using h3
    cases h
    have hcl:cls P o=0∨cls P o=1∨cls P o=2:=by
     unfold clsOk at hc
     split at hc
     ·rename_i e;exact .inl e
     ·rename_i e;exact .inr (.inl e)
     ·rename_i e;exact .inr (.inr e)
     ·rename_i e;exact absurd e hc3
     ·cases hc
    unfold Xs at he
    simp only[Option.bind_eq_some_iff]at he
    obtain⟨r,hr,he⟩:=he
    rcases hcl with h0|h0|h0
    ·obtain⟨v,rfl,hall⟩:=inert_any h0 hr
     cases he
     exact .inert v hg h0 hall rfl
    ·exfalso
     unfold loadOf at hl
     split at hl
     ·cases hl
     ·rename_i hno
      unfold cls at h0
      split at h0 <;> try(cases h0;done)
      ·rename_i heq;exact hno _ _ heq
      ·split at h0 <;> cases h0
      ·split at h0 <;> cases h0
    ·obtain⟨v,ob,rfl,h1,hall⟩:=ext_any h0 hr
     cases he
     exact .ext v ob hg h0 h1 hall rfl
 ·rename_i hg
  cases h
  exact .off (by simpa using hg) rfl
end Go.Proofs.YtcffcnipmgkjfaaGreat.Ax
namespace Go.Proofs.YtcffcnipmgkjfaaGreat.Ax
open Go
theorem exec1_t {P:Program}{C:Zb}{o:Oper}{id:Nat}{t t':Tm}{H H':Hp}{n n':Nat}(h:Xs P C o id t H n=some (t',H',n')):∃ v,t'=Xv t o.dst v:=by
 unfold Xs at h
 simp only[Option.bind_eq_some_iff]at h
 obtain⟨r,_,h⟩:=h
 cases r with
 | val v H1=>cases h;exact⟨_,rfl⟩
 | skip H1=>cases h;exact⟨_,rfl⟩
 | call g args=>
  simp only[Option.bind_eq_some_iff,Option.some.injEq,Prod.mk.injEq]at h
  obtain⟨q,_,rfl,_⟩:=h
  exact⟨_,rfl⟩
section
variable (P:Program) (C:Zb) (ops:Array Oper) (n0:Nat) (f:Nat->R5)
def Lst (listed:Array Bool)(k:Nat):Prop:=listed[k]?=some true
def Actor (k:Nat):Prop:=∃ o,ops[k]?=some o/\cls P o=3/\gon ops.toList (f k).t o=true
def Xo (k:Nat):Option Obj :=
 match ops[k]? with
 | some o=>if cls P o=2/\gon ops.toList (f k).t o=true then(f (k+1)).H (n0+k)else none
 | none=>none
open Classical in
noncomputable def XS (listed:Array Bool)(p:Nat):Nat->Option Obj:=fun id=>if n0<=id/\p<=id - n0/\Lst listed (id - n0)then Xo P ops n0 f (id - n0)else none
def Evs:Prop:=∀ k o,ops[k]?=some o->Ev P C ops.toList n0 k o (f k) (f (k+1))
end
section
variable {P:Program}{C:Zb}{ops:Array Oper}{n0:Nat}{f:Nat->R5}
theorem XS_some {listed:Array Bool}{p id:Nat}{ob:Obj}(h:XS P ops n0 f listed p id=some ob):∃ k,id=n0+k/\p<=k/\Lst listed k/\Xo P ops n0 f k=some ob:=by
 unfold XS at h
 split at h
 ·rename_i hc;exact⟨id - n0,by omega,hc.2.1,hc.2.2,h⟩
 ·cases h
theorem XS_at {listed:Array Bool}{p k:Nat}(h1:p<=k)(h2:Lst listed k):XS P ops n0 f listed p (n0+k)=Xo P ops n0 f k:=by
 unfold XS
 rw[Nat.add_sub_cancel_left,if_pos ⟨by omega,h1,h2⟩]
theorem XS_no {listed:Array Bool}{p k:Nat}(h:¬ (p<=k/\Lst listed k)):XS P ops n0 f listed p (n0+k)=none:=by
 unfold XS
 rw[Nat.add_sub_cancel_left,if_neg fun hc=>h hc.2]
theorem XS_low {listed:Array Bool}{p id:Nat}(h:id < n0):XS P ops n0 f listed p id=none:=by
 unfold XS
 rw[if_neg fun hc=>by omega]
theorem lt_of_get {α:Type}{a:Array α}{k:Nat}{x:α}(h:a[k]?=some x):k < a.size:=(Array.getElem?_eq_some_iff.1 h).1
theorem get_of_lt {α:Type}{a:Array α}{k:Nat}(h:k < a.size):∃ x,a[k]?=some x:=⟨a[k],Array.getElem?_eq_getElem h⟩
theorem step_t (he:Evs P C ops n0 f){k:Nat}{o:Oper}(ho:ops[k]?=some o):∃ v,(f (k+1)).t=Xv (f k).t o.dst v:=by
 cases he k o ho with
 | off _ h=>rw[h];exact⟨_,rfl⟩
 | inert v _ _ _ h=>rw[h];exact⟨_,rfl⟩
 | load _ _ _ v _ _ _ _ _ _ h=>rw[h];exact⟨_,rfl⟩
 | ext v _ _ _ _ _ h=>rw[h];exact⟨_,rfl⟩
 | act t' H' n' _ _ h _ h2=>rw[h2];exact exec1_t h
theorem step_noA (he:Evs P C ops n0 f){k:Nat}(hk:k < ops.size)(hA:¬ Actor P ops f k) :
  (f (k+1)).n=(f k).n/\((Xo P ops n0 f k=none/\(f (k+1)).H=(f k).H)∨∃ ob,Xo P ops n0 f k=some ob/\rwObj ob=true/\(f (k+1)).H=(f k).H.set (n0+k) (some ob)):=by
 obtain⟨o,ho⟩:=get_of_lt hk
 have hX:¬ (cls P o=2/\gon ops.toList (f k).t o=true)->Xo P ops n0 f k=none:=by
  intro h;unfold Xo;rw[ho];simp only;rw[if_neg h]
 cases he k o ho with
 | off h1 h=>refine⟨by rw[h],.inl ⟨hX fun hx=>?_,by rw[h]⟩⟩;rw[h1]at hx;cases hx.2
 | inert v _ h1 _ h=>refine⟨by rw[h],.inl ⟨hX fun hx=>?_,by rw[h]⟩⟩;rw[h1]at hx;cases hx.1
 | load _ _ _ v _ h1 _ _ _ _ h=>refine⟨by rw[h],.inl ⟨hX fun hx=>?_,by rw[h]⟩⟩;rw[h1]at hx;cases hx.1
 | ext v ob h0 h1 h2 _ h=>
  refine⟨by rw[h],.inr ⟨ob,?_,h2.1,by rw[h]⟩⟩
  unfold Xo;rw[ho];simp only;rw[if_pos ⟨h1,h0⟩,h]
  exact Hp.set_same _ _ _
 | act t' H' n' h0 h1 _ _ _=>exact absurd ⟨o,ho,h1,h0⟩ hA
theorem hs_mem (he:Evs P C ops n0 f):∀ i,i<=ops.size->∀ j,j < i->Actor P ops f j->(j,(f j).H)∈(f i).hs
 | 0,_,j,hj,_=>by omega
 | i+1,hi,j,hj,hA=>by
  obtain⟨o,ho⟩:=get_of_lt (show i < ops.size by omega)
  have old:j < i->(j,(f j).H)∈(f i).hs:=fun h=>hs_mem he i (by omega) j h hA
  have new:j=i->cls P o=3/\gon ops.toList (f i).t o=true:=by
   rintro rfl
   obtain⟨o',h1,h2,h3⟩:=hA
   rw[ho]at h1;cases h1
   exact⟨h2,h3⟩
  have two:j=i∨j < i:=by omega
  cases he i o ho with
  | off h1 h=>
   rw[h]
   rcases two with e|e
   ·rw[(new e).2]at h1;cases h1
   ·exact old e
  | inert v _ h1 _ h=>
   rw[h]
   rcases two with e|e
   ·rw[(new e).1]at h1;cases h1
   ·exact old e
  | load _ _ _ v _ h1 _ _ _ _ h=>
   rw[h]
   rcases two with e|e
   ·rw[(new e).1]at h1;cases h1
   ·exact old e
  | ext v ob h0 h1 h2 _ h=>
   rw[h]
   rcases two with e|e
   ·rw[(new e).1]at h1;cases h1
   ·exact old e
  | act t' H' n' h0 h1 _ _ h=>
   rw[h]
   rcases two with e|e
   ·subst e;exact List.mem_cons_self ..
   ·exact List.mem_cons_of_mem _ (old e)
theorem rs_up (he:Evs P C ops n0 f){k:Nat}(hk:k < ops.size){r:Rd}(h:r∈(f k).rs):r∈(f (k+1)).rs:=by
 obtain⟨o,ho⟩:=get_of_lt hk
 cases he k o ho with
 | off h1 h'=>rw[h'];exact h
 | inert v _ h1 _ h'=>rw[h'];exact h
 | load _ _ _ v _ h1 _ _ _ _ h'=>rw[h'];exact List.mem_cons_of_mem _ h
 | ext v ob h0 h1 h2 _ h'=>rw[h'];exact h
 | act t' H' n' h0 h1 _ _ h'=>rw[h'];exact h
theorem rs_mem (he:Evs P C ops n0 f){k:Nat}{r:Rd}(h:r∈(f (k+1)).rs):∀ d,k+1+d<=ops.size->r∈(f (k+1+d)).rs
 | 0,_=>h
 | d+1,hd=>rs_up (k:=k+1+d) he (by omega) (rs_mem he h d (by omega))
theorem first_actor (p:Nat):∀ d,(∀ j,p<=j->j < p+d->¬ Actor P ops f j)∨∃ j,p<=j/\j < p+d/\Actor P ops f j/\∀ i,p<=i->i < j->¬ Actor P ops f i
 | 0=>.inl fun j h1 h2=>by omega
 | d+1=>by
  rcases first_actor p d with h|⟨j,h1,h2,h3⟩
  ·by_cases hA:Actor P ops f (p+d)
   ·exact .inr ⟨p+d,by omega,by omega,hA,h⟩
   ·refine .inl fun j h1 h2=>?_
    rcases Nat.lt_or_ge j (p+d)with h'|h'
    ·exact h j h1 h'
    ·have:j=p+d:=by omega
     subst this;exact hA
  ·exact .inr ⟨j,h1,by omega,h3⟩
structure Mem (P:Program)(ops:Array Oper)(n0:Nat)(f:Nat->R5)(G0:Gh)(H0:Hp)(w0:World)(listed:Array Bool)(w:World)(G:Gh)(p:Nat):Prop where
 post:Post (Span n0 (f p).n) G0 H0 w0 G (over (XS P ops n0 f listed p) (f p).H) w
 cl:∀ k,p<=k->k < ops.size->(f p).H (n0+k)=none
 fresh:Fresh G (f p).H (f p).n
 nn:n0+ops.size<=(f p).n
 virt:∀ k ob,k < p->¬ Lst listed k->Xo P ops n0 f k=some ob->(f p).H (n0+k)=some ob
 res:∀ k,k < ops.size->¬ Lst listed k->G (n0+k)=none
 has:∀ k ob,Lst listed k->Xo P ops n0 f k=some ob->G (n0+k)≠none
variable {G0:Gh}{H0:Hp}{w0:World}
theorem Mem.up (he:Evs P C ops n0 f){listed:Array Bool}{w:World}{G:Gh}{p:Nat}(h:Mem P ops n0 f G0 H0 w0 listed w G p)(hp:p < ops.size)(hA:¬ Actor P ops f p):Mem P ops n0 f G0 H0 w0 listed w G (p+1):=by
 obtain⟨hn,hX⟩:=step_noA he hp hA
 rcases hX with⟨hX,hH⟩|⟨ob,hX,hr,hH⟩
 ·have hxs:XS P ops n0 f listed (p+1)=XS P ops n0 f listed p:=by
   funext id
   rcases Nat.lt_or_ge id n0 with hlo|hlo
   ·rw[XS_low hlo,XS_low hlo]
   ·obtain⟨k,rfl⟩:=Nat.exists_eq_add_of_le hlo
    by_cases hk:Lst listed k
    ·rcases Nat.lt_trichotomy k p with hkp|rfl|hkp
     ·rw[XS_no fun hc=>by omega,XS_no fun hc=>by omega]
     ·rw[XS_no fun hc=>by omega,XS_at (Nat.le_refl _) hk,hX]
     ·rw[XS_at (by omega) hk,XS_at (by omega) hk]
    ·rw[XS_no fun hc=>hk hc.2,XS_no fun hc=>hk hc.2]
  refine⟨by rw[hn,hH,hxs];exact h.post,fun k h1 h2=>by rw[hH];exact h.cl k (by omega) h2,by rw[hn,hH];exact h.fresh,by rw[hn];exact h.nn,?_,h.res,h.has⟩
  intro k ob hk hl hx
  rw[hH]
  rcases Nat.lt_or_ge k p with h'|h'
  ·exact h.virt k ob h' hl hx
  ·have:k=p:=by omega
   subst this;rw[hX]at hx;cases hx
 ·have hspan:Span n0 (f p).n (n0+p):=⟨by omega,by have:=h.nn;omega⟩
  have hcl:∀ k,p+1<=k->k < ops.size->(f (p+1)).H (n0+k)=none:=by
   intro k h1 h2
   rw[hH,Hp.set_ne _ _ (by omega)]
   exact h.cl k (by omega) h2
  have hfresh:Fresh G (f (p+1)).H (f (p+1)).n:=by
   intro i hi
   rw[hn]at hi
   rw[hH,Hp.set_ne _ _ (by have:=hspan.2;omega)]
   exact h.fresh i hi
  have hvirt:∀ k ob,k < p+1->¬ Lst listed k->Xo P ops n0 f k=some ob->(f (p+1)).H (n0+k)=some ob:=by
   intro k ob' hk hl hx
   rw[hH]
   rcases Nat.lt_or_ge k p with h'|h'
   ·rw[Hp.set_ne _ _ (by omega)];exact h.virt k ob' h' hl hx
   ·have:k=p:=by omega
    subst this;rw[hX]at hx;cases hx;exact Hp.set_same _ _ _
  refine⟨?_,hcl,hfresh,by rw[hn];exact h.nn,hvirt,h.res,h.has⟩
  rw[hn,hH]
  by_cases hS:Lst listed p
  ·have:over (XS P ops n0 f listed (p+1)) ((f p).H.set (n0+p) (some ob))=over (XS P ops n0 f listed p) (f p).H:=by
    funext id
    rcases Nat.lt_or_ge id n0 with hlo|hlo
    ·rw[Yp (XS_low hlo),Yp (XS_low hlo),Hp.set_ne _ _ (by omega)]
    ·obtain⟨k,rfl⟩:=Nat.exists_eq_add_of_le hlo
     by_cases hkp:k=p
     ·subst hkp
      rw[Yp (XS_no fun hc=>by omega),Hp.set_same,Wb (o:=ob) (by rw[XS_at (Nat.le_refl _) hS];exact hX)]
     ·have hxs:XS P ops n0 f listed (p+1) (n0+k)=XS P ops n0 f listed p (n0+k):=by
       by_cases hc:p<=k/\Lst listed k
       ·rw[XS_at (by omega) hc.2,XS_at hc.1 hc.2]
       ·rw[XS_no fun hx=>hc ⟨by omega,hx.2⟩,XS_no hc]
      unfold over
      rw[hxs,Hp.set_ne _ _ (by omega)]
   rw[this];exact h.post
  ·have:over (XS P ops n0 f listed (p+1)) ((f p).H.set (n0+p) (some ob))=(over (XS P ops n0 f listed p) (f p).H).set (n0+p) (some ob):=by
    funext id
    rcases Nat.lt_or_ge id n0 with hlo|hlo
    ·rw[Yp (XS_low hlo),Hp.set_ne _ _ (by omega),Hp.set_ne _ _ (by omega),Yp (XS_low hlo)]
    ·obtain⟨k,rfl⟩:=Nat.exists_eq_add_of_le hlo
     by_cases hkp:k=p
     ·subst hkp
      rw[Yp (XS_no fun hc=>by omega),Hp.set_same,Hp.set_same]
     ·have hxs:XS P ops n0 f listed (p+1) (n0+k)=XS P ops n0 f listed p (n0+k):=by
       by_cases hc:p<=k/\Lst listed k
       ·rw[XS_at (by omega) hc.2,XS_at hc.1 hc.2]
       ·rw[XS_no fun hx=>hc ⟨by omega,hx.2⟩,XS_no hc]
      rw[Hp.set_ne _ _ (by omega)]
      unfold over
      rw[hxs,Hp.set_ne _ _ (by omega)]
   rw[this];exact h.post.vset hspan (h.res p hp hS) hr
theorem Mem.upto (he:Evs P C ops n0 f){listed:Array Bool}{w:World}{G:Gh}{p:Nat}(h:Mem P ops n0 f G0 H0 w0 listed w G p):∀ d,p+d<=ops.size->(∀ j,p<=j->j < p+d->¬ Actor P ops f j)->Mem P ops n0 f G0 H0 w0 listed w G (p+d)
 | 0,_,_=>h
 | d+1,hd,hA=>(Mem.upto he h d (by omega) fun j h1 h2=>hA j h1 (by omega)).up he (by omega) (hA _ (by omega) (by omega))
structure Inv (P:Program)(ops:Array Oper)(n0 m:Nat)(f:Nat->R5)(G0:Gh)(H0:Hp)(w0:World)(ds:List Deferred)(listed:Array Bool)(a:Act)(w:World)(G:Gh)(p:Nat):Prop where
 sz:listed.size=ops.size
 down:∀ i,Lst listed i->∀ j,bef ops.toList j i=true->Lst listed j
 tsz:m<=a.tmps.size
 tmp:∀ d,∃ i,i<=ops.size/\(∀ k o,ops[k]?=some o->o.dst=some d->(Lst listed k↔k < i))/\VR G ((f i).t d) (a.tmps.getD d undef)
 defs:a.defers=ds
 ple:p<=ops.size
 thr:∀ k,k < ops.size->Actor P ops f k->(Lst listed k↔k < p)
 pmin:p=0∨Actor P ops f (p - 1)
 mem:Mem P ops n0 f G0 H0 w0 listed w G p
theorem t_const (he:Evs P C ops n0 f){d i:Nat}:∀ e,i+e<=ops.size->(∀ k o,i<=k->k < i+e->ops[k]?=some o->o.dst≠some d)->(f (i+e)).t d=(f i).t d
 | 0,_,_=>rfl
 | e+1,hs,h=>by
  obtain⟨o,ho⟩:=get_of_lt (show i+e < ops.size by omega)
  obtain⟨v,hv⟩:=step_t he ho
  have hd:=h (i+e) o (by omega) (by omega) ho
  rw[show i+(e+1)=i+e+1 by omega,hv,← t_const he e (by omega) fun k o h1 h2=>h k o h1 (by omega)]
  cases hdd:o.dst with
  | none=>rfl
  | some x=>
   show(if d=x then v else _)=_
   rw[if_neg]
   rintro rfl
   exact hd hdd
theorem t_same (he:Evs P C ops n0 f){d i j:Nat}(hi:i<=ops.size)(hj:j<=ops.size)(h:∀ k o,ops[k]?=some o->o.dst=some d->(k < i↔k < j)):(f i).t d=(f j).t d:=by
 rcases Nat.le_total i j with hij|hij
 ·obtain⟨e,rfl⟩:=Nat.exists_eq_add_of_le hij
  refine(t_const he e hj fun k o h1 h2 ho hd=>?_).symm
  have:=(h k o ho hd).2 h2
  omega
 ·obtain⟨e,rfl⟩:=Nat.exists_eq_add_of_le hij
  refine t_const he e hi fun k o h1 h2 ho hd=>?_
  have:=(h k o ho hd).1 h2
  omega
theorem Xp {listed:Array Bool}{i k:Nat}(hi:i < listed.size):Lst (listed.setIfInBounds i true) k↔k=i∨Lst listed k:=by
 unfold Lst
 rw[Array.getElem?_setIfInBounds]
 by_cases h:i=k
 ·subst h;simp[hi]
 ·rw[if_neg h]
  constructor
  ·exact .inr
  ·rintro(e|e)
   ·exact absurd e.symm h
   ·exact e
end
end Go.Proofs.YtcffcnipmgkjfaaGreat.Ax
namespace Go.Proofs.YtcffcnipmgkjfaaGreat.Ax
open Go
theorem clash_dst {P:Program}{L:List Oper}{x y:Oper}{d:Nat}(hx:x.dst=some d)(hy:y.dst=some d):clash P L x y=true:=by
 unfold clash;rw[hx,hy];simp
theorem clash_w {P:Program}{L:List Oper}{x y:Oper}{d:Nat}(hx:x.dst=some d)(hy:d∈readsOf L y):clash P L x y=true:=by
 unfold clash;rw[hx];simp[writesIn,hy]
theorem clash_r {P:Program}{L:List Oper}{x y:Oper}{d:Nat}(hx:y.dst=some d)(hy:d∈readsOf L x):clash P L x y=true:=by
 unfold clash;rw[hx];simp[writesIn,hy]
theorem clash_3 {P:Program}{L:List Oper}{x y:Oper}(hx:cls P x=3)(hy:cls P y=3):clash P L x y=true:=by
 unfold clash;rw[hx,hy];simp
section
variable {P:Program}{C:Zb}{ops:Array Oper}{n0 m:Nat}{f:Nat->R5}{G0:Gh}{H0:Hp}{w0:World}{ds:List Deferred}
theorem XS_same {listed:Array Bool}{i p:Nat}(hi:i < listed.size)(hX:Xo P ops n0 f i=none):XS P ops n0 f (listed.setIfInBounds i true) p=XS P ops n0 f listed p:=by
 funext id
 rcases Nat.lt_or_ge id n0 with hlo|hlo
 ·rw[XS_low hlo,XS_low hlo]
 ·obtain⟨k,rfl⟩:=Nat.exists_eq_add_of_le hlo
  by_cases hp:p<=k
  ·by_cases hk:Lst listed k
   ·rw[XS_at hp hk,XS_at hp ((Xp hi).2 (.inr hk))]
   ·rw[XS_no (listed:=listed) fun hc=>hk hc.2]
    by_cases he:k=i
    ·subst he;rw[XS_at hp ((Xp hi).2 (.inl rfl)),hX]
    ·rw[XS_no fun hc=>?_]
     rcases(Xp hi).1 hc.2 with h|h
     ·exact he h
     ·exact hk h
  ·rw[XS_no fun hc=>hp hc.1,XS_no fun hc=>hp hc.1]
theorem XS_set {listed:Array Bool}{i p:Nat}(hi:i < listed.size){ob:Obj}(hX:Xo P ops n0 f i=some ob){H:Hp}(hH:i < p->H (n0+i)=some ob) :
  over (XS P ops n0 f (listed.setIfInBounds i true) p) H=(over (XS P ops n0 f listed p) H).set (n0+i) (some ob):=by
 funext id
 rcases Nat.lt_or_ge id n0 with hlo|hlo
 ·rw[Hp.set_ne _ _ (by omega),Yp (XS_low hlo),Yp (XS_low hlo)]
 ·obtain⟨k,rfl⟩:=Nat.exists_eq_add_of_le hlo
  by_cases he:k=i
  ·subst he
   rw[Hp.set_same]
   by_cases hp:p<=k
   ·exact Wb ((XS_at hp ((Xp hi).2 (.inl rfl))).trans hX)
   ·rw[Yp (XS_no fun hc=>hp hc.1)];exact hH (by omega)
  ·rw[Hp.set_ne _ _ (by omega)]
   have:XS P ops n0 f (listed.setIfInBounds i true) p (n0+k)=XS P ops n0 f listed p (n0+k):=by
    by_cases hc:p<=k/\Lst listed k
    ·rw[XS_at hc.1 hc.2,XS_at hc.1 ((Xp hi).2 (.inr hc.2))]
    ·rw[XS_no hc,XS_no fun hx=>?_]
     rcases(Xp hi).1 hx.2 with h|h
     ·exact he h
     ·exact hc ⟨hx.1,h⟩
   unfold over
   rw[this]
theorem Mem.add {listed:Array Bool}{w w':World}{G G':Gh}{p i:Nat}(h:Mem P ops n0 f G0 H0 w0 listed w G p)(hsz:listed.size=ops.size)(hi:i < ops.size)
  (hp:Post (·=n0+i) G (over (XS P ops n0 f listed p) (f p).H) w G' (over (XS P ops n0 f (listed.setIfInBounds i true) p) (f p).H) w') (hG:∀ ob,Xo P ops n0 f i=some ob->G' (n0+i)≠none):Mem P ops n0 f G0 H0 w0 (listed.setIfInBounds i true) w' G' p:=by
 have hl:i < listed.size:=by omega
 refine⟨(h.post.trans hp).weaken ?_,h.cl,?_,h.nn,?_,?_,?_⟩
 ·rintro k (hk|rfl)
  ·exact hk
  ·have:=h.nn;exact⟨by omega,by omega⟩
 ·intro k hk
  refine⟨hp.dom k (h.fresh k hk).1 ?_,(h.fresh k hk).2⟩
  rintro rfl
  have:=h.nn;omega
 ·intro k ob hk hn hx
  exact h.virt k ob hk (fun hc=>hn ((Xp hl).2 (.inr hc))) hx
 ·intro k hk hn
  refine hp.dom _ (h.res k hk fun hc=>hn ((Xp hl).2 (.inr hc))) fun e=>?_
  exact hn ((Xp hl).2 (.inl (by omega)))
 ·intro k ob hk hx
  rcases(Xp hl).1 hk with rfl|hk
  ·exact hG ob hx
  ·obtain⟨g,hg⟩:=Option.ne_none_iff_exists'.1 (h.has k ob hk hx)
   rw[hp.le _ g hg];simp
theorem Inv.next (he:Evs P C ops n0 f)(hpo:pairsOk P ops.toList (befs ops.toList []) ops.toList 0=true){listed:Array Bool}{a:Act}{w w':World}{G G':Gh}{p p' i:Nat}(hI:Inv P ops n0 m f G0 H0 w0 ds listed a w G p){o:Oper}(ho:ops[i]?=some o)(hnl:¬ Lst listed i)
  (hr:∀ j,bef ops.toList j i=true->Lst listed j) (hdst:∀ x,o.dst=some x->x < m) {v v':Value} (ht:(f (i+1)).t=Xv (f i).t o.dst v) (hv:VR G' v v') (hle:GLe G G') (hple:p'<=ops.size)
  (hthr:∀ k,k < ops.size->Actor P ops f k->((k=i∨Lst listed k)↔k < p')) (hpmin:p'=0∨Actor P ops f (p' - 1)) (hmem:Mem P ops n0 f G0 H0 w0 (listed.setIfInBounds i true) w' G' p') :
  Inv P ops n0 m f G0 H0 w0 ds (listed.setIfInBounds i true) (a.put o.dst v') w' G' p':=by
 have hi:i < ops.size:=lt_of_get ho
 have hl:i < listed.size:=by rw[hI.sz];exact hi
 have ho':ops.toList[i]?=some o:=by rw[Array.getElem?_toList];exact ho
 refine⟨by rw[Array.size_setIfInBounds];exact hI.sz,?_,by rw[Act.put_size];exact hI.tsz,?_,by rw[Act.put_defers];exact hI.defs,hple,?_,hpmin,hmem⟩
 ·intro k hk j hj
  rcases(Xp hl).1 hk with rfl|hk
  ·exact(Xp hl).2 (.inr (hr j hj))
  ·exact(Xp hl).2 (.inr (hI.down k hk j hj))
 ·intro d
  by_cases hd:o.dst=some d
  ·refine⟨i+1,hi,?_,?_⟩
   ·intro k x hx hxd
    have hx':ops.toList[k]?=some x:=by rw[Array.getElem?_toList];exact hx
    rw[Xp hl]
    rcases Nat.lt_trichotomy k i with hki|rfl|hki
    ·exact⟨fun _=>by omega,fun _=>.inr (hr k (clash_bef hpo ho' hx' hki (clash_dst hxd hd)))⟩
    ·exact⟨fun _=>by omega,fun _=>.inl rfl⟩
    ·refine⟨?_,fun h=>by omega⟩
     rintro(h|h)
     ·omega
     ·exact absurd (hI.down k h i (clash_bef hpo hx' ho' hki (clash_dst hd hxd))) hnl
   ·rw[ht,hd,Act.put_get a d v' d (Nat.lt_of_lt_of_le (hdst d hd) hI.tsz),if_pos rfl]
    show VR G' (if d=d then v else _) v'
    rw[if_pos rfl]
    exact hv
  ·obtain⟨i',h1,h2,h3⟩:=hI.tmp d
   refine⟨i',h1,?_,?_⟩
   ·intro k x hx hxd
    rw[Xp hl,← h2 k x hx hxd]
    refine⟨?_,.inr⟩
    rintro(rfl|h)
    ·rw[ho]at hx;cases hx;exact absurd hxd hd
    ·exact h
   ·have:(a.put o.dst v').tmps.getD d undef=a.tmps.getD d undef:=by
     cases hod:o.dst with
     | none=>rfl
     | some x=>
      rw[Act.put_get a x v' d (Nat.lt_of_lt_of_le (hdst x hod) hI.tsz),if_neg]
      rintro rfl;exact hd hod
    rw[this]
    exact h3.mono hle
 ·intro k hk hA
  rw[Xp hl]
  exact hthr k hk hA
theorem Inv.reads (he:Evs P C ops n0 f)(hpo:pairsOk P ops.toList (befs ops.toList []) ops.toList 0=true){listed:Array Bool}{a:Act}{w:World}{G:Gh}{p i:Nat}(hI:Inv P ops n0 m f G0 H0 w0 ds listed a w G p){o:Oper}(ho:ops[i]?=some o)(hnl:¬ Lst listed i)
  (hr:∀ j,bef ops.toList j i=true->Lst listed j) {d:Nat} (hd:d∈readsOf ops.toList o):VR G ((f i).t d) (a.tmps.getD d undef):=by
 have hi:i < ops.size:=lt_of_get ho
 have ho':ops.toList[i]?=some o:=by rw[Array.getElem?_toList];exact ho
 obtain⟨i',h1,h2,h3⟩:=hI.tmp d
 rw[t_same he (i:=i) (j:=i') (by omega) h1]
 ·exact h3
 ·intro k x hx hxd
  have hx':ops.toList[k]?=some x:=by rw[Array.getElem?_toList];exact hx
  rw[← h2 k x hx hxd]
  constructor
  ·exact fun hk=>hr k (clash_bef hpo ho' hx' hk (clash_w hxd hd))
  ·intro hk
   rcases Nat.lt_trichotomy k i with hki|rfl|hki
   ·exact hki
   ·exact absurd hk hnl
   ·exact absurd (hI.down k hk i (clash_bef hpo hx' ho' hki (clash_r hxd hd))) hnl
theorem Inv.load (he:Evs P C ops n0 f){listed:Array Bool}{a:Act}{w:World}{G:Gh}{p i:Nat}(hI:Inv P ops n0 m f G0 H0 w0 ds listed a w G p)(hi:i < ops.size)(hnA:¬ Actor P ops f i)(hnl:¬ Lst listed i)(hr:∀ j,bef ops.toList j i=true->Lst listed j)
  {agg:Bool}{sz:Nat}{ad v:Value} (hld:ld agg sz ad (f i).H=some v) (hhs:∀ x∈(f i).hs,((befs ops.toList []).getD i 0).testBit x.1=true∨ld agg sz ad x.2=some v) (hrs:(f (i+1)).rs=⟨i,agg,sz,ad,v⟩ :: (f i).rs) :
  ∃ q,Mem P ops n0 f G0 H0 w0 listed w G q/\ld agg sz ad (f q).H=some v:=by
 rcases Nat.lt_or_ge i p with hip|hip
 ·-- actors behind it were done
  rcases hI.pmin with h0|hA
  ·omega
  ·have hA':=hA
   obtain⟨o,ho,h3,hg⟩:=hA
   have hps:=hI.ple
   refine⟨p,hI.mem,?_⟩
   have hne:p - 1≠i:=by rintro h;rw[h]at hA';exact hnA hA'
   have hmem:(⟨i,agg,sz,ad,v⟩:Rd)∈(f (p - 1)).rs:=by
    have:=rs_mem he (k:=i) (r:=⟨i,agg,sz,ad,v⟩) (by rw[hrs];exact List.mem_cons_self ..) (p - 1 - (i+1)) (by omega)
    rwa [show i+1+(p - 1 - (i+1))=p - 1 by omega]at this
   have hlst:Lst listed (p - 1):=(hI.thr (p - 1) (by omega) hA').2 (by omega)
   have hev:=he (p - 1) o ho
   cases hev with
   | act t' H' n' _ _ _ hask hq=>
    have hq':(f p).H=H':=by
     rw[show p - 1+1=p by omega]at hq
     rw[hq]
    rw[hq']
    rcases hask _ hmem with hb|hb
    ·exact absurd (hI.down (p - 1) hlst i hb) hnl
    ·exact hb
   | off h1 h=>rw[h1]at hg;cases hg
   | inert v _ h1 _ h=>rw[h1]at h3;cases h3
   | load _ _ _ v _ h1 _ _ _ _ h=>rw[h1]at h3;cases h3
   | ext v ob h0 h1 h2 _ h=>rw[h1]at h3;cases h3
 ·rcases first_actor (P:=P) (ops:=ops) (f:=f) p (i - p)with h|⟨j,h1,h2,h3,h4⟩
  ·have:=hI.mem.upto he (i - p) (by omega) h
   rw[show p+(i - p)=i by omega]at this
   exact⟨i,this,hld⟩
  ·have:=hI.mem.upto he (j - p) (by omega) (by rw[show p+(j - p)=j by omega];exact h4)
   rw[show p+(j - p)=j by omega]at this
   refine⟨j,this,?_⟩
   rcases hhs _ (hs_mem he i (by omega) j (by omega) h3)with hb|hb
   ·have:=(hI.thr j (by omega) h3).1 (hr j hb)
    omega
   ·exact hb
end
end Go.Proofs.YtcffcnipmgkjfaaGreat.Ax
namespace Go.Proofs.YtcffcnipmgkjfaaGreat.Ax
open Go
section
variable {P:Program}{C:Zb}{ops:Array Oper}{n0 m:Nat}{f:Nat->R5}{G0:Gh}{H0:Hp}{w0:World}{ds:List Deferred}
open Classical in
noncomputable def ownOp (L:List Oper)(o:Oper)(x:Operand):Bool:=opnd x && (match x with|.tmp t=>decide (t∈readsOf L o)|_=>true)
theorem ownOp_all {L:List Oper}{o:Oper}(h:opsOk o=true):o.op.operands.toList.all (ownOp L o)=true:=by
 rw[List.all_eq_true]
 intro x hx
 have h1:opnd x=true:=List.all_eq_true.1 h x hx
 unfold ownOp
 rw[h1,Bool.true_and]
 split
 ·rename_i t
  rw[decide_eq_true_eq]
  unfold readsOf tmpsOf
  exact List.mem_append_left _ (List.mem_filterMap.2 ⟨_,hx,rfl⟩)
 ·rfl
theorem step_inv (hC:CALL P C)(he:Evs P C ops n0 f)(hok:ops.toList.all opsOk=true)(hpo:pairsOk P ops.toList (befs ops.toList []) ops.toList 0=true) (hdst:dstsOps m ops.toList=true){listed:Array Bool}{a:Act}{w:World}{G:Gh}{p i:Nat}
  (hI:Inv P ops n0 m f G0 H0 w0 ds listed a w G p) (hi:i < ops.size) (hnl:¬ Lst listed i) (hr:∀ j,bef ops.toList j i=true->Lst listed j) {K:Act->World->Prop}{Q:Exit->Act->World->Prop}
  (hK:∀ a' w' G' p',Inv P ops n0 m f G0 H0 w0 ds (listed.setIfInBounds i true) a' w' G' p'->K a' w'):wpOp P ops Q i K a w:=by
 obtain⟨o,ho⟩:=get_of_lt hi
 have hl:i < listed.size:=by rw[hI.sz];exact hi
 have ho':ops.toList[i]?=some o:=by rw[Array.getElem?_toList];exact ho
 have hmem:o∈ops.toList:=List.mem_of_getElem? ho'
 have hdo:∀ x,o.dst=some x->x < m:=by
  intro x hx
  have:=List.all_eq_true.1 hdst o hmem
  rw[hx]at this
  simpa using this
 have hreads:∀ {d},d∈readsOf ops.toList o->VR G ((f i).t d) (a.tmps.getD d undef):=fun hd=>hI.reads he hpo ho hnl hr hd
 have hall:=ownOp_all (L:=ops.toList) (List.all_eq_true.1 hok o hmem)
 have hv:∀ x,ownOp ops.toList o x=true->VR G (ev (f i).t x) (a.eval x):=by
  intro x hx
  unfold ownOp at hx
  rw[Bool.and_eq_true]at hx
  refine opnd_vr hx.1 ?_
  rintro t rfl
  exact hreads (by simpa using hx.2)
 have hgon:gon ops.toList (f i).t o=if Region.wanted o (yielded ops a.tmps)=true then true else false:=by
  refine guard_eq (G:=G) ?_ true false
  intro j b d hg hd
  refine hreads ?_
  unfold readsOf
  rw[hg]
  simp only[Array.getElem?_toList,hd]
  simp
 unfold wpOp
 rw[ho]
 simp only
 have hreg:∀ {w' G' v v'},(f (i+1)).t=Xv (f i).t o.dst v->VR G' v v'->GLe G G'->¬ Actor P ops f i->Mem P ops n0 f G0 H0 w0 (listed.setIfInBounds i true) w' G' p->K (a.put o.dst v') w':=by
  intro w' G' v v' ht hvv hle hnA hmm
  refine hK _ _ _ _ (hI.next he hpo ho hnl hr hdo ht hvv hle hI.ple ?_ hI.pmin hmm)
  intro k hk hA
  rw[← hI.thr k hk hA]
  refine⟨?_,.inr⟩
  rintro(rfl|h)
  ·exact absurd hA hnA
  ·exact h
 have noAct:∀ {c},cls P o=c->c≠3->¬ Actor P ops f i:=by
  rintro c hc hne ⟨o',h1,h2,_⟩
  rw[ho]at h1;cases h1
  exact hne (hc.symm.trans h2)
 cases he i o ho with
 | off h1 h=>
  rw[h1]at hgon
  have hw:¬ Region.wanted o (yielded ops a.tmps)=true:=by
   intro hw;rw[if_pos hw]at hgon;cases hgon
  rw[if_neg hw]
  have hX:Xo P ops n0 f i=none:=by
   unfold Xo;rw[ho];simp only;rw[if_neg fun hc=>by rw[h1]at hc;cases hc.2]
  refine hreg (w':=w) (G':=G) (v:=.tuple #[]) (by rw[h]) VR.undef (GLe.refl G) ?_ ?_
  ·rintro⟨o',e1,_,e3⟩
   rw[ho]at e1;cases e1
   rw[h1]at e3;cases e3
  ·refine hI.mem.add hI.sz hi ?_ (fun ob hx=>by rw[hX]at hx;cases hx)
   rw[XS_same hl hX]
   exact Post.refl hI.mem.post.hr
 | inert v h1 h2 h3 h=>
  rw[h1]at hgon
  have hw:Region.wanted o (yielded ops a.tmps)=true:=by
   by_cases hw:Region.wanted o (yielded ops a.tmps)=true
   ·exact hw
   ·rw[if_neg hw]at hgon;cases hgon
  rw[if_pos hw]
  left
  have hX:Xo P ops n0 f i=none:=by
   unfold Xo;rw[ho];simp only;rw[if_neg fun hc=>by rw[h2]at hc;cases hc.1]
  have hid:G (n0+i)=none:=hI.mem.res i hi hnl
  have hd:=step_sim hI.mem.post.hr hid hall hv (h3 (over (XS P ops n0 f listed p) (f p).H) (n0+i))
  unfold Oper.wp
  cases hd with
  | val e1 e2 e3=>
   rw[e1,Oper.upon_value]
   refine hreg (by rw[h]) e2 e3.le (noAct h2 (by decide)) (hI.mem.add hI.sz hi ?_ (fun ob hx=>by rw[hX]at hx;cases hx))
   rw[XS_same hl hX]
   exact e3
 | load ty ad ti v h1 h2 hop ht hld hhs h=>
  rw[h1]at hgon
  have hw:Region.wanted o (yielded ops a.tmps)=true:=by
   by_cases hw:Region.wanted o (yielded ops a.tmps)=true
   ·exact hw
   ·rw[if_neg hw]at hgon;cases hgon
  rw[if_pos hw]
  left
  have hX:Xo P ops n0 f i=none:=by
   unfold Xo;rw[ho];simp only;rw[if_neg fun hc=>by rw[h2]at hc;cases hc.1]
  have hnA:=noAct h2 (by decide)
  obtain⟨q,hq,hldq⟩:=hI.load he hi hnA hnl hr hld hhs (by rw[h])
  have hldk:ld ti.agg ti.size (ev (f i).t ad) (over (XS P ops n0 f listed q) (f q).H)=some v:=by
   refine ld_mono hldq fun id ob hid=>?_
   cases hx:XS P ops n0 f listed q id with
   | none=>rw[Yp hx];exact hid
   | some ob'=>
    obtain⟨k,rfl,h1,h2,h3⟩:=XS_some hx
    by_cases hk:k < ops.size
    ·rw[hq.cl k h1 hk]at hid;cases hid
    ·unfold Xo at h3
     rw[Array.getElem?_eq_none (by omega)]at h3
     cases h3
  have hva:VR G (ev (f i).t ad) (a.eval ad):=by
   refine hv ad ?_
   have:=List.all_eq_true.1 hall ad (by rw[hop];simp[Op.operands])
   exact this
  obtain⟨v',hrun,hpr⟩:=ld_sim hq.post.hr ht hva hldk
  unfold Oper.wp
  have hrun':(execOp a.eval o).run P w=.ok (.value v') w:=by
   unfold execOp
   rw[hop]
   simp[hrun]
  rw[hrun',Oper.upon_value]
  refine hreg (G':=G) (by rw[h]) (.p hpr) (GLe.refl G) hnA (hI.mem.add hI.sz hi ?_ (fun ob hx=>by rw[hX]at hx;cases hx))
  rw[XS_same hl hX]
  exact Post.refl hI.mem.post.hr
 | ext v ob h1 h2 h3 h4 h=>
  rw[h1]at hgon
  have hw:Region.wanted o (yielded ops a.tmps)=true:=by
   by_cases hw:Region.wanted o (yielded ops a.tmps)=true
   ·exact hw
   ·rw[if_neg hw]at hgon;cases hgon
  rw[if_pos hw]
  left
  have hX:Xo P ops n0 f i=some ob:=by
   unfold Xo;rw[ho];simp only;rw[if_pos ⟨h2,h1⟩,h]
   exact Hp.set_same _ _ _
  have hid:G (n0+i)=none:=hI.mem.res i hi hnl
  have hd:=step_sim hI.mem.post.hr hid hall hv (h4 (over (XS P ops n0 f listed p) (f p).H))
  unfold Oper.wp
  cases hd with
  | val e1 e2 e3=>
   rw[e1,Oper.upon_value]
   refine hreg (by rw[h]) e2 e3.le (noAct h2 (by decide)) (hI.mem.add hI.sz hi ?_ ?_)
   ·rw[XS_set hl hX fun hip=>hI.mem.virt i ob hip hnl hX]
    exact e3
   ·intro _ _
    rcases h3.2 with hv0|⟨n,hv0⟩
    ·rw[hv0]at e2
     obtain⟨g,hg,_⟩:=e2.ptr
     rw[hg];simp
    ·rw[hv0]at e2
     obtain⟨g,_,hg,_⟩:=e2.slS
     rw[hg];simp
 | act t' H' n' h1 h2 hex hask h=>
  rw[h1]at hgon
  have hw:Region.wanted o (yielded ops a.tmps)=true:=by
   by_cases hw:Region.wanted o (yielded ops a.tmps)=true
   ·exact hw
   ·rw[if_neg hw]at hgon;cases hgon
  rw[if_pos hw]
  left
  have hA:Actor P ops f i:=⟨o,ho,h2,h1⟩
  have hX:Xo P ops n0 f i=none:=by
   unfold Xo;rw[ho];simp only;rw[if_neg fun hc=>by rw[h2]at hc;cases hc.1]
  have hpi:p<=i:=by
   rcases Nat.lt_or_ge i p with h|h
   ·exact absurd ((hI.thr i hi hA).2 h) hnl
   ·exact h
  have hnone:∀ j,p<=j->j < i->¬ Actor P ops f j:=by
   intro j hj hji hAj
   obtain⟨x,hx,hx3,_⟩:=id hAj
   have hx':ops.toList[j]?=some x:=by rw[Array.getElem?_toList];exact hx
   have:=hr j (clash_bef hpo ho' hx' hji (clash_3 hx3 h2))
   have:=(hI.thr j (by omega) hAj).1 this
   omega
  have hM:=hI.mem.upto he (i - p) (by omega) (by rw[show p+(i - p)=i by omega];exact hnone)
  rw[show p+(i - p)=i by omega]at hM
  have hid:G (n0+i)=none:=hM.res i hi hnl
  have hHi:(f i).H (n0+i)=none:=hM.cl i (Nat.le_refl _) hi
  have hover:∀ id ob,(f i).H id=some ob->over (XS P ops n0 f listed i) (f i).H id=some ob:=by
   intro id ob hob
   cases hx:XS P ops n0 f listed i id with
   | none=>rw[Yp hx];exact hob
   | some ob'=>
    obtain⟨k,rfl,h1,h2,h3⟩:=XS_some hx
    by_cases hk:k < ops.size
    ·rw[hM.cl k h1 hk]at hob;cases hob
    ·unfold Xo at h3
     rw[Array.getElem?_eq_none (by omega)]at h3
     cases h3
  have hHR:HR G (f i).H w:=hM.post.hr.sub fun id ob hob _=>hover id ob hob
  have hnn:=hM.nn
  refine exec_sim hC hHR hM.fresh hid hall hv hex ?_
  intro v v' G' w' ht hvv hn1 hp
  have hq:f (i+1)=⟨t',H',n',(f i).rs,(i,(f i).H) :: (f i).hs⟩:=h
  -- objects by the way
  have hXs:∀ id ob,XS P ops n0 f listed i id=some ob->rwObj ob=true/\G id≠none/\(f i).H id=none/\¬ (id=n0+i∨Span (f i).n n' id):=by
   intro id ob hx
   obtain⟨k,rfl,e1,e2,e3⟩:=XS_some hx
   have hk:k < ops.size:=by
    have:k < listed.size:=lt_of_get e2
    rw[hI.sz]at this;exact this
   have hki:k≠i:=by rintro rfl;exact hnl e2
   have hnAk:¬ Actor P ops f k:=by
    rintro⟨x,hx1,hx2,_⟩
    unfold Xo at e3
    rw[hx1]at e3
    simp only at e3
    split at e3
    ·rename_i hc;rw[hx2]at hc;cases hc.1
    ·cases e3
   have hob:rwObj ob=true:=by
    rcases(step_noA he hk hnAk).2 with⟨hx0,_⟩|⟨ob',hx0,hr0,_⟩
    ·rw[hx0]at e3;cases e3
    ·rw[hx0]at e3;cases e3;exact hr0
   refine⟨hob,hM.has k ob e2 e3,hM.cl k e1 hk,?_⟩
   ·rintro(e|e)
    ·omega
    ·have:=e.1;omega
  have hN:∀ id,(id=n0+i∨Span (f i).n n' id)->(f i).H id=none:=by
   rintro id (rfl|hs)
   ·exact hHi
   ·exact(hM.fresh id hs.1).2
  have hfr:=hp.frame hXs hM.post.hr hN
  refine hK _ _ _ (i+1) (hI.next he hpo ho hnl hr hdo (p':=i+1) (by rw[hq];exact ht) hvv hp.le (by omega) ?_ (.inr hA) ?_)
  ·intro k hk hAk
   obtain⟨x,hx,hx3,_⟩:=id hAk
   have hx':ops.toList[k]?=some x:=by rw[Array.getElem?_toList];exact hx
   rcases Nat.lt_trichotomy k i with hki|rfl|hki
   ·exact⟨fun _=>by omega,fun _=>.inr (hr k (clash_bef hpo ho' hx' hki (clash_3 hx3 h2)))⟩
   ·exact⟨fun _=>by omega,fun _=>.inl rfl⟩
   ·refine⟨?_,fun h=>by omega⟩
    rintro(h|h)
    ·omega
    ·exact absurd (hI.down k h i (clash_bef hpo hx' ho' hki (clash_3 h2 hx3))) hnl
  ·have hXe:XS P ops n0 f (listed.setIfInBounds i true) (i+1)=XS P ops n0 f listed i:=by
    rw[XS_same hl hX]
    funext id
    rcases Nat.lt_or_ge id n0 with hlo|hlo
    ·rw[XS_low hlo,XS_low hlo]
    ·obtain⟨k,rfl⟩:=Nat.exists_eq_add_of_le hlo
     by_cases hc:i+1<=k/\Lst listed k
     ·rw[XS_at hc.1 hc.2,XS_at (by omega) hc.2]
     ·rw[XS_no hc,XS_no fun hx=>?_]
      refine hc ⟨?_,hx.2⟩
      have:k≠i:=by rintro rfl;exact hnl hx.2
      have:=hx.1
      omega
   have hnn':(f (i+1)).n=n':=by rw[hq]
   have hHn:(f (i+1)).H=H':=by rw[hq]
   refine⟨?_,?_,?_,by rw[hnn'];omega,?_,?_,?_⟩
   ·rw[hXe,hnn',hHn]
    refine(hM.post.trans hfr).weaken ?_
    rintro k (hk|rfl|hk)
    ·have:=hk.1;have:=hk.2;exact⟨by omega,by omega⟩
    ·exact⟨by omega,by omega⟩
    ·have:=hk.1;have:=hk.2;exact⟨by omega,by omega⟩
   ·intro k hk hks
    rw[hHn]
    refine hp.alive _ (hM.cl k (by omega) hks) ?_
    rintro(e|e)
    ·omega
    ·have:=e.1;omega
   ·rw[hHn,hnn']
    refine hM.fresh.post hn1 hp ?_
    rintro k hk (e|e)
    ·omega
    ·have:=e.2;omega
   ·intro k ob hk hn hx
    have hki:k≠i:=by rintro rfl;exact hn ((Xp hl).2 (.inl rfl))
    have hnk:¬ Lst listed k:=fun hc=>hn ((Xp hl).2 (.inr hc))
    rw[hHn,hp.virt _ (hM.res k (by omega) hnk) ?_]
    ·exact hM.virt k ob (by omega) hnk hx
    ·rintro(e|e)
     ·omega
     ·have:=e.1;omega
   ·intro k hk hn
    have hki:k≠i:=by rintro rfl;exact hn ((Xp hl).2 (.inl rfl))
    have hnk:¬ Lst listed k:=fun hc=>hn ((Xp hl).2 (.inr hc))
    refine hp.dom _ (hM.res k hk hnk) ?_
    rintro(e|e)
    ·omega
    ·have:=e.1;omega
   ·intro k ob hk hx
    rcases(Xp hl).1 hk with rfl|hk
    ·rw[hX]at hx;cases hx
    ·obtain⟨g,hg⟩:=Option.ne_none_iff_exists'.1 (hM.has k ob hk hx)
     rw[hp.le _ g hg];simp
theorem countP_lt {p q:Nat->Bool}{i:Nat}(hp:p i=false)(hq:q i=true):∀ (l:List Nat),(∀ x∈l,p x=true->q x=true)->i∈l->l.countP p < l.countP q
 | [],_,hi=>by cases hi
 | x :: l,h,hi=>by
  have hle:l.countP p<=l.countP q:=List.countP_mono_left fun y hy=>h y (List.mem_cons_of_mem _ hy)
  rw[List.countP_cons,List.countP_cons]
  rcases List.mem_cons.1 hi with rfl|hi
  ·rw[hp,hq];simp;omega
  ·have:=countP_lt hp hq l (fun y hy=>h y (List.mem_cons_of_mem _ hy)) hi
   have hx:=h x (List.mem_cons_self ..)
   cases hpx:p x with
   | false=>simp;omega
   | true=>rw[hx hpx];simp;omega
theorem any_sim (hC:CALL P C)(he:Evs P C ops n0 f)(hok:ops.toList.all opsOk=true)(hpo:pairsOk P ops.toList (befs ops.toList []) ops.toList 0=true) (heo:edgesOk ops.toList 0=true)(hdst:dstsOps m ops.toList=true){Q:Exit->Act->World->Prop}
  (hQ:∀ listed a w G p,Inv P ops n0 m f G0 H0 w0 ds listed a w G p->(∀ k,k < ops.size->Lst listed k)->Q .normal a w) :
  ∀ (fuel:Nat) (listed:Array Bool) (a:Act) (w:World) (G:Gh) (p:Nat),Inv P ops n0 m f G0 H0 w0 ds listed a w G p->(List.range ops.size).countP (fun i=>!listed.getD i true)<=fuel->wpAny P .any ops Q fuel listed a w:=by
 intro fuel
 have ready:∀ {listed:Array Bool}{a w G p},Inv P ops n0 m f G0 H0 w0 ds listed a w G p->∀ i,i∈Region.ready .any ops listed->i < ops.size/\¬ Lst listed i/\∀ j,bef ops.toList j i=true->Lst listed j:=by
  intro listed a w G p hI i hi
  unfold Region.ready at hi
  rw[List.mem_filter,List.mem_range,Bool.and_eq_true]at hi
  obtain⟨hs,h1,h2⟩:=hi
  obtain⟨o,ho⟩:=get_of_lt hs
  have ho':ops.toList[i]?=some o:=by rw[Array.getElem?_toList];exact ho
  rw[ho]at h2
  simp only[Option.map_some,Option.getD_some]at h2
  refine⟨hs,?_,?_⟩
  ·intro hL
   rw[Array.getD_eq_getD_getElem?,(show listed[i]?=some true from hL)]at h1
   cases h1
  ·intro j hj
   obtain⟨e,e1,e2,e3⟩:=bef_spec heo ho' hj
   have hlt:e.on < ops.size:=by
    have:=edgesOk_at ops.toList 0 i o heo ho' e e1 e2
    omega
   have hL:Lst listed e.on:=by
    have:=(Array.all_eq_true_iff_forall_mem.1 h2) e (Array.mem_toList_iff.1 e1)
    have e2':Region.binds .any e=true:=e2
    rw[e2',Bool.not_true,Bool.false_or,Array.getD_eq_getD_getElem?]at this
    unfold Lst
    cases hx:listed[e.on]? with
    | none=>rw[hx]at this;cases this
    | some b=>rw[hx]at this;simp only[Option.getD_some]at this;rw[this]
   rcases e3 with rfl|e3
   ·exact hL
   ·exact hI.down e.on hL j e3
 have full:∀ {listed:Array Bool}{a w G p},Inv P ops n0 m f G0 H0 w0 ds listed a w G p->Region.ready .any ops listed=[]->∀ k,k < ops.size->Lst listed k:=by
  intro listed a w G p hI hr k
  induction k using Nat.strongRecOn with
  | _ k ih=>
   intro hk
   by_cases hL:Lst listed k
   ·exact hL
   ·exfalso
    obtain⟨o,ho⟩:=get_of_lt hk
    have ho':ops.toList[k]?=some o:=by rw[Array.getElem?_toList];exact ho
    have:k∈Region.ready .any ops listed:=by
     unfold Region.ready
     rw[List.mem_filter,List.mem_range,Bool.and_eq_true]
     refine⟨hk,?_,?_⟩
     ·have hks:k < listed.size:=by rw[hI.sz];exact hk
      rw[Array.getD_eq_getD_getElem?,Array.getElem?_eq_getElem hks,Option.getD_some]
      cases hb:listed[k]with
      | false=>rfl
      | true=>exact absurd (show listed[k]?=some true by rw[Array.getElem?_eq_getElem hks,hb]) hL
     ·rw[ho]
      simp only[Option.map_some,Option.getD_some]
      refine Array.all_eq_true_iff_forall_mem.2 fun e hm=>?_
      by_cases hon:Region.binds .any e=true
      ·have hlt:=edgesOk_at ops.toList 0 k o heo ho' e (Array.mem_toList_iff.2 hm) hon
       have:=ih e.on (by omega) (by omega)
       rw[Array.getD_eq_getD_getElem?,(show listed[e.on]?=some true from this)]
       simp
      ·simp only[Bool.not_eq_true]at hon
       rw[hon];rfl
    rw[hr]at this
    cases this
 induction fuel with
 | zero=>
  intro listed a w G p hI hc
  have hall:∀ k,k < ops.size->Lst listed k:=by
   intro k hk
   have hz:(List.range ops.size).countP (fun i=>!listed.getD i true)=0:=by omega
   rw[List.countP_eq_zero]at hz
   have:=hz k (List.mem_range.2 hk)
   have hks:k < listed.size:=by rw[hI.sz];exact hk
   rw[Array.getD_eq_getD_getElem?,Array.getElem?_eq_getElem hks,Option.getD_some]at this
   unfold Lst
   rw[Array.getElem?_eq_getElem hks]
   simpa using this
  refine⟨?_,hQ listed a w G p hI hall⟩
  rw[List.eq_nil_iff_forall_not_mem]
  intro i hi
  obtain⟨h1,h2,_⟩:=ready hI i hi
  exact h2 (hall i h1)
 | succ fuel ih=>
  intro listed a w G p hI hc
  refine⟨fun hr=>hQ listed a w G p hI (full hI hr),?_⟩
  intro i hi
  obtain⟨h1,h2,h3⟩:=ready hI i hi
  refine step_inv hC he hok hpo hdst hI h1 h2 h3 ?_
  intro a' w' G' p' hI'
  refine ih _ a' w' G' p' hI' ?_
  have hil:i < listed.size:=by rw[hI.sz];exact h1
  have hlt:(List.range ops.size).countP (fun j=>!(listed.setIfInBounds i true).getD j true) < (List.range ops.size).countP (fun j=>!listed.getD j true):=by
   refine countP_lt (i:=i) ?_ ?_ _ ?_ (List.mem_range.2 h1)
   ·rw[Array.getD_eq_getD_getElem?,Array.getElem?_setIfInBounds,if_pos rfl,if_pos hil];rfl
   ·rw[Array.getD_eq_getD_getElem?,Array.getElem?_eq_getElem hil,Option.getD_some]
    cases hb:listed[i]with
    | false=>rfl
    | true=>exact absurd (show listed[i]?=some true by rw[Array.getElem?_eq_getElem hil,hb]) h2
   ·intro x _ hx
    rw[Array.getD_eq_getD_getElem?,Array.getElem?_setIfInBounds]at hx
    by_cases e:i=x
    ·subst e;rw[if_pos rfl,if_pos hil]at hx;cases hx
    ·rw[if_neg e]at hx;rw[Array.getD_eq_getD_getElem?];exact hx
  omega
end
end Go.Proofs.YtcffcnipmgkjfaaGreat.Ax
namespace Go.Proofs.YtcffcnipmgkjfaaGreat.Ax
open Go
variable {P:Program}
theorem region_sim (hm:P.follows .mixedOrders=true){C:Zb}(hC:CALL P C){ops:Array Oper}{draw:Bool}{m:Nat}{t:Tm}{H:Hp}{n:Nat}{r:R3}(h:region P C ops.toList draw t H n=some r)(hdst:dstsOps m ops.toList=true)
  {G:Gh}{a:Act}{w:World} (hT:TR G m t a) (hH:HR G H w) (hF:Fresh G H n) {id:Nat}{Q:Exit->Act->World->Prop}
  (hQ:∀ G' a' w',TR G' m r.1 a'->a'.defers=a.defers->n<=r.2.2->Post (Span n r.2.2) G H w G' r.2.1 w'->Q .normal a' w'):(Code.region id ops draw).wp P Q a w:=by
 unfold region at h
 split at h
 ·rename_i hok
  cases draw with
  | false=>
   simp only[Bool.false_eq_true,if_false]at h
   refine wp_region ?_
   have:=text_sim (Q:=Q) hC hok hdst ops.toList 0 t H (n+ops.toList.length) r G a w rfl h hT hH (fun i hi=>hF i (by omega)) (by simp) (fun j _ _=>(hF _ (by omega)).1) ?_
   ·rw[Array.length_toList]at this
    rw[List.range_eq_range']
    exact this
   ·intro G' a' w' h1 h2 h3 h4
    exact hQ G' a' w' h1 h2 (by omega) h4
  | true=>
   simp only[if_true]at h
   split at h
   ·rename_i hd
    simp only[Option.bind_eq_some_iff,Option.some.injEq]at h
    obtain⟨q,hq,rfl⟩:=h
    unfold drawOk at hd
    simp only[Bool.and_eq_true]at hd
    obtain⟨⟨heo,hcl⟩,hpo⟩:=hd
    obtain⟨f,f0,f1,f2⟩:=trace _ _ _ _ hq
    simp only[Nat.zero_add]at f1 f2
    have he:Evs P C ops n f:=by
     intro k o ho
     have ho':ops.toList[k]?=some o:=by rw[Array.getElem?_toList];exact ho
     exact ev_of (List.all_eq_true.1 hcl o (List.mem_of_getElem? ho')) (f2 k o ho')
    have hlen:ops.toList.length=ops.size:=Array.length_toList
    refine wp_region_any hm ?_
    have hlst0:∀ k,¬ Lst (Array.replicate ops.size false) k:=by
     intro k hk
     unfold Lst at hk
     rw[Array.getElem?_replicate]at hk
     split at hk <;> cases hk
    have hX0:XS P ops n f (Array.replicate ops.size false) 0=fun _=>none:=by
     funext id
     cases hx:XS P ops n f (Array.replicate ops.size false) 0 id with
     | none=>rfl
     | some ob=>obtain⟨k,_,_,hk,_⟩:=XS_some hx;exact absurd hk (hlst0 k)
    have hov:∀ H:Hp,over (fun _=>none) H=H:=fun H=>funext fun i=>Yp rfl
    refine any_sim (f:=f) (n0:=n) (m:=m) (G0:=G) (H0:=H) (w0:=w) (ds:=a.defers) hC he hok hpo heo hdst ?_ ops.size (Array.replicate ops.size false) a { w with drawn:=w.drawn+1 } G 0 ?_ ?_
    ·intro listed a' w' G' p hI hall
     have hM:=hI.mem.upto he (ops.size - p) (by have:=hI.ple;omega) ?_
     ·rw[show p+(ops.size - p)=ops.size by have:=hI.ple;omega]at hM
      have hXe:XS P ops n f listed ops.size=fun _=>none:=by
       funext id
       cases hx:XS P ops n f listed ops.size id with
       | none=>rfl
       | some ob=>
        obtain⟨k,_,hk,hl,_⟩:=XS_some hx
        have:=lt_of_get hl
        rw[hI.sz]at this
        omega
      have hpost:=hM.post
      rw[hXe,hov]at hpost
      have hfe:f ops.size=q:=by rw[← hlen];exact f1
      rw[hfe]at hpost
      refine hQ G' a' w' ⟨hI.tsz,fun d=>?_⟩ hI.defs (by have:=hM.nn;rw[hfe]at this;show n<=q.n;omega) hpost
      obtain⟨i,h1,h2,h3⟩:=hI.tmp d
      have:(f i).t d=q.t d:=by
       rw[← hfe]
       refine t_same he h1 (Nat.le_refl _) fun k o ho hd=>?_
       have hk:=lt_of_get ho
       exact⟨fun _=>hk,fun _=>(h2 k o ho hd).1 (hall k hk)⟩
      show VR G' (q.t d) _
      rw[← this];exact h3
     ·intro j h1 h2 hA
      have hj:j < ops.size:=by have:=hI.ple;omega
      have:=(hI.thr j hj hA).1 (hall j hj)
      omega
    ·refine⟨by simp,fun i hi=>absurd hi (hlst0 i),hT.size,fun d=>⟨0,by omega,fun k o _ _=>⟨fun h=>absurd h (hlst0 k),fun h=>by omega⟩,by rw[f0];exact hT.val d⟩,rfl,by omega,fun k _ _=>⟨fun h=>absurd h (hlst0 k),fun h=>by omega⟩,.inl rfl,?_⟩
     refine⟨?_,?_,?_,?_,?_,?_,?_⟩
     ·rw[hX0,hov,f0];exact Post.drew hH rfl rfl rfl rfl
     ·intro k _ _;rw[f0];exact(hF _ (by omega)).2
     ·intro k hk;rw[f0]at hk ⊢;exact hF k (by have:n+ops.toList.length<=k:=hk;omega)
     ·rw[f0];show n+ops.size<=n+ops.toList.length;omega
     ·intro k ob hk;omega
     ·intro k _ _;exact(hF _ (by omega)).1
     ·intro k ob hk;exact absurd hk (hlst0 k)
    ·exact Nat.le_trans List.countP_le_length (by simp)
   ·cases h
 ·cases h
def exR:Ex->Exit->Prop
 | .normal,.normal=>True
 | .exit i,.exit j=>i=j
 | .ret,.ret=>True
 | _,_=>False
def Done (G0:Gh)(H0:Hp)(w0:World)(n0 m:Nat)(ds:List Deferred)(o:Out)(e:Exit)(a:Act)(w:World):Prop :=
 ∃ G,exR o.e e/\TR G m o.t a/\a.defers=ds/\n0<=o.n/\Post (Span n0 o.n) G0 H0 w0 G o.H w
theorem Done.after {G0 G1:Gh}{H0 H1:Hp}{w0 w1:World}{n0 n1 m:Nat}{ds:List Deferred}{o:Out}{e:Exit}{a:Act}{w:World}(hn:n0<=n1)(hp:Post (Span n0 n1) G0 H0 w0 G1 H1 w1) (h:Done G1 H1 w1 n1 m ds o e a w):Done G0 H0 w0 n0 m ds o e a w:=by
 obtain⟨G,h1,h2,h3,h4,h5⟩:=h
 refine⟨G,h1,h2,h3,Nat.le_trans hn h4,(hp.trans h5).weaken ?_⟩
 rintro i (hi|hi)
 ·exact⟨hi.1,Nat.lt_of_lt_of_le hi.2 h4⟩
 ·exact⟨Nat.le_trans hn hi.1,hi.2⟩
theorem Fresh.span {G G':Gh}{H H':Hp}{w w':World}{n n':Nat}(h:Fresh G H n)(hn:n<=n')(hp:Post (Span n n') G H w G' H' w'):Fresh G' H' n' :=
 h.post hn hp fun i hi hs=>by have:=hs.2;omega
theorem cond_vr {G:Gh}{m:Nat}{t:Tm}{a:Act}(hT:TR G m t a){c:Operand}(hc:condOk c=true):VR G (ev t c) (a.eval c):=by
 cases c with
 | tmp i=>exact hT.val i
 | const v=>exact .sr (gnd1_sr hc)
 | global g=>cases hc
 | func f=>cases hc
theorem code_sim (hm:P.follows .mixedOrders=true){C:Zb}(hC:CALL P C)(k m:Nat):∀ (c:Code)(t:Tm)(H:Hp)(n:Nat)(o:Out)(G:Gh)(a:Act)(w:World),code P C (iter k) c t H n=some o->codeOk m c=true->TR G m t a->HR G H w->Fresh G H n ->
  c.wp P (Done G H w n m a.defers o) a w:=by
 intro c
 induction c with
 | skip=>
  intro t H n o G a w h hok hT hH hF
  cases h
  exact wp_skip ⟨G,trivial,hT,rfl,Nat.le_refl _,Post.refl hH⟩
 | region id ops draw=>
  intro t H n o G a w h hok hT hH hF
  simp only[code,Option.bind_eq_some_iff,Option.some.injEq]at h
  obtain⟨q,hq,rfl⟩:=h
  exact region_sim hm hC hq hok hT hH hF fun G' a' w' h1 h2 h3 h4=>⟨G',trivial,h1,h2,h3,h4⟩
 | seq x y ihx ihy=>
  intro t H n o G a w h hok hT hH hF
  simp only[code,Option.bind_eq_some_iff]at h
  obtain⟨o1,h1,h2⟩:=h
  simp only[codeOk,Bool.and_eq_true]at hok
  refine wp_seq (wp_mono (ihx t H n o1 G a w h1 hok.1 hT hH hF) ?_)
  intro e a1 w1 hd
  obtain⟨G1,e1,e2,e3,e4,e5⟩:=id hd
  unfold Xw at h2
  cases he:o1.e with
  | normal=>
   rw[he]at h2 e1
   simp only at h2
   cases e with
   | normal=>
    have:=ihy o1.t o1.H o1.n o G1 a1 w1 h2 hok.2 e2 e5.hr (hF.span e4 e5)
    refine wp_mono this fun e' a' w' hd'=>?_
    rw[e3]at hd'
    exact hd'.after e4 e5
   | _=>cases e1
  | exit i=>
   rw[he]at h2 e1
   cases h2
   cases e with
   | exit j=>exact hd
   | _=>cases e1
  | ret=>
   rw[he]at h2 e1
   cases h2
   cases e with
   | ret=>exact hd
   | _=>cases e1
 | cond c x y ihx ihy=>
  intro t H n o G a w h hok hT hH hF
  simp only[code]at h
  simp only[codeOk,Bool.and_eq_true]at hok
  have hv:=cond_vr hT hok.1.1
  unfold csel at h
  split at h
  ·rename_i b hb
   rw[hb]at hv
   have hv:=hv.boolS
   refine wp_cond (t:=b) hv ?_
   cases b with
   | true=>exact ihx t H n o G a w h hok.1.2 hT hH hF
   | false=>exact ihy t H n o G a w h hok.2 hT hH hF
  ·cases h
 | block id c ih=>
  intro t H n o G a w h hok hT hH hF
  simp only[code,Option.bind_eq_some_iff,Option.some.injEq]at h
  obtain⟨o1,h1,rfl⟩:=h
  refine wp_block (wp_mono (ih t H n o1 G a w h1 hok hT hH hF) ?_)
  intro e a1 w1 hd
  have hd0:=hd
  obtain⟨G1,e1,e2,e3,e4,e5⟩:=hd0
  obtain⟨oe,ot,oH,on⟩:=o1
  cases oe with
  | normal=>
   cases e with
   | normal=>exact hd
   | _=>cases e1
  | exit i=>
   cases e with
   | exit j=>
    have hij:i=j:=e1
    subst hij
    show if i=id then _ else _
    by_cases hi:i=id
    ·rw[if_pos hi]
     refine⟨G1,?_,?_,e3,?_,?_⟩
     ·simp only[outOf,hi,if_true];trivial
     ·simp only[outOf,hi,if_true];exact e2
     ·simp only[outOf,hi,if_true];exact e4
     ·simp only[outOf,hi,if_true];exact e5
    ·rw[if_neg hi]
     simp only[outOf,if_neg hi]
     exact hd
   | _=>cases e1
  | ret=>
   cases e with
   | ret=>exact hd
   | _=>cases e1
 | loop c ih=>
  intro t H n o G a w h hok hT hH hF
  simp only[code]at h
  refine wp_loop_ghost (fun j a1 w1=>∃ t1 H1 n1 G1,iter j (code P C (iter k) c) t1 H1 n1=some o/\TR G1 m t1 a1/\a1.defers=a.defers/\n<=n1/\Post (Span n n1) G H w G1 H1 w1) k ⟨t,H,n,G,h,hT,rfl,Nat.le_refl _,Post.refl hH⟩ ?_
  rintro j a1 w1 ⟨t1,H1,n1,G1,h1,h2,h3,h4,h5⟩
  cases j with
  | zero=>cases h1
  | succ j=>
   simp only[iter,Option.bind_eq_some_iff]at h1
   obtain⟨o1,g1,g2⟩:=h1
   refine wp_mono (ih t1 H1 n1 o1 G1 a1 w1 g1 hok h2 h5.hr (hF.span h4 h5)) ?_
   intro e a2 w2 hd
   rw[h3]at hd
   have hd:=hd.after h4 h5
   obtain⟨G2,e1,e2,e3,e4,e5⟩:=id hd
   unfold Xw at g2
   cases he:o1.e with
   | normal=>
    rw[he]at g2 e1
    simp only at g2
    cases e with
    | normal=>exact⟨j,by omega,o1.t,o1.H,o1.n,G2,g2,e2,e3,e4,e5⟩
    | _=>cases e1
   | exit i=>
    rw[he]at g2 e1
    cases g2
    cases e with
    | exit j=>exact hd
    | _=>cases e1
   | ret=>
    rw[he]at g2 e1
    cases g2
    cases e with
    | ret=>exact hd
    | _=>cases e1
 | exit id=>
  intro t H n o G a w h hok hT hH hF
  cases h
  exact wp_exit ⟨G,rfl,hT,rfl,Nat.le_refl _,Post.refl hH⟩
 | ret=>
  intro t H n o G a w h hok hT hH hF
  cases h
  exact wp_ret ⟨G,trivial,hT,rfl,Nat.le_refl _,Post.refl hH⟩
 | _=>intro t H n o G a w h;cases h
theorem VR.notTup {G:Gh}{v v':Value}(h:VR G v v')(hv:notTup v=true):PR G v v':=by
 cases h with
 | p h=>exact h
 | tup h=>cases hv
def resF (tm:Array Value)(r:ResultVar):Sem Value :=
 match r with
 | .tmp t=>pure (tm.getD t undef)
 | .cell a t=>do loadVar t (← asAddr (tm.getD a undef))
theorem run_mapM_results {G:Gh}{H:Hp}{w:World}(hH:HR G H w){m:Nat}{t:Tm}{a:Act}(hT:TR G m t a):∀ (rs:List ResultVar)(l:List Value),resL P t H rs=some l ->
  ∃ l',(rs.mapM (resF a.tmps)).run P w=.ok l' w/\All2 (VR G) l l'
 | [],l,h=>by cases h;exact⟨[],by simp,.nil⟩
 | r :: rs,l,h=>by
  unfold resL at h
  simp only[Option.bind_eq_some_iff,Option.some.injEq]at h
  obtain⟨v,h1,l1,h2,rfl⟩:=h
  obtain⟨l',e1,e2⟩:=run_mapM_results hH hT rs l1 h2
  have hone:∃ v',(resF a.tmps r).run P w=.ok v' w/\VR G v v':=by
   unfold resV at h1
   cases r with
   | tmp i=>cases h1;exact⟨_,by simp[resF],hT.val i⟩
   | cell i ty=>
    simp only[Option.bind_eq_some_iff]at h1
    obtain⟨ti,ht,hl⟩:=h1
    obtain⟨v',e1,e2⟩:=ld_sim hH ht (hT.val i) hl
    refine⟨v',?_,.p e2⟩
    have hp:∃ ad,a.tmps.getD i undef=.pointer (some ad):=by
     have hc:∃ j o,t i=.pointer (some ⟨j,o,none⟩):=by
      have:∀ {p},We (t i) H=some p->∃ j o,t i=.pointer (some ⟨j,o,none⟩):=fun {p} hp=>by
       obtain⟨j,e,rw_,hj,_⟩:=cellsAt_some hp
       exact⟨_,_,hj⟩
      unfold ld lda ldc at hl
      split at hl
      ·simp only[Option.bind_eq_some_iff]at hl
       obtain⟨p,hp,_⟩:=hl
       exact this hp
      ·simp only[Option.bind_eq_some_iff]at hl
       obtain⟨p,hp,_⟩:=hl
       exact this hp
     obtain⟨j,o,hj⟩:=hc
     have:=hT.val i
     rw[hj]at this
     obtain⟨g,_,h⟩:=this.ptr
     exact⟨_,h⟩
    obtain⟨ad,had⟩:=hp
    rw[had]at e1
    unfold resF
    simp only[had]
    simpa[Instr.loadAt,Instr.sureAddr,asAddr]using e1
  obtain⟨v',e3,e4⟩:=hone
  refine⟨v' :: l',?_,.cons e4 e2⟩
  rw[List.mapM_cons]
  simp only[Sem.run_bind,e3,e1,Result.andThen_ok,Sem.run_pure]
theorem results_sim {G:Gh}{H H':Hp}{w:World}(hH:HR G H w){m n n':Nat}{t:Tm}{a:Act}(hT:TR G m t a){fn:Func}{l:List Value}{v:Value}(h:resL P t H fn.results.toList=some l)(ho:outV l H n=some (v,H',n')) :
  ∃ v',(results fn a.tmps).run P w=.ok v' w/\VR G v v'/\H'=H/\n'=n:=by
 obtain⟨l',e1,e2⟩:=run_mapM_results hH hT _ _ h
 have hrun:(results fn a.tmps).run P w=.ok (if h:(⟨l'⟩:Array Value).size=1 then(⟨l'⟩:Array Value)[0]else .tuple ⟨l'⟩) w:=by
  have:results fn a.tmps=(do let vs ← fn.results.mapM (resF a.tmps);pure (if h:vs.size=1 then vs[0]else .tuple vs)):=rfl
  rw[this,Array.mapM_eq_mapM_toList]
  simp only[Sem.run_bind,Sem.run_map,e1,Result.andThen_ok,Sem.run_pure]
 rw[hrun]
 unfold outV at ho
 split at ho
 ·cases ho
  obtain⟨b,m',rfl,h1,h2⟩:=All2.cons_left e2
  cases h2
  exact⟨b,rfl,h1,rfl,rfl⟩
 ·rename_i hno
  unfold Yr at ho
  split at ho
  ·rename_i hall
   cases ho
   have hl:=e2.length
   have hne:¬ (⟨l'⟩:Array Value).size=1:=by
    intro h1
    have:l'.length=1:=h1
    rw[← hl]at this
    obtain⟨x,hx⟩:=List.length_eq_one_iff.1 this
    exact hno x hx
   refine⟨.tuple ⟨l'⟩,by rw[dif_neg hne],.tup ?_,rfl,rfl⟩
   clear hrun hno hne h e1
   induction e2 with
   | nil=>exact .nil
   | cons h _ ih=>
    rw[List.all_cons,Bool.and_eq_true]at hall
    refine .cons (h.notTup hall.1) (ih ?_ ?_)
    ·exact hall.2
    ·simpa using hl
  ·cases ho
theorem argsT_get {G:Gh}{args args':List Value}(h:All2 (VR G) args args') (nt:Nat)(i:Nat):VR G (Zp args i) ((⟨args'⟩++Array.replicate (nt - args'.length) undef:Array Value).getD i undef):=by
 unfold Zp
 rw[Array.getD_eq_getD_getElem?,Array.getElem?_append]
 have hl:=h.length
 split
 ·rename_i hi
  have hi':i < args.length:=by rw[hl];exact hi
  obtain⟨b,h1,h2⟩:=h.get (List.getElem?_eq_getElem hi')
  rw[List.getD_eq_getElem?_getD,List.getElem?_eq_getElem hi',Option.getD_some]
  rw[show(⟨args'⟩:Array Value)[i]?=some b by rw[← h1];simp,Option.getD_some]
  exact h2
 ·rename_i hi
  have hi':args.length<=i:=by rw[hl];exact Nat.le_of_not_lt hi
  rw[List.getD_eq_getElem?_getD,List.getElem?_eq_none hi',Option.getD_none]
  rw[Array.getElem?_replicate]
  split <;> exact VR.undef
theorem acall_CALL (hm:P.follows .mixedOrders=true):∀ k,CALL P (Vl P k)
 | 0=>fun f args H n v H' n' h=>by cases h
 | k+1=>by
  intro f args H n v H' n' h
  unfold Vl at h
  cases hf:P.funcs[f]? with
  | none=>rw[hf]at h;cases h
  | some fn=>
   rw[hf]at h
   simp only at h
   unfold body at h
   cases hb:fn.body with
   | none=>rw[hb]at h;cases h
   | some c=>
    rw[hb]at h
    simp only at h
    split at h
    ·rename_i hok
     refine⟨⟨fn,c,rfl,hb,hok.2⟩,?_⟩
     intro G w args' hargs hH hF
     simp only[Option.bind_eq_some_iff]at h
     obtain⟨o,ho,hfin⟩:=h
     have hl:=hargs.length
     have hT:TR G fn.ntmps (Zp args) { tmps:=⟨args'⟩++Array.replicate (fn.ntmps - (⟨args'⟩:Array Value).size) undef,defers:=[] }:=by
      refine⟨?_,argsT_get hargs fn.ntmps⟩
      simp
      omega
     refine calls_of_wp hf hb (wp_mono (code_sim hm (acall_CALL hm k) k fn.ntmps c (Zp args) H n o G _ w ho hok.1 hT hH hF) ?_)
     rintro e a1 w1 ⟨G1,e1,e2,e3,e4,e5⟩
     unfold finish at hfin
     have fin:(resL P o.t o.H fn.results.toList).bind (fun l=>outV l o.H o.n)=some (v,H',n')->a1.defers=[]/\∃ v',(results fn a1.tmps).run P w1=.ok v' w1/\∃ v1 G',(Ending.returned v')=.returned v1/\VR G' v v1/\n<=n'/\Post (Span n n') G H w G' H' w1:=by
      intro hf
      simp only[Option.bind_eq_some_iff]at hf
      obtain⟨l,hl1,hl2⟩:=hf
      obtain⟨v',r1,r2,rfl,rfl⟩:=results_sim e5.hr e2 hl1 hl2
      exact⟨e3,v',r1,v',G1,rfl,r2,e4,e5⟩
     cases he:o.e with
     | normal=>
      rw[he]at hfin e1
      cases e with
      | normal=>exact fin hfin
      | _=>cases e1
     | exit i=>rw[he]at hfin;cases hfin
     | ret=>
      rw[he]at hfin e1
      cases e with
      | ret=>exact fin hfin
      | _=>cases e1
    ·cases h
theorem Call_sim (hm:P.follows .mixedOrders=true){f:Nat}{args:List Value}{H:Hp}{n:Nat}{v:Value}{H':Hp}{n':Nat}(h:Call P f args H n=some (v,H',n')){G:Gh}{w:World}{args':List Value}(ha:All2 (VR G) args args') (hH:HR G H w)(hF:Fresh G H n) :
  Calls P f ⟨args'⟩ w fun e w'=>∃ v' G',e=.returned v'/\VR G' v v'/\n<=n'/\Post (Span n n') G H w G' H' w':=by
 obtain⟨k,hk⟩:=Call_some.1 h
 exact(acall_CALL hm k _ _ _ _ _ _ _ hk).2 G w args' ha hH hF
end Go.Proofs.YtcffcnipmgkjfaaGreat.Ax
namespace Go.Proofs.YtcffcnipmgkjfaaGreat.Ax
open Go Go.RowKit
theorem HR.none (G:Gh)(w:World):HR G (fun _=>Option.none) w:=⟨fun i o g h=>(by cases h),fun i j oi oj gi gj _ h=>(by cases h)⟩
end Go.Proofs.YtcffcnipmgkjfaaGreat.Ax
namespace Go.Proofs.YtcffcnipmgkjfaaGreat.Ax
open Go Go.RowKit
theorem HR.ro {G:Gh}{H:Hp}{w:World}(h:∀ i o g,H i=some o->G i=some g->rwObj o=false/\OR G g o w.heap[g.blk]?):HR G H w :=
 ⟨fun i o g hi hg=>(h i o g hi hg).2,fun i j oi oj gi gj _ hi hj hr hgi hgj=>by rw[(h i oi gi hi hgi).1]at hr;cases hr⟩
def NumRow (k:IntKind)(w:World)(a:Option Addr)(len cap:Nat)(zs:List Int):Prop :=
 (a=none/\len=0/\cap=0/\zs=[]) ∨
 ∃ x,a=some x/\len<=cap/\cap<=maxLen/\zs.length=cap/\(∀ i,i < zs.length->w.cell? (x.add i)=some (.int k (zs.getD i 0)))/\∀ n∈zs,(Lit.int k n).wf=true
theorem ro_walk {P:Program}(hm:P.follows .mixedOrders=true){f:Nat}{args args':List Value}{H:Hp}{n:Nat}{G:Gh}{W:World}(hH:HR G H W)(hro:∀ i o,H i=some o->rwObj o=false)(hF:Fresh G H n)(ha:All2 (VR G) args args'){b:Bool}{H':Hp}{n':Nat}(h:Call P f args H n=some (.bool b,H',n')) :
  Calls P f ⟨args'⟩ W fun e W'=>e=.returned (.bool b)/\Below W.heap.size W W':=by
 refine Calls.mono (Call_sim hm h ha hH hF) ?_
 rintro e W' ⟨v',G',rfl,hv,_,hp⟩
 refine⟨by rw[hv.boolS],hp.fr.os,hp.fr.tape,hp.fr.output,hp.fr.size,fun k hk=>hp.fr.same k hk ?_⟩
 rintro⟨i,o,g,hi,hr,_⟩
 rw[hro i o hi]at hr;cases hr
end Go.Proofs.YtcffcnipmgkjfaaGreat.Ax
namespace Go.Proofs.YtcffcnipmgkjfaaGreat.Ax
open Go Go.RowKit
structure Ob (W:World) where
 ob:Option Obj
 gi:Option GI
 hs:ob.isSome=true->gi.isSome=true
 ok:∀ o g,ob=some o->gi=some g->∀ G:Gh,rwObj o=false/\OR G g o W.heap[g.blk]?
def obsH {W:World}(l:List (Ob W)):Hp:=fun i=>(l[i]?).bind Ob.ob
def obsG {W:World}(l:List (Ob W)):Gh:=fun i=>(l[i]?).bind Ob.gi
theorem obsH_at {W:World}{l:List (Ob W)}{i:Nat}{o:Ob W}(h:l[i]?=some o):obsH l i=o.ob:=by simp[obsH,h]
theorem obsG_at {W:World}{l:List (Ob W)}{i:Nat}{o:Ob W}(h:l[i]?=some o):obsG l i=o.gi:=by simp[obsG,h]
theorem obs_HR {W:World}(l:List (Ob W)):HR (obsG l) (obsH l) W:=by
 refine HR.ro fun i o g ho hg=>?_
 cases h:l[i]? with
 | none=>simp[obsH,h]at ho
 | some b=>
  rw[obsH_at h]at ho
  rw[obsG_at h]at hg
  exact b.ok o g ho hg _
theorem obs_ro {W:World}(l:List (Ob W)):∀ i o,obsH l i=some o->rwObj o=false:=by
 intro i o ho
 cases h:l[i]? with
 | none=>simp[obsH,h]at ho
 | some b=>
  rw[obsH_at h]at ho
  have:=b.hs (by rw[ho];rfl)
  obtain⟨g,hg⟩:=Option.isSome_iff_exists.1 this
  exact(b.ok o g ho hg (obsG l)).1
theorem obs_fresh {W:World}(l:List (Ob W)):Fresh (obsG l) (obsH l) l.length:=by
 intro i hi
 have:l[i]?=none:=List.getElem?_eq_none hi
 simp[obsG,obsH,this]
theorem obs_walk {P:Program}(hm:P.follows .mixedOrders=true){f:Nat}{args args':List Value}{W:World}(l:List (Ob W)) (ha:All2 (VR (obsG l)) args args'){b:Bool}{H':Hp}{n':Nat}(h:Call P f args (obsH l) l.length=some (.bool b,H',n')) :
  Calls P f ⟨args'⟩ W fun e W'=>e=.returned (.bool b)/\Below W.heap.size W W' :=
 ro_walk hm (obs_HR l) (obs_ro l) (obs_fresh l) ha h
def CRow (sz:Nat)(w:World)(a:Option Addr)(len cap:Nat)(cells:List Value):Prop :=
 cells.length=len * sz/\(∀ c∈cells,gnd1 c=true)/\((a=none/\len=0/\cap=0)∨∃ x,a=some x/\len<=cap/\∀ i c,cells[i]?=some c->w.cell? (x.add i)=some c)
theorem slice_param {sz:Nat}{W:World}{a:Option Addr}{len cap:Nat}{cells:List Value}(h:CRow sz W a len cap cells)(hsz:0 < sz) :
  ∃ b:Ob W,∀ j,∃ v,(∀ G:Gh,G j=b.gi->SR G v (.slice a len cap))/\∀ H n,H j=b.ob->j < n->View H sz v cells len/\Old n v:=by
 obtain⟨hl,hg,⟨rfl,rfl,rfl⟩|⟨x,rfl,h1,h4⟩⟩:=h
 ·have:cells=[]:=List.length_eq_zero_iff.1 (by rw[hl,Nat.zero_mul])
  subst this
  exact⟨⟨none,none,fun h=>h,fun o g h=>by cases h⟩,fun j=>⟨nilS,fun G _=>.nils,fun H n _ _=>⟨View.nil,fun i o a c h=>by cases h⟩⟩⟩
 ·by_cases hlen:len=0
  ·subst hlen
   have:cells=[]:=List.length_eq_zero_iff.1 (by rw[hl,Nat.zero_mul])
   subst this
   exact⟨⟨none,none,fun h=>h,fun o g h=>by cases h⟩,fun j=>⟨emptyS,fun G _=>.emp,fun H n _ _=>⟨⟨by simp,.inl ⟨rfl,.inr ⟨0,0,0,0,rfl⟩⟩⟩,fun i o a c h=>by cases h⟩⟩⟩
  ·obtain⟨b,off,sp⟩:=x
   have hpos:0 < cells.length:=by rw[hl];exact Nat.mul_pos (by omega) hsz
   have h0:=h4 0 (cells[0]) (by simp[hpos])
   have hsp:sp=none:=by
    unfold Addr.add at h0
    rw[if_pos rfl]at h0
    unfold World.cell? at h0
    simp only at h0
    split at h0
    ·split at h0
     ·cases h0
     ·rename_i hs;cases sp with
      | none=>rfl
      | some q=>exact absurd rfl hs
    ·cases h0
   subst hsp
   have hadd:∀ i,(⟨b,off,none⟩:Addr).add i=⟨b,off+i,none⟩:=by
    intro i;unfold Addr.add;split
    ·rename_i h;subst h;rfl
    ·rfl
   obtain⟨cs',ty,fr,hb⟩:∃ cs' ty fr,W.heap[b]?=some (.cells cs' ty fr):=by
    rw[hadd]at h0
    unfold World.cell? at h0
    simp only at h0
    split at h0
    ·rename_i c e f hh;exact⟨c,e,f,hh⟩
    ·cases h0
   have hc:∀ i c,cells[i]?=some c->cs'[off+i]?=some c:=by
    intro i c hi
    have:=h4 i c hi
    rw[hadd,cell_of hb]at this
    exact this
   refine⟨⟨some (.row cells 0 false),some ⟨b,off,0,0,false⟩,fun _=>rfl,?_⟩,fun j=>⟨sl j 0 len,?_,?_⟩⟩
   ·intro o g ho hg' G
    cases ho;cases hg'
    refine⟨rfl,(⟨⟨cs',ty,fr,hb,?_,fun hr=>by cases hr⟩,rfl,fun hr=>by cases hr⟩:RowOk G ⟨b,off,0,0,false⟩ _ 0 false _)⟩
    have hsz':off+cells.length<=cs'.size:=by
     have:=hc (cells.length - 1) (cells[cells.length - 1]'(by omega)) (by simp[hpos])
     have:=(Array.getElem?_eq_some_iff.1 this).1
     omega
    refine⟨hsz',?_⟩
    have he:(cs'.toList.drop off).take cells.length=cells:=by
     apply List.ext_getElem?
     intro i
     rw[List.getElem?_take]
     split
     ·rename_i hi
      rw[List.getElem?_drop,Array.getElem?_toList,hc i cells[i] (by simp[hi])]
      simp[hi]
     ·rw[List.getElem?_eq_none (by omega)]
    rw[he]
    exact gnds_cr (List.all_eq_true.2 hg)
   ·intro G hG
    have:=SR.sl (G:=G) (i:=j) (o:=0) (n:=len) (c:=0) (c':=cap) hG h1 (fun hr=>by cases hr)
    exact this
   ·intro H n hH hj
    exact⟨View.new (e:=0) (rw:=false) hH hl,fun i o a c h=>by cases h;exact hj⟩
theorem NumRow.crow {k:IntKind}{w:World}{a:Option Addr}{len cap:Nat}{zs:List Int}(h:NumRow k w a len cap zs):CRow 1 w a len cap ((zs.take len).map (Value.int k))/\(zs.take len).length=len/\∀ n∈zs.take len,(Lit.int k n).wf=true:=by
 rcases h with⟨rfl,rfl,rfl,rfl⟩|⟨x,rfl,h1,h2,h3,h4,h5⟩
 ·exact⟨⟨rfl,by simp,.inl ⟨rfl,rfl,rfl⟩⟩,rfl,by simp⟩
 ·have hlen:(zs.take len).length=len:=by rw[List.length_take];omega
  refine⟨⟨by rw[List.length_map,hlen,Nat.mul_one],fun c hc=>?_,.inr ⟨x,rfl,h1,fun i c hc=>?_⟩⟩,hlen,fun n hn=>h5 n (List.mem_of_mem_take hn)⟩
  ·obtain⟨n,_,rfl⟩:=List.mem_map.1 hc;rfl
  ·rw[List.getElem?_map,List.getElem?_take]at hc
   split at hc
   ·rename_i hi
    have hiz:i < zs.length:=by omega
    rw[h4 i hiz]
    simp[hiz]at hc
    rw[← hc]
    simp[List.getD_eq_getElem?_getD,hiz]
   ·cases hc
theorem map_flat (E:Enc Int)(f:Int->Value)(h:∀ x,E.cells x=[f x])(l:List Int):l.flatMap E.cells=l.map f:=by
 induction l with
 | nil=>rfl
 | cons x l ih=>rw[List.flatMap_cons,h,ih];rfl
theorem u8_wf {n:Int}(h:(Lit.int .u8 n).wf=true):0<=n/\n<=255:=by
 simp[Lit.wf]at h
 exact h
theorem bytes_param {W:World}{a:Option Addr}{len cap:Nat}{zs:List Int}(h:NumRow .u8 W a len cap zs):∃ (b:Ob W)(l:List Int),(∀ c∈l,0<=c/\c<=255)/\∀ j,∃ v,(∀ G:Gh,G j=b.gi->SR G v (.slice a len cap))/\∀ H n,H j=b.ob->j < n->Li eByte n H v l:=by
 obtain⟨h1,h2,h3⟩:=h.crow
 obtain⟨b,hb⟩:=slice_param h1 (by decide)
 refine⟨b,zs.take len,fun c hc=>u8_wf (h3 c hc),fun j=>?_⟩
 obtain⟨v,hv,hw⟩:=hb j
 refine⟨v,hv,fun H n hH hj=>?_⟩
 obtain⟨w1,w2⟩:=hw H n hH hj
 refine⟨?_,w2⟩
 rw[map_flat eByte (Value.int .u8) (fun _=>rfl),h2]
 exact w1
end Go.Proofs.YtcffcnipmgkjfaaGreat.Ax
namespace Go.Proofs.YtcffcnipmgkjfaaGreat.Ax
open Go Go.RowKit Go.Deep
section
variable {HH:Type}{enc:TypeId × Value->HH}{P:Program}{W:World}{base:Nat}{spare:Nat->Bool}{held:Bool}
end
section
variable {HH:Type}{enc:TypeId × Value->HH}{P:Program}{W:World}{base:Nat}{spare:Nat->Bool}{held:Bool}
end
end Go.Proofs.YtcffcnipmgkjfaaGreat.Ax
namespace Go.Proofs.YtcffcnipmgkjfaaGreat.Ax
open Go
theorem Rt.mk {P:Program}{f:Nat}{args:List Value}{H:Hp}{n:Nat}{v:Value}(h:Wp (Call P f args H n) fun q=>n<=q.2.2/\(∀ i,i < n->q.2.1 i=H i)/\q.1=v):Rt P f args H n v:=Rt.of h
theorem RtN.mk {P:Program}{f:Nat}{args:List Value}{H:Hp}{n:Nat}{R:Value->Hp->Nat->Prop}(h:Wp (Call P f args H n) fun q=>n<=q.2.2/\(∀ i,i < n->q.2.1 i=H i)/\R q.1 q.2.1 q.2.2):RtN P f args H n R:=RtN.of h
theorem RtD.mk {P:Program}{f:Nat}{args:List Value}{c:Nat}{H:Hp}{n:Nat}{R:Value->Hp->Nat->Prop}(h:Wp (Call P f args H n) fun q=>n<=q.2.2/\(∀ i,i < n->i≠c->q.2.1 i=H i)/\Cu c q.2.2 q.2.1/\R q.1 q.2.1 q.2.2):RtD P f args c H n R:=by
 obtain⟨⟨v',H',n'⟩,h1,h2,h3,h4,h5⟩:=h
 exact⟨v',H',n',h2,fun i hi hc=>h3 i hi (by simpa using hc),h4,h1,h5⟩
theorem Cu.mv {c n m:Nat}{H H':Hp}(h:Cu c n H)(hm:n<=m)(hs:∀ i,i<=c->H' i=H i):Cu c m H':=h.low hs (by have:=h.1;omega)
theorem Li.off {α:Type}{E:Enc α}{n c:Nat}{H:Hp}{v:Value}{l:List α}(h:Li E n H v l)(hc:n<=c):Off c v:=h.2.off hc
theorem Li.mv1 {α:Type}{E:Enc α}{n m c:Nat}{H H':Hp}{v:Value}{l:List α}(h:Li E n H v l)(hc:Off c v)(hm:n<=m)(hs:∀ i,i < n->i≠c->H' i=H i):Li E m H' v l:=(h.keep' fun i o a k e=>hs i (h.2 i o a k e) (hc i o a k e)).up hm
theorem bsl_b (id:Nat)(x:Int)(H:Hp):Xx id 1 1 [.int .u8 0] [(0,1,.int .u8 x)] H=some (sl id 0 1,H.set id (some (.row [.int .u8 x] 1 true))):=bsl_one eByte x id _ _ H rfl rfl (by decide)
theorem bsl_i (id:Nat)(x:Int)(H:Hp):Xx id 1 1 [.int .i64 0] [(0,1,.int .i64 x)] H=some (sl id 0 1,H.set id (some (.row [.int .i64 x] 1 true))):=bsl_one eInt x id _ _ H rfl rfl (by decide)
theorem bsl_s (id:Nat)(x:ByteArray)(H:Hp):Xx id 1 1 [.string ⟨#[]⟩] [(0,1,.string x)] H=some (sl id 0 1,H.set id (some (.row [.string x] 1 true))):=bsl_one eStr x id _ _ H rfl rfl (by decide)
theorem bsl_n (id:Nat)(a b:Int)(s:ByteArray)(c d:Int)(H:Hp):Xx id 5 1 [.int .i64 0,.int .i64 0,.string ⟨#[]⟩,.int .i64 0,.int .i64 0] [(0,5,.agg ⟨[.int .i64 a,.int .i64 b,.string s,.int .i64 c,.int .i64 d]⟩)] H=some (sl id 0 1,H.set id (some (.row [.int .i64 a,.int .i64 b,.string s,.int .i64 c,.int .i64 d] 5 true))):=bsl_one eNode ⟨a,b,s,c,d⟩ id _ _ H rfl rfl (by decide)
theorem bsl_nc (id:Nat)(x:Nd)(H:Hp):Xx id 5 1 [.int .i64 0,.int .i64 0,.string ⟨#[]⟩,.int .i64 0,.int .i64 0] [(0,5,.agg ⟨x.cells⟩)] H=some (sl id 0 1,H.set id (some (.row x.cells 5 true))):=bsl_one eNode x id _ _ H rfl rfl (by decide)
theorem bsl_ic (id:Nat)(x:Ins)(H:Hp):Xx id 4 1 [.int .i64 0,.int .i64 0,.int .i64 0,.string ⟨#[]⟩] [(0,4,.agg ⟨x.cells⟩)] H=some (sl id 0 1,H.set id (some (.row x.cells 4 true))):=bsl_one eIns x id _ _ H rfl rfl (by decide)
theorem bsl_dc (id:Nat)(x:Df)(H:Hp):Xx id 3 1 [.string ⟨#[]⟩,.int .i64 0,.int .i64 0] [(0,3,.agg ⟨x.cells⟩)] H=some (sl id 0 1,H.set id (some (.row x.cells 3 true))):=bsl_one eDef x id _ _ H rfl rfl (by decide)
theorem bsl_zn (id:Nat)(zero:List Value)(sz:Nat)(H:Hp)(h:zero.length=sz):Xx id sz 0 zero [] H=some (sl id 0 0,H.set id (some (.row [] sz true))):=by simp[Xx,fill,h]
theorem conv_b (id i:Nat)(x:Int)(H:Hp):conv .bytesToStr id (sl i 0 1) (H.set i (some (.row [.int .u8 x] 1 true)))=some (.string (Vo [x]),H.set i (some (.row [.int .u8 x] 1 true))):=by
 have h:At eByte i (H.set i (some (.row [.int .u8 x] 1 true))) (sl i 0 1) [x]:=.inr ⟨rfl,Ze _ _ _⟩
 exact conv_bs (h.lst (Nat.lt_succ_self i)) id
theorem strOf1_size (x:Int):(Vo [x]).size=1:=strOf_size [x]
theorem Ub {α:Type}{E:Enc α}{id id1 id2 bytes:Nat}{H:Hp}{v:Value}{l:List α}(x:α){β:Type}{g:Value × Hp->Option β}{Q:β->Prop}(h:At E id H v l)(h1:id≠id1)(hb:1<=bytes)(hl:(2 * (l.length+1)+1024) * bytes<=281474976710656)
  (k:∀ H',H' id2=some (.row ((l++[x]).flatMap E.cells) E.sz true)->(∀ i,i≠id->i≠id1->i≠id2->H' i=H i)->Wp (g (sl id2 0 (l++[x]).length,H')) Q):Wp ((app id2 E.sz bytes v (sl id1 0 1) (H.set id1 (some (.row (E.cells x) E.sz true)))).bind g) Q:=by
 obtain⟨H',e1,e2,e3⟩:=app_one (id2:=id2) (bytes:=bytes) x h h1 hb hl
 rw[e1];exact k H' e2 e3
theorem Wp.appL {α:Type}{E:Enc α}{id id2 n bytes:Nat}{H:Hp}{v x:Value}{l m:List α}{β:Type}{g:Value × Hp->Option β}{Q:β->Prop}(h:At E id H v l)(hx:Li E n H x m)(hb:1<=bytes)(hl:(2 * (l.length+m.length)+1024) * bytes<=281474976710656)
  (k:∀ v' H',At E id2 H' v' (l++m)->(∀ i,i≠id->i≠id2->H' i=H i)->Wp (g (v',H')) Q):Wp ((app id2 E.sz bytes v x H).bind g) Q:=by
 obtain⟨v',H',e1,e2,e3⟩:=app_at (id2:=id2) (bytes:=bytes) h (src_lst hx) hb hl
 rw[e1];exact k v' H' e2 e3
theorem At.of {α:Type}{E:Enc α}{id:Nat}{H:Hp}{l:List α}{k:Nat}(hk:k=l.length)(h:H id=some (.row (l.flatMap E.cells) E.sz true)):At E id H (sl id 0 k) l:=.inr ⟨by rw[hk],h⟩
theorem At.new {α:Type}{E:Enc α}{id lo n:Nat}{H:Hp}{v:Value}{l:List α}(h:At E id H v l)(h1:lo<=id)(h2:id < n):New E lo n H v l:=⟨id,h1,h2,h⟩
theorem wn {j:Nat}(h:j<=9000000000000000000):IntKind.i64.wrap ((j:Int)+1)=((j+1:Nat):Int):=by rw[Wo (by omega)];omega
theorem ws {a b:Int}(h : -9223372036854775808<=a - b/\a - b<=9223372036854775807):IntKind.i64.wrap (a - b)=a - b:=Wo h
theorem st_el1 {α:Type}{E:Enc α}{id:Nat}{H:Hp}{l:List α}(h:H id=some (.row (l.flatMap E.cells) E.sz true)){j:Nat}(hj:j < l.length){y:α}{c:Value}(hc:E.cells y=[c])(h1:cell1 c=true)(hz:E.sz=1):st false 1 (ptr id j) c H=some (H.set id (some (.row ((l.set j y).flatMap E.cells) E.sz true))):=by
 rw[st_c h1,← hc]
 have:=st_el h hj y
 rw[hz,Nat.mul_one]at this
 rw[hz]
 exact this
theorem idx_sl {sz id m:Nat}{k:IntKind}{j:Nat}(h:j < m):Zo sz (sl id 0 m) (.int k j)=some (ptr id (j * sz)):=by simp[Zo,h]
theorem idx_sli {sz id m:Nat}{k:IntKind}{i:Int}(h0:0<=i)(h:i < m):Zo sz (sl id 0 m) (.int k i)=some (ptr id (i.toNat * sz)):=by simp[Zo,h,h0]
theorem Uc {α:Type}(E:Enc α)(l:List α){id cnt:Nat}{zero:List Value}{parts:List (Nat × Nat × Value)}{H:Hp}{β:Type}{g:Value × Hp->Option β}{Q:β->Prop}(hz:cnt * E.sz<=16777216/\zero.length=E.sz)(hc:cnt=l.length)(hf:fill (List.replicate cnt zero).flatten parts=some (l.flatMap E.cells))
  (k:Wp (g (sl id 0 l.length,H.set id (some (.row (l.flatMap E.cells) E.sz true)))) Q):Wp ((Xx id E.sz cnt zero parts H).bind g) Q:=by
 have h:=(bsl_new E (id:=id) (H:=H) l hz hc hf).1
 rw[h]
 subst hc
 exact k
end Go.Proofs.YtcffcnipmgkjfaaGreat.Ax
namespace Go.Proofs.YtcffcnipmgkjfaaGreat.Ax
open Go
section
variable {a b c d e f g h i j k l:Prop}
theorem Zu (x:a)(y:b):a/\b:=⟨x,y⟩
theorem Ye (x:a)(y:b)(z:c):a/\b/\c:=⟨x,y,z⟩
theorem Yv (x:a)(y:b)(z:c)(u:d):a/\b/\c/\d:=⟨x,y,z,u⟩
theorem Xm (x:a)(y:b)(z:c)(u:d)(v:e):a/\b/\c/\d/\e:=⟨x,y,z,u,v⟩
theorem Xq (x:a)(y:b)(z:c)(u:d)(v:e)(w:f):a/\b/\c/\d/\e/\f:=⟨x,y,z,u,v,w⟩
theorem Wt (x:a)(y:b)(z:c)(u:d)(v:e)(w:f)(p:g):a/\b/\c/\d/\e/\f/\g:=⟨x,y,z,u,v,w,p⟩
theorem Yj (x:a)(y:b)(z:c)(u:d)(v:e)(w:f)(p:g)(q:h):a/\b/\c/\d/\e/\f/\g/\h:=⟨x,y,z,u,v,w,p,q⟩
end
theorem Mm {F G:Prop}(f:F)(h:F->G:=by intro f;intros;first|with_reducible rfl|simp(disch:=omega) only[Zf,Ze,f]):G:=h f
theorem Mo {G:Prop}(h:G:=by intros;first|with_reducible rfl|simp(disch:=omega) only[Zf,Ze]):G:=h
theorem Om {G:Prop}(h:G:=by omega):G:=h
theorem So {G:Prop}(h:G:=by simp only;omega):G:=h
theorem Po {G:Prop}(h:G:=by simp[Zn]):G:=h
theorem Pp {F G:Prop}(f:F)(h:F->G:=by intro f;simp[Zn,f]):G:=h f
theorem Pa {G:Prop}(h:G:=by simp[Zn,Zz]):G:=h
section
variable {α:Type}{x y:Option α}{Q R:α->Prop}{F:Prop}
theorem W1 (f:F)(k:Wp y R)(h:F->Wp y R->Wp x Q:=by
  intro f k
  (repeat(first
   | ((with_reducible first|apply Wp.gs|apply Wp.cs|apply Wp.cselX|apply Wp.askT|apply Wp.iteKT|apply Wp.ikb|apply Wp.askb|apply Wp.step);case h=>((try simp(disch:=omega) only[↓reduceIte,Zr,↓X0,X1,Nat.reduceEqDiff,Int.reduceEq,Nat.reduceAdd,Nat.reduceSub,X2,Zf,Nat.reduceLeDiff,eq_self.{1},f]);with_reducible first|done|exact rfl|exact bT|exact bF))
   | apply Wp.andS
   | apply Wp.orS
   | with_reducible apply Wp.gu
   | simp only[↓X3]
   | simp(disch:=decide) only[asks_nil,asks_in,asks_out,askB_nil,askB_in,askB_out]
   | with_reducible apply Wp.assoc))
  (try(with_reducible apply Wp.cargs;case h=>((try simp(disch:=omega) only[X1,Nat.reduceEqDiff,eq_self.{1},f]);with_reducible exact rfl)))
  exact k):Wp x Q:=h f k
theorem W0 (f:F)(k:Wp y R)(h:F->Wp y R->Wp x Q:=by
  intro f k
  (repeat(first
   | ((with_reducible first|apply Wp.gs|apply Wp.cs|apply Wp.cselX|apply Wp.askT|apply Wp.iteKT|apply Wp.ikb|apply Wp.askb|apply Wp.step);case h=>((try simp(disch:=omega) only[↓reduceIte,Zr,↓X0,X1,Nat.reduceEqDiff,Int.reduceEq,Nat.reduceAdd,Nat.reduceSub,Nat.reduceLeDiff,eq_self.{1},f]);with_reducible first|done|exact rfl|exact bT|exact bF))
   | apply Wp.andS
   | apply Wp.orS
   | with_reducible apply Wp.gu
   | simp only[↓X3]
   | simp(disch:=decide) only[asks_nil,asks_in,asks_out,askB_nil,askB_in,askB_out]
   | with_reducible apply Wp.assoc))
  (try(with_reducible apply Wp.cargs;case h=>((try simp(disch:=omega) only[X1,Nat.reduceEqDiff,eq_self.{1},f]);with_reducible exact rfl)))
  exact k):Wp x Q:=h f k
theorem V1 (f:F)(k:Wp y R)(h:F->Wp y R->Wp x Q:=by
  intro f k
  (repeat(first
   | (with_reducible apply Wp.step;case h=>((try simp(disch:=omega) only[↓reduceIte,Zr,↓X0,X1,Nat.reduceEqDiff,Int.reduceEq,Nat.reduceAdd,Nat.reduceSub,X2,Zf,Nat.reduceLeDiff,eq_self.{1},f]);with_reducible exact rfl))
   | apply Wp.andS
   | apply Wp.orS
   | ((with_reducible first|apply Wp.gs|apply Wp.cs|apply Wp.cselX|apply Wp.askT|apply Wp.iteKT|apply Wp.ikb|apply Wp.askb);case h=>((try simp(disch:=omega) only[↓reduceIte,Zr,↓X0,X1,Nat.reduceEqDiff,Int.reduceEq,Nat.reduceAdd,Nat.reduceSub,X2,Zf,Nat.reduceLeDiff,eq_self.{1},f]);with_reducible first|done|exact bT|exact bF))
   | with_reducible apply Wp.gu
   | simp only[↓X3]
   | simp(disch:=decide) only[asks_nil,asks_in,asks_out,askB_nil,askB_in,askB_out]
   | with_reducible apply Wp.assoc))
  (try(with_reducible apply Wp.cargs;case h=>((try simp(disch:=omega) only[X1,Nat.reduceEqDiff,eq_self.{1},f]);with_reducible exact rfl)))
  exact k):Wp x Q:=h f k
theorem V0 (f:F)(k:Wp y R)(h:F->Wp y R->Wp x Q:=by
  intro f k
  (repeat(first
   | (with_reducible apply Wp.step;case h=>((try simp(disch:=omega) only[↓reduceIte,Zr,↓X0,X1,Nat.reduceEqDiff,Int.reduceEq,Nat.reduceAdd,Nat.reduceSub,Nat.reduceLeDiff,eq_self.{1},f]);with_reducible exact rfl))
   | apply Wp.andS
   | apply Wp.orS
   | ((with_reducible first|apply Wp.gs|apply Wp.cs|apply Wp.cselX|apply Wp.askT|apply Wp.iteKT|apply Wp.ikb|apply Wp.askb);case h=>((try simp(disch:=omega) only[↓reduceIte,Zr,↓X0,X1,Nat.reduceEqDiff,Int.reduceEq,Nat.reduceAdd,Nat.reduceSub,Nat.reduceLeDiff,eq_self.{1},f]);with_reducible first|done|exact bT|exact bF))
   | with_reducible apply Wp.gu
   | simp only[↓X3]
   | simp(disch:=decide) only[asks_nil,asks_in,asks_out,askB_nil,askB_in,askB_out]
   | with_reducible apply Wp.assoc))
  (try(with_reducible apply Wp.cargs;case h=>((try simp(disch:=omega) only[X1,Nat.reduceEqDiff,eq_self.{1},f]);with_reducible exact rfl)))
  exact k):Wp x Q:=h f k
end
end Go.Proofs.YtcffcnipmgkjfaaGreat.Ax
