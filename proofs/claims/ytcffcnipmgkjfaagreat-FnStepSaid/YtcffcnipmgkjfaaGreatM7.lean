/- What the law needs: laws of the abstract machine, and contracts of functions. -/
import Derived.Test.YtcffcnipmgkjfaaGreatM2
import Derived.Test.YtcffcnipmgkjfaaGreatM6
import Derived.Test.YtcffcnipmgkjfaaGreatM3
import Derived.Test.YtcffcnipmgkjfaaGreatM5
import Derived.Test.YtcffcnipmgkjfaaGreatM1
import Derived.Test.YtcffcnipmgkjfaaGreatSh
set_option linter.unusedVariables false
set_option linter.unusedSimpArgs false
set_option maxHeartbeats 8000000
namespace Go.Proofs.YtcffcnipmgkjfaaGreat.Ax
open Go
def DfOk (m:Int)(ld:List Df)(j:Nat):Prop:=Yd (gi ld (j:Int)).s=true/\Xb ld (gi ld (j:Int)).s=j/\(0<=(gi ld (j:Int)).at_/\(gi ld (j:Int)).at_<=m - 1)/\(0<=(gi ld (j:Int)).args/\(gi ld (j:Int)).args<=4)
instance (m:Int) (ld:List Df) (j:Nat):Decidable (DfOk m ld j):=by unfold DfOk; infer_instance
def InsAll (k:Int)(li:List Ins):Prop:=∀ j:Nat,j < li.length->InsOk (gi li (j:Int)) k li.length j
def DfAll (m:Int)(ld:List Df):Prop:=∀ j:Nat,j < ld.length->DfOk m ld j
instance (k:Int) (li:List Ins):Decidable (InsAll k li):=by unfold InsAll; infer_instance
instance (m:Int) (ld:List Df):Decidable (DfAll m ld):=by unfold DfAll; infer_instance
def Xd (l:List Nd)(li:List Ins)(ld:List Df):Prop:=PoolOk l/\li.length<=400/\ld.length<=20/\InsAll l.length li/\DfAll li.length ld
instance (l:List Nd) (li:List Ins) (ld:List Df):Decidable (Xd l li ld):=by unfold Xd; infer_instance
section
variable {n0 b:Nat}{H0:Hp}{v vl vd:Value}{l:List Nd}{li:List Ins}{ld:List Df}
theorem l039 (hb:H0 b=some (.row [v,vl,vd] 0 true)) (hbn:b < n0)(hv:Li eNode n0 H0 v l)(hl:l.length<=1048576)(hvl:Li eIns n0 H0 vl li)(hli:li.length<=400)(hsz:∀ x∈li,x.s.size<=1048576):∀ t H n,n0<=n->(∀ i,i < n0->H i=H0 i)->t 1=ptr b 0->t 24=.int .i64 li.length->t 25=.int .i64 0 ->
  Wp (Zm (S39L0 (Call Tryz.prog) Zm) t H n) (fun o=>n<=o.n/\(∀ i,i < n0->o.H i=H0 i)/\((o.e=.exit 0/\o.t 1=ptr b 0/\InsAll l.length li)∨(o.e=.ret/\o.t 2=.bool false/\¬ InsAll l.length li))):=by
 intro t H n hn0 s0 e1 e24 e25
 refine Zt (fun d T H' n'=>∃ j:Nat,j+d=li.length/\n<=n'/\(∀ i,i < n0->H' i=H0 i)/\T 1=ptr b 0/\T 24=.int .i64 li.length/\T 25=.int .i64 j/\∀ q:Nat,q < j->InsOk (gi li (q:Int)) l.length li.length q) _ ?_ li.length t H n ⟨0,by omega,by omega,s0,e1,e24,e25,fun q hq=>by omega⟩
 rintro d T H' n' ⟨j,hj,hn,s1,e1,e24,e25,hall⟩
 unfold S39L0
 by_cases hlt:j < li.length
 ·have hlti:(j:Int) < li.length:=by omega
  have hw:=wj (j:=j) (len:=li.length) hlt Om
  have hb':H' b=some (.row [v,vl,vd] 0 true):=by rw[s1 b hbn];exact hb
  refine W1 (Xm e1 e24 e25 hlti hb') ?_
  refine Zv (k74 (hv.mv Om (Mm s1)) hl (hvl.mv Om (Mm s1)) hli hsz hlt) ?_
  intro H1 n1 q1 s2
  by_cases hok:InsOk (gi li (j:Int)) l.length li.length j
  ·refine W1 (Ye e25 hok hw) ?_
   refine Wp.pure (Nxt.go (d - 1) Om ⟨j+1,by omega,by omega,(Mm (Zu s2 s1)),Pp e1,Pp e24,Po,fun q hq=>?_⟩)
   by_cases hqj:q=j
   ·subst hqj;exact hok
   ·exact hall q Om
  ·refine W1 (Ye e25 hok hw) ?_
   exact Wp.pure (Nxt.ret ⟨So,(Mm (Zu s2 s1)),.inr ⟨rfl,Po,fun h=>hok (h j hlt)⟩⟩)
 ·have hlti:¬ (j:Int) < li.length:=by omega
  refine W0 (Ye e24 e25 hlti) ?_
  exact Wp.pure (Nxt.exit ⟨So,s1,.inl ⟨rfl,Pp e1,fun q hq=>hall q Om⟩⟩)
theorem l044 (hb:H0 b=some (.row [v,vl,vd] 0 true)) (hbn:b < n0)(hv:Li eNode n0 H0 v l)(hl:l.length<=1048576)(hvl:Li eIns n0 H0 vl li)(hli:li.length<=400)(hsz:∀ x∈li,x.s.size<=1048576):∀ t H n,n0<=n->(∀ i,i < n0->H i=H0 i)->t 1=ptr b 0->t 3=.int .i64 0 ->
  Wp (Zm (S44L0 (Call Tryz.prog) Zm) t H n) (fun o=>n<=o.n/\(∀ i,i < n0->o.H i=H0 i)/\((o.e=.exit 0/\o.t 1=ptr b 0/\InsAll l.length li)∨(o.e=.ret/\o.t 2=.bool false/\¬ InsAll l.length li))):=by
 intro t H n hn0 s0 e1 e3
 refine Zt (fun d T H' n'=>∃ j:Nat,j+d=li.length/\n<=n'/\(∀ i,i < n0->H' i=H0 i)/\T 1=ptr b 0/\T 3=.int .i64 j/\∀ q:Nat,q < j->InsOk (gi li (q:Int)) l.length li.length q) _ ?_ li.length t H n ⟨0,by omega,by omega,s0,e1,e3,fun q hq=>by omega⟩
 rintro d T H' n' ⟨j,hj,hn,s1,e1,e3,hall⟩
 unfold S44L0
 have hb':H' b=some (.row [v,vl,vd] 0 true):=by rw[s1 b hbn];exact hb
 have hlen:=hvl.len
 by_cases hlt:j < li.length
 ·have hlti:(j:Int) < li.length:=by omega
  have hw:=wj (j:=j) (len:=li.length) hlt Om
  refine W1 (Xm e1 e3 hlti hb' hlen) ?_
  refine Zv (k78 (hv.mv Om (Mm s1)) hl (hvl.mv Om (Mm s1)) hli hsz hlt) ?_
  intro H1 n1 q1 s2
  by_cases hok:InsOk (gi li (j:Int)) l.length li.length j
  ·refine W1 (Ye e3 hok hw) ?_
   refine Wp.pure (Nxt.go (d - 1) Om ⟨j+1,by omega,by omega,(Mm (Zu s2 s1)),Pp e1,Po,fun q hq=>?_⟩)
   by_cases hqj:q=j
   ·subst hqj;exact hok
   ·exact hall q Om
  ·refine W1 (Ye e3 hok hw) ?_
   exact Wp.pure (Nxt.ret ⟨So,(Mm (Zu s2 s1)),.inr ⟨rfl,Po,fun h=>hok (h j hlt)⟩⟩)
 ·have hlti:¬ (j:Int) < li.length:=by omega
  refine W1 (Xm e1 e3 hlti hb' hlen) ?_
  exact Wp.pure (Nxt.exit ⟨So,s1,.inl ⟨rfl,Pp e1,fun q hq=>hall q Om⟩⟩)
theorem lb39 (hb:H0 b=some (.row [v,vl,vd] 0 true)) (hbn:b < n0)(hvl:Li eIns n0 H0 vl li)(hli:li.length<=400)(hvd:Li eDef n0 H0 vd ld)(hld:ld.length<=20)(hsz:∀ x∈ld,x.s.size<=1048576):∀ t H n,n0<=n->(∀ i,i < n0->H i=H0 i)->t 1=ptr b 0->t 34=vd->t 35=.int .i64 ld.length->t 36=.int .i64 0 ->
  Wp (Zm (S39L1 (Call Tryz.prog) Zm) t H n) (fun o=>n<=o.n/\(∀ i,i < n0->o.H i=H0 i)/\((o.e=.exit 2/\DfAll li.length ld)∨(o.e=.ret/\o.t 2=.bool false/\¬ DfAll li.length ld))):=by
 intro t H n hn0 s0 e1 e34 e35 e36
 refine Zt (fun d T H' n'=>∃ j:Nat,j+d=ld.length/\n<=n'/\(∀ i,i < n0->H' i=H0 i)/\T 1=ptr b 0/\T 34=vd/\T 35=.int .i64 ld.length/\T 36=.int .i64 j/\∀ q:Nat,q < j->DfOk li.length ld q) _ ?_ ld.length t H n ⟨0,by omega,by omega,s0,e1,e34,e35,e36,fun q hq=>by omega⟩
 rintro d T H' n' ⟨j,hj,hn,s1,e1,e34,e35,e36,hall⟩
 unfold S39L1
 have hb':H' b=some (.row [v,vl,vd] 0 true):=by rw[s1 b hbn];exact hb
 by_cases hlt:j < ld.length
 ·have hlti:(j:Int) < ld.length:=by omega
  have hw:=wj (j:=j) (len:=ld.length) hlt Om
  have hw2:IntKind.i64.wrap ((li.length:Int) - 1)=(li.length:Int) - 1:=Wo Om
  have g:=(hvd.mv (Nat.le_refl _) s1).dAll (i:=(j:Int)) Om hlti
  have hx:=hsz _ (Yb (l:=ld) (i:=(j:Int)) Om hlti)
  have hiff:DfOk li.length ld j↔(Yd (gi ld (j:Int)).s=true/\Xb ld (gi ld (j:Int)).s=j/\(0<=(gi ld (j:Int)).at_/\(gi ld (j:Int)).at_<=(li.length:Int) - 1)/\(0<=(gi ld (j:Int)).args/\(gi ld (j:Int)).args<=4)):=Iff.rfl
  generalize gi ld (j:Int)=x at g hx hiff
  obtain⟨xs,xa,xr⟩:=x
  simp only[Df.cells]at g hx hiff
  refine W1 (Wt e1 e34 e35 e36 hlti hb' g) ?_
  refine Zv (rNameOk xs hx _ _) ?_
  intro H1 n1 q1 s2
  have hret:∀ (T':Tm) (H2:Hp) (n2:Nat),n<=n2->(∀ i,i < n0->H2 i=H0 i)->T' 2=.bool false->¬ DfOk li.length ld j->Wp (some (⟨.ret,T',H2,n2⟩:Out)) (Nxt (fun d T H' n'=>∃ j:Nat,j+d=ld.length/\n<=n'/\(∀ i,i < n0->H' i=H0 i)/\T 1=ptr b 0/\T 34=vd/\T 35=.int .i64 ld.length/\T 36=.int .i64 j/\∀ q:Nat,q < j->DfOk li.length ld q) d (fun o=>n<=o.n/\(∀ i,i < n0->o.H i=H0 i)/\((o.e=.exit 2/\DfAll li.length ld)∨(o.e=.ret/\o.t 2=.bool false/\¬ DfAll li.length ld)))) :=
   fun T' H2 n2 a1 a2 a3 a4=>Wp.pure (Nxt.ret ⟨a1,a2,.inr ⟨rfl,a3,fun h=>a4 (h j hlt)⟩⟩)
  by_cases c1:Yd xs=true
  case neg=>
   have c1':Yd xs=false:=by simpa using c1
   refine W1 (Zu c1' s2) ?_
   exact hret _ _ _ Om ((Mm (Zu s2 s1))) Po (fun h=>c1 (hiff.1 h).1)
  refine W1 (Xq c1 s2 e1 e36 hb' s1) ?_
  refine Zv (k76 ((hvd.mv Om (Mm (Zu s2 s1)))) Om xs) ?_
  intro H3 n3 q3 s3
  by_cases c2:Xb ld xs=(j:Int)
  case neg=>
   refine W1 (Xm c2 s2 s3 e1 e36) ?_
   exact hret _ _ _ Om ((Mm (Ye s3 s2 s1))) Po (fun h=>c2 (hiff.1 h).2.1)
  by_cases c3:0<=xa/\xa<=(li.length:Int) - 1
  case neg=>
   refine W1 (Yj c2 s2 s3 e1 e36 hb' hvl.len (Ye hw2 @k43 c3)) ?_
   exact hret _ _ _ Om ((Mm (Ye s3 s2 s1))) Po (fun h=>c3 (hiff.1 h).2.2.1)
  by_cases c4:0<=xr/\xr<=4
  case neg=>
   refine W1 (Yj c2 s2 s3 e1 e36 hb' hvl.len (Xm hw2 @k43 c3 c4 @and_self)) ?_
   exact hret _ _ _ Om ((Mm (Ye s3 s2 s1))) Po (fun h=>c4 (hiff.1 h).2.2.2)
  refine W1 (Yj c2 s2 s3 e1 e36 hb' hvl.len (Xq hw2 @k43 c3 c4 @and_self hw)) ?_
  refine Wp.pure (Nxt.go (d - 1) Om ⟨j+1,by omega,by omega,(Mm (Ye s3 s2 s1)),Pp e1,Pp e34,Pp e35,Po,fun q hq=>?_⟩)
  by_cases hqj:q=j
  ·subst hqj;exact hiff.2 ⟨c1,c2,c3,c4⟩
  ·exact hall q Om
 ·have hlti:¬ (j:Int) < ld.length:=by omega
  refine W1 (Ye e35 e36 hlti) ?_
  exact Wp.pure (Nxt.exit ⟨So,s1,.inl ⟨rfl,fun q hq=>hall q Om⟩⟩)
theorem lb44 (hb:H0 b=some (.row [v,vl,vd] 0 true)) (hbn:b < n0)(hvl:Li eIns n0 H0 vl li)(hli:li.length<=400)(hvd:Li eDef n0 H0 vd ld)(hld:ld.length<=20)(hsz:∀ x∈ld,x.s.size<=1048576):∀ t H n,n0<=n->(∀ i,i < n0->H i=H0 i)->t 1=ptr b 0->t 4=.int .i64 0 ->
  Wp (Zm (S44L1 (Call Tryz.prog) Zm) t H n) (fun o=>n<=o.n/\(∀ i,i < n0->o.H i=H0 i)/\((o.e=.exit 2/\DfAll li.length ld)∨(o.e=.ret/\o.t 2=.bool false/\¬ DfAll li.length ld))):=by
 intro t H n hn0 s0 e1 e4
 refine Zt (fun d T H' n'=>∃ j:Nat,j+d=ld.length/\n<=n'/\(∀ i,i < n0->H' i=H0 i)/\T 1=ptr b 0/\T 4=.int .i64 j/\∀ q:Nat,q < j->DfOk li.length ld q) _ ?_ ld.length t H n ⟨0,by omega,by omega,s0,e1,e4,fun q hq=>by omega⟩
 rintro d T H' n' ⟨j,hj,hn,s1,e1,e4,hall⟩
 unfold S44L1
 have hb':H' b=some (.row [v,vl,vd] 0 true):=by rw[s1 b hbn];exact hb
 have hlen:=(hvd.mv (Nat.le_refl _) s1).len
 by_cases hlt:j < ld.length
 ·have hlti:(j:Int) < ld.length:=by omega
  have hw:=wj (j:=j) (len:=ld.length) hlt Om
  have hw2:IntKind.i64.wrap ((li.length:Int) - 1)=(li.length:Int) - 1:=Wo Om
  have g:=(hvd.mv (Nat.le_refl _) s1).dAll (i:=(j:Int)) Om hlti
  have hx:=hsz _ (Yb (l:=ld) (i:=(j:Int)) Om hlti)
  have hiff:DfOk li.length ld j↔(Yd (gi ld (j:Int)).s=true/\Xb ld (gi ld (j:Int)).s=j/\(0<=(gi ld (j:Int)).at_/\(gi ld (j:Int)).at_<=(li.length:Int) - 1)/\(0<=(gi ld (j:Int)).args/\(gi ld (j:Int)).args<=4)):=Iff.rfl
  generalize gi ld (j:Int)=x at g hx hiff
  obtain⟨xs,xa,xr⟩:=x
  simp only[Df.cells]at g hx hiff
  refine W1 (Xq hlen e1 e4 hlti hb' g) ?_
  refine Zv (sNameOk xs hx _ _) ?_
  intro H1 n1 q1 s2
  have hret:∀ (T':Tm) (H2:Hp) (n2:Nat),n<=n2->(∀ i,i < n0->H2 i=H0 i)->T' 2=.bool false->¬ DfOk li.length ld j->Wp (some (⟨.ret,T',H2,n2⟩:Out)) (Nxt (fun d T H' n'=>∃ j:Nat,j+d=ld.length/\n<=n'/\(∀ i,i < n0->H' i=H0 i)/\T 1=ptr b 0/\T 4=.int .i64 j/\∀ q:Nat,q < j->DfOk li.length ld q) d (fun o=>n<=o.n/\(∀ i,i < n0->o.H i=H0 i)/\((o.e=.exit 2/\DfAll li.length ld)∨(o.e=.ret/\o.t 2=.bool false/\¬ DfAll li.length ld)))) :=
   fun T' H2 n2 a1 a2 a3 a4=>Wp.pure (Nxt.ret ⟨a1,a2,.inr ⟨rfl,a3,fun h=>a4 (h j hlt)⟩⟩)
  by_cases c1:Yd xs=true
  case neg=>
   have c1':Yd xs=false:=by simpa using c1
   refine W1 (Zu c1' s2) ?_
   exact hret _ _ _ Om ((Mm (Zu s2 s1))) Po (fun h=>c1 (hiff.1 h).1)
  refine W1 (Xq c1 s2 e1 e4 hb' s1) ?_
  refine Zv (k80 ((hvd.mv Om (Mm (Zu s2 s1)))) Om xs) ?_
  intro H3 n3 q3 s3
  by_cases c2:Xb ld xs=(j:Int)
  case neg=>
   refine W1 (Xm c2 s2 s3 e1 e4) ?_
   exact hret _ _ _ Om ((Mm (Ye s3 s2 s1))) Po (fun h=>c2 (hiff.1 h).2.1)
  by_cases c3:0<=xa/\xa<=(li.length:Int) - 1
  case neg=>
   refine W1 (Yj c2 s2 s3 e1 e4 hb' hvl.len (Ye hw2 @k47 c3)) ?_
   exact hret _ _ _ Om ((Mm (Ye s3 s2 s1))) Po (fun h=>c3 (hiff.1 h).2.2.1)
  by_cases c4:0<=xr/\xr<=4
  case neg=>
   refine W1 (Yj c2 s2 s3 e1 e4 hb' hvl.len (Xm hw2 @k47 c3 c4 @and_self)) ?_
   exact hret _ _ _ Om ((Mm (Ye s3 s2 s1))) Po (fun h=>c4 (hiff.1 h).2.2.2)
  refine W1 (Yj c2 s2 s3 e1 e4 hb' hvl.len (Xq hw2 @k47 c3 c4 @and_self hw)) ?_
  refine Wp.pure (Nxt.go (d - 1) Om ⟨j+1,by omega,by omega,(Mm (Ye s3 s2 s1)),Pp e1,Po,fun q hq=>?_⟩)
  by_cases hqj:q=j
  ·subst hqj;exact hiff.2 ⟨c1,c2,c3,c4⟩
  ·exact hall q Om
 ·have hlti:¬ (j:Int) < ld.length:=by omega
  refine W1 (Xm hlen e1 e4 hlti hb') ?_
  exact Wp.pure (Nxt.exit ⟨So,s1,.inl ⟨rfl,fun q hq=>hall q Om⟩⟩)
end
theorem k39 {n:Nat}{H:Hp}{v vl vd:Value}{l:List Nd}{li:List Ins}{ld:List Df}(hv:Li eNode n H v l)(hvl:Li eIns n H vl li)(hvd:Li eDef n H vd ld)(hs:∀ x∈l,x.s.size<=1048576)(hsl:∀ x∈li,x.s.size<=1048576)(hsd:∀ x∈ld,x.s.size<=1048576)(hl:l.length<=1048576)(hll:li.length<=1048576)(hld:ld.length<=1048576):Rt Tryz.prog 39 [.agg ⟨[v,vl,vd]⟩] H n (.bool (decide (Xd l li ld))):=by
 apply Rt.mk
 rw[c39];unfold S39
 have fin:∀ (b:Bool) (H':Hp) (n':Nat),n<=n'->(∀ i,i < n->H' i=H i)->b=decide (Xd l li ld)->Wp (some (Value.bool b,H',n')) (fun q=>n<=q.2.2/\(∀ i,i < n->q.2.1 i=H i)/\q.1=.bool (decide (Xd l li ld))):=by
  intro b H' n' h1 h2 h3
  exact Wp.pure ⟨h1,h2,by rw[h3]⟩
 refine W1 trivial ?_
 refine Zv (k40 (hv.mv Om Mo) hs hl) ?_
 intro H1 n1 q1 s1
 by_cases hp:PoolOk l
 case neg=>
  refine W1 (Zu s1 hp) ?_
  exact fin _ _ _ Om ((Mm s1)) (decide_eq_false (fun h=>hp h.1)).symm
 by_cases c1:(400:Int) < li.length
 case pos=>
  refine W1 (Yv s1 hp hvl.len c1) ?_
  exact fin _ _ _ Om ((Mm s1)) (decide_eq_false (fun h=>absurd h.2.1 Om)).symm
 by_cases c2:(20:Int) < ld.length
 case pos=>
  refine W1 (Xq s1 hp hvl.len c1 hvd.len c2) ?_
  exact fin _ _ _ Om ((Mm s1)) (decide_eq_false (fun h=>absurd h.2.2.1 Om)).symm
 have hb1:H1 n=some (.row [v,vl,vd] 0 true):=by simp(disch:=omega) only[s1,Ze]
 refine W1 (Xq s1 hp hvl.len c1 hvd.len c2) ?_
 refine Wp.bind (l039 (n0:=n+1) (H0:=H1) hb1 Om (hv.mv Om (Mm s1)) hl (hvl.mv Om (Mm s1)) Om hsl _ _ _ Om (fun _ _=>rfl) Po Po Po) ?_
 rintro⟨oe,ot,oH,on⟩ ⟨f1,f2,f3⟩
 simp only at f1 f2 f3
 rcases f3 with⟨rfl,f4,f5⟩|⟨rfl,f4,f5⟩
 case inr=>
  simp(disch:=omega)only[↓reduceIte,Zr,↓X0,X1,Nat.reduceEqDiff,Int.reduceEq,Nat.reduceAdd,Nat.reduceSub,f4]
  exact fin _ _ _ Om ((Mm (Zu f2 s1))) (decide_eq_false (fun h=>f5 h.2.2.2.1)).symm
 have hb2:oH n=some (.row [v,vl,vd] 0 true):=by rw[f2 n Om];exact hb1
 have hvd2:Li eDef (n+1) H1 vd ld:=hvd.mv Om (Mm s1)
 refine W1 (Ye f4 hb2 hvd.len) ?_
 refine Wp.bind (lb39 (n0:=n+1) (H0:=H1) hb1 Om (hvl.mv Om (Mm s1)) Om hvd2 Om hsd _ _ _ Om ((Mm f2)) (Pp f4) Po Po Po) ?_
 rintro⟨pe,pt,pH,pn⟩ ⟨g1,g2,g3⟩
 simp only at g1 g2 g3
 rcases g3 with⟨rfl,g5⟩|⟨rfl,g4,g5⟩
 ·refine W0 trivial ?_
  exact fin _ _ _ Om ((Mm (Zu g2 s1))) (decide_eq_true ⟨hp,by omega,by omega,f5,g5⟩).symm
 ·simp(disch:=omega)only[↓reduceIte,Zr,↓X0,X1,Nat.reduceEqDiff,Int.reduceEq,Nat.reduceAdd,Nat.reduceSub,g4]
  exact fin _ _ _ Om ((Mm (Zu g2 s1))) (decide_eq_false (fun h=>g5 h.2.2.2.2)).symm
theorem k44 {n:Nat}{H:Hp}{v vl vd:Value}{l:List Nd}{li:List Ins}{ld:List Df}(hv:Li eNode n H v l)(hvl:Li eIns n H vl li)(hvd:Li eDef n H vd ld)(hs:∀ x∈l,x.s.size<=1048576)(hsl:∀ x∈li,x.s.size<=1048576)(hsd:∀ x∈ld,x.s.size<=1048576)(hl:l.length<=1048576)(hll:li.length<=1048576)(hld:ld.length<=1048576):Rt Tryz.prog 44 [.agg ⟨[v,vl,vd]⟩] H n (.bool (decide (Xd l li ld))):=by
 apply Rt.mk
 rw[c44];unfold S44
 have fin:∀ (b:Bool) (H':Hp) (n':Nat),n<=n'->(∀ i,i < n->H' i=H i)->b=decide (Xd l li ld)->Wp (some (Value.bool b,H',n')) (fun q=>n<=q.2.2/\(∀ i,i < n->q.2.1 i=H i)/\q.1=.bool (decide (Xd l li ld))):=by
  intro b H' n' h1 h2 h3
  exact Wp.pure ⟨h1,h2,by rw[h3]⟩
 refine W1 trivial ?_
 refine Zv (k45 (hv.mv Om Mo) hs hl) ?_
 intro H1 n1 q1 s1
 by_cases hp:PoolOk l
 case neg=>
  refine W1 (Zu s1 hp) ?_
  exact fin _ _ _ Om ((Mm s1)) (decide_eq_false (fun h=>hp h.1)).symm
 by_cases c1:(400:Int) < li.length
 case pos=>
  refine W1 (Yv s1 hp hvl.len c1) ?_
  exact fin _ _ _ Om ((Mm s1)) (decide_eq_false (fun h=>absurd h.2.1 Om)).symm
 by_cases c2:(20:Int) < ld.length
 case pos=>
  refine W1 (Xq s1 hp hvl.len c1 hvd.len c2) ?_
  exact fin _ _ _ Om ((Mm s1)) (decide_eq_false (fun h=>absurd h.2.2.1 Om)).symm
 have hb1:H1 n=some (.row [v,vl,vd] 0 true):=by simp(disch:=omega) only[s1,Ze]
 refine W1 (Xq s1 hp hvl.len c1 hvd.len c2) ?_
 refine Wp.bind (l044 (n0:=n+1) (H0:=H1) hb1 Om (hv.mv Om (Mm s1)) hl (hvl.mv Om (Mm s1)) Om hsl _ _ _ Om (fun _ _=>rfl) Po Po) ?_
 rintro⟨oe,ot,oH,on⟩ ⟨f1,f2,f3⟩
 simp only at f1 f2 f3
 rcases f3 with⟨rfl,f4,f5⟩|⟨rfl,f4,f5⟩
 case inr=>
  simp(disch:=omega)only[↓reduceIte,Zr,↓X0,X1,Nat.reduceEqDiff,Int.reduceEq,Nat.reduceAdd,Nat.reduceSub,f4]
  exact fin _ _ _ Om ((Mm (Zu f2 s1))) (decide_eq_false (fun h=>f5 h.2.2.2.1)).symm
 have hb2:oH n=some (.row [v,vl,vd] 0 true):=by rw[f2 n Om];exact hb1
 have hvd2:Li eDef (n+1) H1 vd ld:=hvd.mv Om (Mm s1)
 refine W1 (Ye f4 hb2 hvd.len) ?_
 refine Wp.bind (lb44 (n0:=n+1) (H0:=H1) hb1 Om (hvl.mv Om (Mm s1)) Om hvd2 Om hsd _ _ _ Om ((Mm f2)) (Pp f4) Po) ?_
 rintro⟨pe,pt,pH,pn⟩ ⟨g1,g2,g3⟩
 simp only at g1 g2 g3
 rcases g3 with⟨rfl,g5⟩|⟨rfl,g4,g5⟩
 ·refine W0 trivial ?_
  exact fin _ _ _ Om ((Mm (Zu g2 s1))) (decide_eq_true ⟨hp,by omega,by omega,f5,g5⟩).symm
 ·simp(disch:=omega)only[↓reduceIte,Zr,↓X0,X1,Nat.reduceEqDiff,Int.reduceEq,Nat.reduceAdd,Nat.reduceSub,g4]
  exact fin _ _ _ Om ((Mm (Zu g2 s1))) (decide_eq_false (fun h=>g5 h.2.2.2.2)).symm
def MachOk (l:List Nd)(li:List Ins)(ld:List Df)(m:List Nd)(a s e d t k r:Int):Prop :=
  Xd l li ld/\PoolOk m/\(0<=s/\s < m.length)/\(0<=e/\e < m.length)/\(0<=d/\d < m.length) /\
  ((t=0/\(0<=a/\a<=(li.length:Int) - 1)/\k=0/\r=0) ∨
   (t=1/\(0<=a/\a<=(li.length:Int) - 1)/\(13<=k/\k<=19)/\k≠18/\(0<=r/\r < m.length)) ∨
   (t=2/\a=0/\k=0/\(0<=r/\r < m.length)) ∨
   (t=3/\a=0/\(1<=k/\k<=7)/\r=0))
instance (l:List Nd) (li:List Ins) (ld:List Df) (m:List Nd) (a s e d t k r:Int):Decidable (MachOk l li ld m a s e d t k r):=by unfold MachOk; infer_instance
theorem k42 {n:Nat}{H:Hp}{v vl vd:Value}{li:List Ins}(hvl:Li eIns n H vl li)(hll:li.length<=1048576)(a:Int):Rt Tryz.prog 42 [.agg ⟨[v,vl,vd]⟩,.int .i64 a] H n (.bool (decide (0<=a/\a<=(li.length:Int) - 1))):=by
 apply Rt.mk
 rw[c42];unfold S42
 have hw:IntKind.i64.wrap ((li.length:Int) - 1)=li.length - 1:=Wo Om
 refine W1 (Ye hvl.len hw @k43) ?_
 exact Wp.pure ⟨So,Mo,rfl⟩
theorem k18 {n:Nat}{H:Hp}{v vl vd vm:Value}{l m:List Nd}{li:List Ins}{ld:List Df}(hv:Li eNode n H v l)(hvl:Li eIns n H vl li)(hvd:Li eDef n H vd ld)(hs:∀ x∈l,x.s.size<=1048576)(hsl:∀ x∈li,x.s.size<=1048576)(hsd:∀ x∈ld,x.s.size<=1048576)(hl:l.length<=1048576)(hll:li.length<=1048576)(hld:ld.length<=1048576)(hm:Li eNode n H vm m)(hsm:∀ x∈m,x.s.size<=1048576)(hlm:m.length<=1048576)(a s e d t k r:Int) :
  Rt Tryz.prog 18 [.agg ⟨[v,vl,vd]⟩,.agg ⟨[vm,.int .i64 a,.int .i64 s,.int .i64 e,.int .i64 d,.int .i64 t,.int .i64 k,.int .i64 r]⟩] H n (.bool (decide (MachOk l li ld m a s e d t k r))):=by
 apply Rt.mk
 rw[c18];unfold S18
 have fin:∀ (b:Bool) (H':Hp) (n':Nat),n<=n'->(∀ i,i < n->H' i=H i)->b=decide (MachOk l li ld m a s e d t k r)->Wp (some (Value.bool b,H',n')) (fun q=>n<=q.2.2/\(∀ i,i < n->q.2.1 i=H i)/\q.1=.bool (decide (MachOk l li ld m a s e d t k r))):=by
  intro b H' n' h1 h2 h3
  exact Wp.pure ⟨h1,h2,by rw[h3]⟩
 refine W1 trivial ?_
 refine Zv (k39 (hv.mv Om Mo) (hvl.mv Om Mo) (hvd.mv Om Mo) hs hsl hsd hl hll hld) ?_
 intro H1 n1 q1 s1
 by_cases hc:Xd l li ld
 case neg=>
  refine W1 (Zu s1 hc) ?_
  exact fin _ _ _ Om ((Mm s1)) (decide_eq_false (fun h=>hc h.1)).symm
 refine W1 (Zu s1 hc) ?_
 refine Zv (k40 (hm.mv Om (Mm s1)) hsm hlm) ?_
 intro H2 n2 q2 s2
 by_cases hp:PoolOk m
 case neg=>
  refine W1 (Ye s2 s1 hp) ?_
  exact fin _ _ _ Om ((Mm (Zu s2 s1))) (decide_eq_false (fun h=>hp h.2.1)).symm
 refine W1 (Ye s2 s1 hp) ?_
 refine Zv (k41 (hm.mv Om (Mm (Zu s2 s1))) hlm s) ?_
 intro H3 n3 q3 s3
 by_cases h1:0<=s/\s < (m.length:Int)
 case neg=>
  refine W1 (Yv s3 s2 s1 h1) ?_
  exact fin _ _ _ Om ((Mm (Ye s3 s2 s1))) (decide_eq_false (fun h=>h1 h.2.2.1)).symm
 refine W1 (Xm s3 s2 s1 h1 @and_self) ?_
 refine Zv (k41 (hm.mv Om (Mm (Ye s3 s2 s1))) hlm e) ?_
 intro H4 n4 q4 s4
 by_cases h2:0<=e/\e < (m.length:Int)
 case neg=>
  refine W1 (Xm s4 s3 s2 s1 h2) ?_
  exact fin _ _ _ Om ((Mm (Yv s4 s3 s2 s1))) (decide_eq_false (fun h=>h2 h.2.2.2.1)).symm
 refine W1 (Xq s4 s3 s2 s1 h2 @and_self) ?_
 refine Zv (k41 (hm.mv Om (Mm (Yv s4 s3 s2 s1))) hlm d) ?_
 intro H5 n5 q5 s5
 by_cases h3:0<=d/\d < (m.length:Int)
 case neg=>
  refine W1 (Xq s5 s4 s3 s2 s1 h3) ?_
  exact fin _ _ _ Om ((Mm (Xm s5 s4 s3 s2 s1))) (decide_eq_false (fun h=>h3 h.2.2.2.2.1)).symm
 by_cases t0:t=0
 ·subst t0
  refine W1 (Wt s5 s4 s3 s2 s1 h3 @and_self) ?_
  refine Zv (k42 (hvl.mv Om (Mm (Xm s5 s4 s3 s2 s1))) hll a) ?_
  intro H6 n6 q6 s6
  by_cases c1:0<=a/\a<=(li.length:Int) - 1
  case neg=>
   refine W1 (Wt s6 s5 s4 s3 s2 s1 c1) ?_
   refine fin _ _ _ Om ((Mm (Xq s6 s5 s4 s3 s2 s1))) ?_
   rw[Bool.eq_iff_iff];simp[MachOk,hc,hp,h1,h2,h3];try grind
  by_cases c2:k=0
  case neg=>
   refine W1 (Yj s6 s5 s4 s3 s2 s1 c1 (Zu @and_self c2)) ?_
   refine fin _ _ _ Om ((Mm (Xq s6 s5 s4 s3 s2 s1))) ?_
   rw[Bool.eq_iff_iff];simp[MachOk,hc,hp,h1,h2,h3];try grind
  refine W1 (Yj s6 s5 s4 s3 s2 s1 c1 (Zu @and_self c2)) ?_
  refine fin _ _ _ Om ((Mm (Xq s6 s5 s4 s3 s2 s1))) ?_
  rw[Bool.eq_iff_iff];simp[MachOk,hc,hp,h1,h2,h3];try grind
 by_cases t1:t=1
 ·subst t1
  refine W1 (Wt s5 s4 s3 s2 s1 h3 @and_self) ?_
  refine Zv (k42 (hvl.mv Om (Mm (Xm s5 s4 s3 s2 s1))) hll a) ?_
  intro H6 n6 q6 s6
  by_cases c1:0<=a/\a<=(li.length:Int) - 1
  case neg=>
   refine W1 (Wt s6 s5 s4 s3 s2 s1 c1) ?_
   refine fin _ _ _ Om ((Mm (Xq s6 s5 s4 s3 s2 s1))) ?_
   rw[Bool.eq_iff_iff];simp[MachOk,hc,hp,h1,h2,h3];try grind
  by_cases c2:13<=k/\k<=19
  case neg=>
   refine W1 (Yj s6 s5 s4 s3 s2 s1 c1 (Ye @and_self @k43 c2)) ?_
   refine fin _ _ _ Om ((Mm (Xq s6 s5 s4 s3 s2 s1))) ?_
   rw[Bool.eq_iff_iff];simp[MachOk,hc,hp,h1,h2,h3];try grind
  by_cases c3:k=18
  ·subst c3
   refine W1 (Yj s6 s5 s4 s3 s2 s1 c1 (Ye @and_self @k43 ((show decide ((13:Int)<=18/\(18:Int)<=19)=true from rfl)))) ?_
   refine fin _ _ _ Om ((Mm (Xq s6 s5 s4 s3 s2 s1))) ?_
   rw[Bool.eq_iff_iff];simp[MachOk,hc,hp,h1,h2,h3];try grind
  refine W1 (Yj s6 s5 s4 s3 s2 s1 c1 (Yv @and_self @k43 c2 c3)) ?_
  refine Zv (k41 (hm.mv Om (Mm (Xq s6 s5 s4 s3 s2 s1))) hlm r) ?_
  intro H7 n7 q7 s7
  refine W1 (Wt s7 s6 s5 s4 s3 s2 s1) ?_
  refine fin _ _ _ Om ((Mm (Wt s7 s6 s5 s4 s3 s2 s1))) ?_
  rw[Bool.eq_iff_iff];simp[MachOk,hc,hp,h1,h2,h3,c1,c2,c3];try grind
 by_cases t2:t=2
 ·subst t2
  by_cases c1:a=0
  case neg=>
   refine W1 (Yj s5 s4 s3 s2 s1 h3 @and_self c1) ?_
   refine fin _ _ _ Om ((Mm (Xm s5 s4 s3 s2 s1))) ?_
   rw[Bool.eq_iff_iff];simp[MachOk,hc,hp,h1,h2,h3];try grind
  subst c1
  by_cases c2:k=0
  case neg=>
   refine W1 (Yj s5 s4 s3 s2 s1 h3 @and_self c2) ?_
   refine fin _ _ _ Om ((Mm (Xm s5 s4 s3 s2 s1))) ?_
   rw[Bool.eq_iff_iff];simp[MachOk,hc,hp,h1,h2,h3];try grind
  subst c2
  refine W1 (Wt s5 s4 s3 s2 s1 h3 @and_self) ?_
  refine Zv (k41 (hm.mv Om (Mm (Xm s5 s4 s3 s2 s1))) hlm r) ?_
  intro H7 n7 q7 s7
  refine W1 (Xq s7 s5 s4 s3 s2 s1) ?_
  refine fin _ _ _ Om ((Mm (Xq s7 s5 s4 s3 s2 s1))) ?_
  rw[Bool.eq_iff_iff];simp[MachOk,hc,hp,h1,h2,h3];try grind
 by_cases t3:t=3
 ·subst t3
  by_cases c1:a=0
  case neg=>
   refine W1 (Yj s5 s4 s3 s2 s1 h3 @and_self c1) ?_
   refine fin _ _ _ Om ((Mm (Xm s5 s4 s3 s2 s1))) ?_
   rw[Bool.eq_iff_iff];simp[MachOk,hc,hp,h1,h2,h3];try grind
  subst c1
  by_cases c2:1<=k/\k<=7
  case neg=>
   refine W1 (Yj s5 s4 s3 s2 s1 h3 @and_self (Zu @k43 c2)) ?_
   refine fin _ _ _ Om ((Mm (Xm s5 s4 s3 s2 s1))) ?_
   rw[Bool.eq_iff_iff];simp[MachOk,hc,hp,h1,h2,h3];try grind
  refine W1 (Yj s5 s4 s3 s2 s1 h3 @and_self (Zu @k43 c2)) ?_
  refine fin _ _ _ Om ((Mm (Xm s5 s4 s3 s2 s1))) ?_
  rw[Bool.eq_iff_iff];simp[MachOk,hc,hp,h1,h2,h3];try grind
 refine W1 (Yj s5 s4 s3 s2 s1 h3 @and_self (Yv t0 t1 t2 t3)) ?_
 refine fin _ _ _ Om ((Mm (Xm s5 s4 s3 s2 s1))) ?_
 rw[Bool.eq_iff_iff];simp[MachOk,hc,hp,h1,h2,h3,t0,t1,t2,t3];try grind
theorem k19 {n:Nat}{H:Hp}{v vl vd vm:Value}{l m:List Nd}{li:List Ins}{ld:List Df}(hv:Li eNode n H v l)(hvl:Li eIns n H vl li)(hvd:Li eDef n H vd ld)(hs:∀ x∈l,x.s.size<=1048576)(hsl:∀ x∈li,x.s.size<=1048576)(hsd:∀ x∈ld,x.s.size<=1048576)(hl:l.length<=1048576)(hll:li.length<=1048576)(hld:ld.length<=1048576)(hm:Li eNode n H vm m)(hsm:∀ x∈m,x.s.size<=1048576)(hlm:m.length<=1048576)(a s e d t k r:Int) :
  Rt Tryz.prog 19 [.agg ⟨[v,vl,vd]⟩,.agg ⟨[vm,.int .i64 a,.int .i64 s,.int .i64 e,.int .i64 d,.int .i64 t,.int .i64 k,.int .i64 r]⟩] H n (.bool (decide (MachOk l li ld m a s e d t k r))):=by
 apply Rt.mk
 rw[c19];unfold S19
 have fin:∀ (b:Bool) (H':Hp) (n':Nat),n<=n'->(∀ i,i < n->H' i=H i)->b=decide (MachOk l li ld m a s e d t k r)->Wp (some (Value.bool b,H',n')) (fun q=>n<=q.2.2/\(∀ i,i < n->q.2.1 i=H i)/\q.1=.bool (decide (MachOk l li ld m a s e d t k r))):=by
  intro b H' n' h1 h2 h3
  exact Wp.pure ⟨h1,h2,by rw[h3]⟩
 refine W1 trivial ?_
 refine Zv (k44 (hv.mv Om Mo) (hvl.mv Om Mo) (hvd.mv Om Mo) hs hsl hsd hl hll hld) ?_
 intro H1 n1 q1 s1
 by_cases hc:Xd l li ld
 case neg=>
  refine W1 (Zu s1 hc) ?_
  exact fin _ _ _ Om ((Mm s1)) (decide_eq_false (fun h=>hc h.1)).symm
 refine W1 (Zu s1 hc) ?_
 refine Zv (k45 (hm.mv Om (Mm s1)) hsm hlm) ?_
 intro H2 n2 q2 s2
 by_cases hp:PoolOk m
 case neg=>
  refine W1 (Ye s2 s1 hp) ?_
  exact fin _ _ _ Om ((Mm (Zu s2 s1))) (decide_eq_false (fun h=>hp h.2.1)).symm
 refine W1 (Ye s2 s1 hp) ?_
 refine Zv (k46 (hm.mv Om (Mm (Zu s2 s1))) hlm s) ?_
 intro H3 n3 q3 s3
 by_cases h1:0<=s/\s < (m.length:Int)
 case neg=>
  refine W1 (Yv s3 s2 s1 h1) ?_
  exact fin _ _ _ Om ((Mm (Ye s3 s2 s1))) (decide_eq_false (fun h=>h1 h.2.2.1)).symm
 refine W1 (Xm s3 s2 s1 h1 @and_self) ?_
 refine Zv (k46 (hm.mv Om (Mm (Ye s3 s2 s1))) hlm e) ?_
 intro H4 n4 q4 s4
 by_cases h2:0<=e/\e < (m.length:Int)
 case neg=>
  refine W1 (Xm s4 s3 s2 s1 h2) ?_
  exact fin _ _ _ Om ((Mm (Yv s4 s3 s2 s1))) (decide_eq_false (fun h=>h2 h.2.2.2.1)).symm
 refine W1 (Xq s4 s3 s2 s1 h2 @and_self) ?_
 refine Zv (k46 (hm.mv Om (Mm (Yv s4 s3 s2 s1))) hlm d) ?_
 intro H5 n5 q5 s5
 by_cases h3:0<=d/\d < (m.length:Int)
 case neg=>
  refine W1 (Xq s5 s4 s3 s2 s1 h3) ?_
  exact fin _ _ _ Om ((Mm (Xm s5 s4 s3 s2 s1))) (decide_eq_false (fun h=>h3 h.2.2.2.2.1)).symm
 have hw:IntKind.i64.wrap ((li.length:Int) - 1)=li.length - 1:=Wo Om
 by_cases t0:t=0
 ·subst t0
  by_cases c1:0<=a/\a<=(li.length:Int) - 1
  case neg=>
   refine W1 (Yj hvl.len hw @k47 h3 @and_self s5 s4 (Yv s3 s2 s1 c1)) ?_
   refine fin _ _ _ Om ((Mm (Xm s5 s4 s3 s2 s1))) ?_
   rw[Bool.eq_iff_iff];simp[MachOk,hc,hp,h1,h2,h3];try grind
  by_cases c2:k=0
  case neg=>
   refine W1 (Yj hvl.len hw @k47 h3 @and_self s5 s4 (Xq s3 s2 s1 c1 @and_self c2)) ?_
   refine fin _ _ _ Om ((Mm (Xm s5 s4 s3 s2 s1))) ?_
   rw[Bool.eq_iff_iff];simp[MachOk,hc,hp,h1,h2,h3];try grind
  refine W1 (Yj hvl.len hw @k47 h3 @and_self s5 s4 (Xq s3 s2 s1 c1 @and_self c2)) ?_
  refine fin _ _ _ Om ((Mm (Xm s5 s4 s3 s2 s1))) ?_
  rw[Bool.eq_iff_iff];simp[MachOk,hc,hp,h1,h2,h3];try grind
 by_cases t1:t=1
 ·subst t1
  by_cases c1:0<=a/\a<=(li.length:Int) - 1
  case neg=>
   refine W1 (Yj hvl.len hw @k47 h3 @and_self s5 s4 (Yv s3 s2 s1 c1)) ?_
   refine fin _ _ _ Om ((Mm (Xm s5 s4 s3 s2 s1))) ?_
   rw[Bool.eq_iff_iff];simp[MachOk,hc,hp,h1,h2,h3];try grind
  by_cases c2:13<=k/\k<=19
  case neg=>
   refine W1 (Yj hvl.len hw @k47 h3 @and_self s5 s4 (Wt s3 s2 s1 c1 @and_self @k47 c2)) ?_
   refine fin _ _ _ Om ((Mm (Xm s5 s4 s3 s2 s1))) ?_
   rw[Bool.eq_iff_iff];simp[MachOk,hc,hp,h1,h2,h3];try grind
  by_cases c3:k=18
  ·subst c3
   refine W1 (Yj hvl.len hw @k47 h3 @and_self s5 s4 (Wt s3 s2 s1 c1 @and_self @k47 ((show decide ((13:Int)<=18/\(18:Int)<=19)=true from rfl)))) ?_
   refine fin _ _ _ Om ((Mm (Xm s5 s4 s3 s2 s1))) ?_
   rw[Bool.eq_iff_iff];simp[MachOk,hc,hp,h1,h2,h3];try grind
  refine W1 (Yj hvl.len hw @k47 h3 @and_self s5 s4 (Yj s3 s2 s1 c1 @and_self @k47 c2 c3)) ?_
  refine Zv (k46 (hm.mv Om (Mm (Xm s5 s4 s3 s2 s1))) hlm r) ?_
  intro H7 n7 q7 s7
  refine W1 (Yj hvl.len hw @k47 h3 @and_self s7 s5 (Yv s4 s3 s2 s1)) ?_
  refine fin _ _ _ Om ((Mm (Xq s7 s5 s4 s3 s2 s1))) ?_
  rw[Bool.eq_iff_iff];simp[MachOk,hc,hp,h1,h2,h3,c1,c2,c3];try grind
 by_cases t2:t=2
 ·subst t2
  by_cases c1:a=0
  case neg=>
   refine W1 (Yj hvl.len hw @k47 h3 @and_self s5 s4 (Xq s3 s2 s1 h3 @and_self c1)) ?_
   refine fin _ _ _ Om ((Mm (Xm s5 s4 s3 s2 s1))) ?_
   rw[Bool.eq_iff_iff];simp[MachOk,hc,hp,h1,h2,h3];try grind
  subst c1
  by_cases c2:k=0
  case neg=>
   refine W1 (Yj hvl.len hw @k47 h3 @and_self s5 s4 (Xq s3 s2 s1 h3 @and_self c2)) ?_
   refine fin _ _ _ Om ((Mm (Xm s5 s4 s3 s2 s1))) ?_
   rw[Bool.eq_iff_iff];simp[MachOk,hc,hp,h1,h2,h3];try grind
  subst c2
  refine W1 (Yj hvl.len hw @k47 h3 @and_self s5 s4 (Xm s3 s2 s1 h3 @and_self)) ?_
  refine Zv (k46 (hm.mv Om (Mm (Xm s5 s4 s3 s2 s1))) hlm r) ?_
  intro H7 n7 q7 s7
  refine W1 (Yj hvl.len hw @k47 h3 @and_self s7 s5 (Yv s4 s3 s2 s1)) ?_
  refine fin _ _ _ Om ((Mm (Xq s7 s5 s4 s3 s2 s1))) ?_
  rw[Bool.eq_iff_iff];simp[MachOk,hc,hp,h1,h2,h3];try grind
 by_cases t3:t=3
 ·subst t3
  by_cases c1:a=0
  case neg=>
   refine W1 (Yj hvl.len hw @k47 h3 @and_self s5 s4 (Xq s3 s2 s1 h3 @and_self c1)) ?_
   refine fin _ _ _ Om ((Mm (Xm s5 s4 s3 s2 s1))) ?_
   rw[Bool.eq_iff_iff];simp[MachOk,hc,hp,h1,h2,h3];try grind
  subst c1
  by_cases c2:1<=k/\k<=7
  case neg=>
   refine W1 (Yj hvl.len hw @k47 h3 @and_self s5 s4 (Wt s3 s2 s1 h3 @and_self @k47 c2)) ?_
   refine fin _ _ _ Om ((Mm (Xm s5 s4 s3 s2 s1))) ?_
   rw[Bool.eq_iff_iff];simp[MachOk,hc,hp,h1,h2,h3];try grind
  refine W1 (Yj hvl.len hw @k47 h3 @and_self s5 s4 (Wt s3 s2 s1 h3 @and_self @k47 c2)) ?_
  refine fin _ _ _ Om ((Mm (Xm s5 s4 s3 s2 s1))) ?_
  rw[Bool.eq_iff_iff];simp[MachOk,hc,hp,h1,h2,h3];try grind
 refine W1 (Yj hvl.len hw @k47 h3 @and_self s5 s4 (Yj s3 s2 s1 h3 @and_self t0 t1 (Zu t2 t3))) ?_
 refine fin _ _ _ Om ((Mm (Xm s5 s4 s3 s2 s1))) ?_
 rw[Bool.eq_iff_iff];simp[MachOk,hc,hp,h1,h2,h3,t0,t1,t2,t3];try grind
theorem k28 {n:Nat}{H:Hp}{v:Value}{l:List Nd}(hv:Li eNode n H v l)(hl:l.length<=1048576)(a s e d t k r:Int):RtN Tryz.prog 28 [.agg ⟨[v,.int .i64 a,.int .i64 s,.int .i64 e,.int .i64 d,.int .i64 t,.int .i64 k,.int .i64 r]⟩] H n (fun q H' n'=>∃ u,q=.agg ⟨[u,.int .i64 a,.int .i64 s,.int .i64 e,.int .i64 d,.int .i64 t,.int .i64 k,.int .i64 r]⟩/\New eNode n n' H' u l):=by
 apply RtN.mk
 rw[c28];unfold S28
 refine W1 trivial ?_
 refine Ya (k57 (hv.mv Om Mo) Om) ?_
 rintro _ H1 n1 q1 s1 ⟨u,rfl,id,i1,i2,i3⟩
 refine W1 s1 ?_
 exact Wp.pure ⟨So,(Mm s1),u,rfl,id,by omega,So,i3.mv Mo⟩
theorem k23 {n:Nat}{H:Hp}{v:Value}{l:List Nd}(hv:Li eNode n H v l)(hl:l.length<=1048576)(a s e d t k r:Int):RtN Tryz.prog 23 [.agg ⟨[v,.int .i64 a,.int .i64 s,.int .i64 e,.int .i64 d,.int .i64 t,.int .i64 k,.int .i64 r]⟩] H n (fun q H' n'=>∃ u,q=.agg ⟨[u,.int .i64 a,.int .i64 s,.int .i64 e,.int .i64 d,.int .i64 t,.int .i64 k,.int .i64 r]⟩/\New eNode n n' H' u l):=by
 apply RtN.mk
 rw[c23];unfold S23
 refine W1 trivial ?_
 refine Ya (k51 (hv.mv Om Mo) Om) ?_
 rintro _ H1 n1 q1 s1 ⟨u,rfl,id,i1,i2,i3⟩
 refine W1 s1 ?_
 exact Wp.pure ⟨So,(Mm s1),u,rfl,id,by omega,So,i3.mv Mo⟩
structure Mc where
 p:List Nd
 a:Int
 s:Int
 e:Int
 d:Int
 t:Int
 k:Int
 r:Int
def Yx (l:List Nd)(li:List Ins)(ld:List Df)(m:Mc)(q:List Nd)(x:Int):Mc :=
 if¬ MachOk l li ld m.p m.a m.s m.e m.d m.t m.k m.r then⟨[],0,0,0,0,3,7,0⟩else
 if¬ (m.t=1/\PoolOk q/\(0<=x/\x < (q.length:Int)))then m else
 if¬ (m.a+1 < (li.length:Int))then⟨m.p,0,m.s,m.e,m.d,3,7,0⟩else
 if 3000 < (Xy m.p q x).1.length+1 then⟨m.p,0,m.s,m.e,m.d,3,6,0⟩else
 ⟨(Xy m.p q x).1++[⟨5,0,⟨#[]⟩,gi (Xy m.p q x).2 x,m.s⟩],m.a+1,((Xy m.p q x).1.length:Int),m.e,m.d,0,0,0⟩
theorem answerM_len (l:List Nd)(li:List Ins)(ld:List Df)(m:Mc)(q:List Nd)(x:Int)(h:m.p.length<=1048576):(Yx l li ld m q x).p.length<=1048576:=by
 unfold Yx
 split
 ·simp
 ·split
  ·exact h
  ·split
   ·exact h
   ·split
    ·exact h
    ·simp;omega
theorem cpRun_len (p q:List Nd)(x:Int):(Xy p q x).1.length<=p.length+q.length:=(inRun_le _ _ _ _).2
theorem k61 {n:Nat}{H:Hp}{v:Value}{l:List Nd}(hv:Li eNode n H v l)(hl:l.length<=1048576)(a s e d t k r q:Int):RtN Tryz.prog 61 [.agg ⟨[v,.int .i64 a,.int .i64 s,.int .i64 e,.int .i64 d,.int .i64 t,.int .i64 k,.int .i64 r]⟩,.int .i64 q] H n (fun w H' n'=>∃ u,w=.agg ⟨[u,.int .i64 0,.int .i64 s,.int .i64 e,.int .i64 d,.int .i64 3,.int .i64 q,.int .i64 0]⟩/\New eNode n n' H' u l):=by
 apply RtN.mk
 rw[c61];unfold S61
 refine W1 trivial ?_
 refine Ya (k28 (hv.mv Om Mo) hl a s e d t k r) ?_
 rintro _ H1 n1 q1 s1 ⟨u,rfl,id,i1,i2,i3⟩
 refine W1 s1 ?_
 exact Wp.pure ⟨So,(Mm s1),u,rfl,id,by omega,So,i3.mv Mo⟩
theorem k53 {n:Nat}{H:Hp}{v:Value}{l:List Nd}(hv:Li eNode n H v l)(hl:l.length<=1048576)(a s e d t k r q:Int):RtN Tryz.prog 53 [.agg ⟨[v,.int .i64 a,.int .i64 s,.int .i64 e,.int .i64 d,.int .i64 t,.int .i64 k,.int .i64 r]⟩,.int .i64 q] H n (fun w H' n'=>∃ u,w=.agg ⟨[u,.int .i64 0,.int .i64 s,.int .i64 e,.int .i64 d,.int .i64 3,.int .i64 q,.int .i64 0]⟩/\New eNode n n' H' u l):=by
 apply RtN.mk
 rw[c53];unfold S53
 refine W1 trivial ?_
 refine Ya (k23 (hv.mv Om Mo) hl a s e d t k r) ?_
 rintro _ H1 n1 q1 s1 ⟨u,rfl,id,i1,i2,i3⟩
 refine W1 s1 ?_
 exact Wp.pure ⟨So,(Mm s1),u,rfl,id,by omega,So,i3.mv Mo⟩
theorem k83 {c id n:Nat}{H:Hp}{v:Value}{l:List Nd}{a s e d t k r:Int}(h:PC c 0 id n H [v,.int .i64 a,.int .i64 s,.int .i64 e,.int .i64 d,.int .i64 t,.int .i64 k,.int .i64 r] 0 v l)(hl:l.length<=1000000)(y:Int):RtA Tryz.prog 83 [ptr c 0,.int .i64 y] c id H n (fun w H' n'=>w=.tuple ⟨[]⟩/\∃ v' id',n<=id'/\PC c 0 id' n' H' [v',.int .i64 a,.int .i64 l.length,.int .i64 e,.int .i64 d,.int .i64 t,.int .i64 k,.int .i64 r] 0 v' (l++[⟨5,0,⟨#[]⟩,y,s⟩])):=by
 apply RtA.of
 rw[c83];unfold S83
 have hc:=h.hc
 refine W1 hc ?_
 refine Zj (k88 (h.mv Om rfl rfl) Om ⟨5,0,⟨#[]⟩,y,s⟩) ?_
 rintro _ H1 n1 q1 s1 ⟨rfl,v',id',i1,hPC⟩
 have hc1:H1 c=some (.row [v',.int .i64 a,.int .i64 s,.int .i64 e,.int .i64 d,.int .i64 t,.int .i64 k,.int .i64 r] 0 true):=hPC.hc
 have hcn:=h.cn
 refine W1 hc1 ?_
 exact Wp.pure ⟨So,(Mm s1),rfl,v',id',by omega,Ze _ _ _,rfl,hPC.at_.mv (Zf _ _ hPC.ne),hPC.cn,hPC.idn,hPC.ne⟩
theorem k132 {n:Nat}{H:Hp}{v vl vd vm vq:Value}{l m q:List Nd}{li:List Ins}{ld:List Df}(hv:Li eNode n H v l)(hvl:Li eIns n H vl li)(hvd:Li eDef n H vd ld)(hs:∀ x∈l,x.s.size<=1048576)(hsl:∀ x∈li,x.s.size<=1048576)(hsd:∀ x∈ld,x.s.size<=1048576)(hl:l.length<=1048576)(hll:li.length<=1048576)(hld:ld.length<=1048576)(hm:Li eNode n H vm m)(hsm:∀ x∈m,x.s.size<=1048576)(hlm:m.length<=1048576)(a s e d t k r:Int)(hq:Li eNode n H vq q)(hsq:∀ x∈q,x.s.size<=1048576)(hlq:q.length<=1048576)(x:Int) :
  RtN Tryz.prog 132 [.agg ⟨[v,vl,vd]⟩,.agg ⟨[vm,.int .i64 a,.int .i64 s,.int .i64 e,.int .i64 d,.int .i64 t,.int .i64 k,.int .i64 r]⟩,.agg ⟨[vq]⟩,.int .i64 x] H n (fun w H' n'=>∃ u,w=.agg ⟨[u,.int .i64 (Yx l li ld ⟨m,a,s,e,d,t,k,r⟩ q x).a,.int .i64 (Yx l li ld ⟨m,a,s,e,d,t,k,r⟩ q x).s,.int .i64 (Yx l li ld ⟨m,a,s,e,d,t,k,r⟩ q x).e,.int .i64 (Yx l li ld ⟨m,a,s,e,d,t,k,r⟩ q x).d,.int .i64 (Yx l li ld ⟨m,a,s,e,d,t,k,r⟩ q x).t,.int .i64 (Yx l li ld ⟨m,a,s,e,d,t,k,r⟩ q x).k,.int .i64 (Yx l li ld ⟨m,a,s,e,d,t,k,r⟩ q x).r]⟩/\New eNode n n' H' u (Yx l li ld ⟨m,a,s,e,d,t,k,r⟩ q x).p):=by
 apply RtN.mk
 rw[c132];unfold S132
 refine W1 trivial ?_
 refine Zv (k19 (hv.mv Om Mo) (hvl.mv Om Mo) (hvd.mv Om Mo) hs hsl hsd hl hll hld (hm.mv Om Mo) hsm hlm a s e d t k r) ?_
 intro H1 n1 q1 s1
 by_cases hok:MachOk l li ld m a s e d t k r
 case neg=>
  have hA:(Yx l li ld ⟨m,a,s,e,d,t,k,r⟩ q x)=⟨[],0,0,0,0,3,7,0⟩:=by unfold Yx;rw[if_pos hok]
  refine W1 (Zu s1 hok) ?_
  exact Wp.pure ⟨So,(Mm s1),nilS,by rw[hA],by rw[hA];exact⟨n,by omega,So,At.nil⟩⟩
 by_cases ht:t=1
 case neg=>
  have hA:(Yx l li ld ⟨m,a,s,e,d,t,k,r⟩ q x)=⟨m,a,s,e,d,t,k,r⟩:=by unfold Yx;rw[if_neg (by simpa using hok),if_pos (by simp[ht])]
  refine W1 (Ye s1 hok ht) ?_
  refine Ya (k23 (hm.mv Om (Mm s1)) hlm a s e d t k r) ?_
  rintro _ Hz nz qz sz ⟨u,rfl,id,i1,i2,i3⟩
  refine W1 (Zu sz s1) ?_
  exact Wp.pure ⟨So,(Mm (Zu sz s1)),u,by rw[hA],by rw[hA];exact⟨id,by omega,So,i3.mv Mo⟩⟩
 subst ht
 refine W1 (Zu s1 hok) ?_
 refine Zv (k45 (hq.mv Om (Mm s1)) hsq hlq) ?_
 intro H2 n2 q2 s2
 by_cases hpq:PoolOk q
 case neg=>
  have hA:(Yx l li ld ⟨m,a,s,e,d,1,k,r⟩ q x)=⟨m,a,s,e,d,1,k,r⟩:=by unfold Yx;rw[if_neg (by simpa using hok),if_pos (by simp[hpq])]
  refine W1 (Ye s2 s1 hpq) ?_
  refine Ya (k23 (hm.mv Om (Mm (Zu s2 s1))) hlm a s e d 1 k r) ?_
  rintro _ Hz nz qz sz ⟨u,rfl,id,i1,i2,i3⟩
  refine W1 (Ye sz s2 s1) ?_
  exact Wp.pure ⟨So,(Mm (Ye sz s2 s1)),u,by rw[hA],by rw[hA];exact⟨id,by omega,So,i3.mv Mo⟩⟩
 refine W1 (Ye s2 s1 hpq) ?_
 refine Zv (k46 (hq.mv Om (Mm (Zu s2 s1))) hlq x) ?_
 intro H3 n3 q3 s3
 by_cases hx:0<=x/\x < (q.length:Int)
 case neg=>
  have hA:(Yx l li ld ⟨m,a,s,e,d,1,k,r⟩ q x)=⟨m,a,s,e,d,1,k,r⟩:=by unfold Yx;rw[if_neg (by simpa using hok),if_pos (by intro h;exact hx h.2.2)]
  refine W1 (Yv s3 s2 s1 hx) ?_
  refine Ya (k23 (hm.mv Om (Mm (Ye s3 s2 s1))) hlm a s e d 1 k r) ?_
  rintro _ Hz nz qz sz ⟨u,rfl,id,i1,i2,i3⟩
  refine W1 (Yv sz s3 s2 s1) ?_
  exact Wp.pure ⟨So,(Mm (Yv sz s3 s2 s1)),u,by rw[hA],by rw[hA];exact⟨id,by omega,So,i3.mv Mo⟩⟩
 have hmp:=hok.2.1
 have hap:0<=a/\a<=(li.length:Int) - 1:=by
  rcases hok.2.2.2.2.2 with h|h|h|h
  ·omega
  ·exact h.2.1
  ·omega
  ·omega
 have hw1:IntKind.i64.wrap (a+1)=a+1:=Wo Om
 refine W1 (Xm s3 s2 s1 hx @and_self) ?_
 refine Ya (k23 (hm.mv Om (Mm (Ye s3 s2 s1))) hlm a s e d 1 k r) ?_
 rintro _ H5 n5 q5 s5 ⟨u,rfl,id,i1,i2,i3⟩
 refine W1 (Yv s5 s3 s2 s1) ?_
 have hcl:=cpRun_len m q x
 have hql:=hpq.2
 have hml:=hmp.2
 refine Zj (k84 (c:=n3+2) (o:=0) (id:=id) (e:=0) (cs:=[u,.int .i64 a,.int .i64 s,.int .i64 e,.int .i64 d,.int .i64 1,.int .i64 k,.int .i64 r]) (v:=u) (p:=m) ⟨Mo,rfl,i3.mv Mo,by omega,by omega,by omega⟩ (hq.mv Om (Mm (Yv s5 s3 s2 s1))) (hq.off Om) (hq.off Om) hpq x hx Om) ?_
 rintro _ H6 n6 q6 s6 ⟨rfl,v6,id6,i6,hPC⟩
 have hidn6:id6 < n6:=hPC.idn
 refine W0 trivial ?_
 refine Zj (k83 (hPC.mv Om rfl rfl) Om _) ?_
 rintro _ H8 n8 q8 s8 ⟨rfl,v8,id8,i8,hPC8⟩
 have c8:H8 (n3+2)=some (.row [v8,.int .i64 a,.int .i64 (Xy m q x).1.length,.int .i64 e,.int .i64 d,.int .i64 1,.int .i64 k,.int .i64 r] 0 true):=hPC8.hc
 have s8n:∀ i,i < n3+2->H8 i=H3 i:=fun i hi=>by
  rw[s8 i Om Om (by rcases i6 with h|h <;> omega),s6 i Om Om Om]
  simp(disch:=omega) only[Zf,s5]
 have a8:H8 n=some (.row [v,vl,vd] 0 true):=by simp(disch:=omega) only[s8n,s3,s2,s1,Zf,Ze]
 have b8:H8 (n+1)=some (.row [vm,.int .i64 a,.int .i64 s,.int .i64 e,.int .i64 d,.int .i64 1,.int .i64 k,.int .i64 r] 0 true):=by simp(disch:=omega) only[s8n,s3,s2,s1,Zf,Ze]
 have m8:H8 (n+3)=some (.row [nilS,.int .i64 0,.int .i64 0,.int .i64 0,.int .i64 0,.int .i64 0,.int .i64 0,.int .i64 0] 0 true):=by simp(disch:=omega) only[s8n,s3,s2,s1,Zf,Ze]
 have s8m:∀ i,i < n->H8 i=H i:=(Mm (Yv s8n s3 s2 s1))
 have hlen8:Zx false v8=some (.int .i64 ((Xy m q x).1.length+1:Nat)):=by rw[(hPC8.at_.lst hPC8.idn).len];simp
 by_cases h9:a+1 < (li.length:Int)
 case neg=>
  have hA:(Yx l li ld ⟨m,a,s,e,d,1,k,r⟩ q x)=⟨m,0,s,e,d,3,7,0⟩:=by unfold Yx;rw[if_neg (by simpa using hok),if_neg (by simpa using ⟨hpq,hx⟩),if_pos h9]
  refine W1 (Xq c8 a8 b8 hw1 hvl.len (show(li.length:Int)<=a+1 by omega)) ?_
  refine Ya (k53 (hm.mv Om (Mm s8m)) hlm a s e d 1 k r 7) ?_
  rintro _ Hz nz qz sz ⟨u',rfl,id',j1,j2,j3⟩
  refine W1 (Zu sz m8) ?_
  exact Wp.pure ⟨So,(Mm (Zu sz s8m)),u',by rw[hA],by rw[hA];exact⟨id',by omega,So,j3.mv Mo⟩⟩
 by_cases h3:3000 < (Xy m q x).1.length+1
 ·have h3i:(3000:Int) < (((Xy m q x).1.length+1:Nat):Int):=by omega
  have hA:(Yx l li ld ⟨m,a,s,e,d,1,k,r⟩ q x)=⟨m,0,s,e,d,3,6,0⟩:=by unfold Yx;rw[if_neg (by simpa using hok),if_neg (by simpa using ⟨hpq,hx⟩),if_neg (by simpa using h9),if_pos h3]
  refine W1 (Yj c8 a8 b8 hw1 hvl.len hlen8 h3i (show¬ (li.length:Int)<=a+1 by omega)) ?_
  refine Ya (k53 (hm.mv Om (Mm s8m)) hlm a s e d 1 k r 6) ?_
  rintro _ Hz nz qz sz ⟨u',rfl,id',j1,j2,j3⟩
  refine W1 (Zu sz m8) ?_
  exact Wp.pure ⟨So,(Mm (Zu sz s8m)),u',by rw[hA],by rw[hA];exact⟨id',by omega,So,j3.mv Mo⟩⟩
 ·have h3i:¬ (3000:Int) < (((Xy m q x).1.length+1:Nat):Int):=by omega
  have hA:(Yx l li ld ⟨m,a,s,e,d,1,k,r⟩ q x)=⟨(Xy m q x).1++[⟨5,0,⟨#[]⟩,gi (Xy m q x).2 x,s⟩],a+1,((Xy m q x).1.length:Int),e,d,0,0,0⟩:=by unfold Yx;rw[if_neg (by simpa using hok),if_neg (by simpa using ⟨hpq,hx⟩),if_neg (by simpa using h9),if_neg h3]
  refine W1 (Yj c8 a8 b8 hw1 hvl.len hlen8 h3i (Zu m8 (show¬ (li.length:Int)<=a+1 by omega))) ?_
  exact Wp.pure ⟨So,(Mm s8m),v8,by rw[hA],by rw[hA];exact⟨id8,by rcases i6 with h|h <;> omega,by have:=hPC8.idn;simp only;omega,hPC8.at_.mv Mo⟩⟩
theorem k107 {c n:Nat}{H:Hp}(hc:Cu c n H):RtD Tryz.prog 107 [ptr c 0] c H n (fun v _ _=>∃ x:Int,v=.int .i64 x/\0<=x/\x<=255):=by
 obtain⟨h1,b,l,i,x,h2,h3,h4,h5,h6,h7⟩:=hc
 unfold RtD
 rw[c107];unfold S107
 have b0:=fun o sz=>ld_box (o:=o) h7 sz
 have s0:=fun o vs=>stv_box (o:=o) (vs:=vs) h7
 simp(disch:=omega)only[↓reduceIte,Zr,↓X0,X1,Nat.reduceEqDiff,Int.reduceEq,Nat.reduceAdd,Nat.reduceSub,b0,s0,st_i,i_shr' _ _ _ _ (show(0:Int)<=33 by decide),i_shr' _ _ _ _ (show(0:Int)<=45 by decide),i_xor,i_and,ld_set,Yz,List.take_succ_cons,List.take_zero,List.cons_append,List.nil_append,List.drop_succ_cons,List.drop_zero,List.length_cons,List.length_nil,Nat.reduceLeDiff,h2.len]
 have hA:=fun a=>and_le a 255 (by decide)
 generalize IntKind.i64.wrap _=h' 
 generalize hz:IntKind.i64.wrap ((BitVec.ofInt IntKind.i64.bits _ &&& BitVec.ofInt IntKind.i64.bits 255).toNat:Int)=z
 have hz1:0<=z/\z<=255:=by rw[← hz];exact hA _
 by_cases hi:i < (l.length:Int)
 ·have h2':Li eByte c (H.set c (some (.row [b,.int .i64 i,.int .i64 h'] 0 true))) b l:=h2.keep' fun j o a k e=>Zf _ _ (by have:=h2.2 j o a k e;omega)
  have hw:IntKind.i64.wrap (i+1)=i+1:=Wo Om
  simp(disch:=omega)only[↓reduceIte,Zr,↓X0,X1,Nat.reduceEqDiff,Int.reduceEq,Nat.reduceAdd,Nat.reduceSub,hi,h2'.bAll h5 hi,stv_set,List.length_cons,List.length_nil,Nat.reduceLeDiff,ld_set,st_i,Yz,List.take_succ_cons,List.take_zero,List.cons_append,List.nil_append,List.drop_succ_cons,List.drop_zero,hw,i_and]
  refine⟨_,_,_,?_,?_,?_,rfl,_,rfl,hA _⟩
  ·omega
  ·exact(Upd.refl _ _ _).set _
  ·exact⟨by omega,b,l,i+1,h',h2.keep' fun j o a k e=>Zf _ _ (by have:=h2.2 j o a k e;omega),h3,h4,by omega,by omega,Ze _ _ _⟩
 ·simp(disch:=omega)only[↓reduceIte,Zr,↓X0,X1,Nat.reduceEqDiff,Int.reduceEq,Nat.reduceAdd,Nat.reduceSub,hi]
  refine⟨_,_,_,?_,?_,?_,rfl,_,rfl,hz1⟩
  ·omega
  ·exact(Upd.refl _ _ _).set _
  ·exact⟨by omega,b,l,i,h',h2.keep' fun j o a k e=>Zf _ _ (by have:=h2.2 j o a k e;omega),h3,h4,by omega,by omega,Ze _ _ _⟩
theorem k69 {c n:Nat}{H:Hp}(hc:Cu c n H)(m:Int):RtD Tryz.prog 69 [ptr c 0,.int .i64 m] c H n (fun v _ _=>∃ x:Int,v=.int .i64 x/\(m<=0->x=0)/\(0 < m->0<=x/\x < m)):=by
 unfold RtD
 rw[c69];unfold S69
 by_cases h1:m<=0
 ·simp(disch:=omega)only[↓reduceIte,Zr,↓X0,X1,Nat.reduceEqDiff,Int.reduceEq,Nat.reduceAdd,Nat.reduceSub,h1]
  exact⟨_,_,_,by omega,Upd.refl _ _ _,hc.up Om,rfl,0,rfl,fun _=>rfl,fun h=>by omega⟩
 ·have hm:¬ m=0:=by omega
  have tm:∀ y:Int,0<=y->0<=y.tmod m/\y.tmod m < m:=fun y hy=>⟨Int.tmod_nonneg _ hy,Int.tmod_lt_of_pos _ Om⟩
  by_cases h2:m<=256
  ·obtain⟨v,H1,n1,a1,a2,a3,a4,x,rfl,a5,a6⟩:=k107 (hc.up (show n<=n+10 by omega))
   simp(disch:=omega)only[↓reduceIte,Zr,↓X0,X1,Nat.reduceEqDiff,Int.reduceEq,Nat.reduceAdd,Nat.reduceSub,h1,h2,a4,hm]
   have:=tm x a5
   exact⟨_,_,_,by omega,a2.less Om,a3,rfl,_,rfl,fun h=>h.elim,fun _=>this⟩
  ·obtain⟨_,H1,n1,a1,a2,a3,a4,x,rfl,a5,a6⟩:=k107 (hc.up (show n<=n+8 by omega))
   obtain⟨_,H2,n2,b1,b2,b3,b4,y,rfl,b5,b6⟩:=k107 (a3.up (show n1<=n1+3 by omega))
   obtain⟨_,H3,n3,c1,c2,c3,c4,z,rfl,c5,c6⟩:=k107 (b3.up (show n2<=n2+3 by omega))
   obtain⟨_,H4,n4,d1,d2,d3,d4,w,rfl,d5,d6⟩:=k107 (c3.up (show n3<=n3+3 by omega))
   have w1:IntKind.i64.wrap (x * 16777216)=x * 16777216:=Wo Om
   have w2:IntKind.i64.wrap (y * 65536)=y * 65536:=Wo Om
   have w3:IntKind.i64.wrap (z * 256)=z * 256:=Wo Om
   have w4:IntKind.i64.wrap (x * 16777216+y * 65536)=x * 16777216+y * 65536:=Wo Om
   have w5:IntKind.i64.wrap (x * 16777216+y * 65536+z * 256)=x * 16777216+y * 65536+z * 256:=Wo Om
   have w6:IntKind.i64.wrap (x * 16777216+y * 65536+z * 256+w)=x * 16777216+y * 65536+z * 256+w:=Wo Om
   simp(disch:=omega)only[↓reduceIte,Zr,↓X0,X1,Nat.reduceEqDiff,Int.reduceEq,Nat.reduceAdd,Nat.reduceSub,h1,h2,a4,b4,c4,d4,w1,w2,w3,w4,w5,w6,hm]
   have:=tm (x * 16777216+y * 65536+z * 256+w) Om
   refine⟨_,_,_,?_,?_,?_,rfl,_,rfl,fun h=>h.elim,fun _=>this⟩
   ·omega
   ·exact(a2.less Om).tr ((b2.less (show n1<=n1+3 by omega)).tr ((c2.less (show n2<=n2+3 by omega)).tr (d2.less (show n3<=n3+3 by omega)) Om) Om) Om
   ·exact d3.up Om
theorem k108 {c n:Nat}{H:Hp}(hc:Cu c n H)(m:Int):RtD Tryz.prog 108 [ptr c 0,.int .i64 m] c H n (fun v _ _=>∃ b:Bool,v=.bool b):=by
 unfold RtD
 rw[c108];unfold S108
 obtain⟨_,H1,n1,a1,a2,a3,a4,x,rfl,_⟩:=k69 (hc.up (show n<=n+6 by omega)) m
 simp(disch:=omega)only[↓reduceIte,Zr,↓X0,X1,Nat.reduceEqDiff,Int.reduceEq,Nat.reduceAdd,Nat.reduceSub,a4]
 exact⟨_,_,_,by omega,a2.less Om,a3,rfl,_,rfl⟩
theorem k70 {c n:Nat}{H:Hp}(hc:Cu c n H){w:Value}{xs:List Int}(hw:Li eInt n H w xs)(ho:Off c w)(hne:xs≠[]):RtD Tryz.prog 70 [ptr c 0,w] c H n (fun v _ _=>∃ x:Int,v=.int .i64 x/\x∈xs):=by
 unfold RtD
 rw[c70];unfold S70
 have hl:0 < xs.length:=List.length_pos_iff.2 hne
 obtain⟨_,H1,n1,a1,a2,a3,a4,x,rfl,_,a5⟩:=k69 (hc.up (show n<=n+9 by omega)) (xs.length:Int)
 have a5:=a5 Om
 have g:=(hw.upd1 a2 Om ho).iAll a5.1 a5.2
 simp(disch:=omega)only[↓reduceIte,Zr,↓X0,X1,Nat.reduceEqDiff,Int.reduceEq,Nat.reduceAdd,Nat.reduceSub,hw.len,a4,g]
 exact⟨_,_,_,by omega,a2.less Om,a3,rfl,_,rfl,Yb a5.1 a5.2⟩
theorem k110 {c n:Nat}{H:Hp}(hc:Cu c n H){w:Value}{xs:List ByteArray}(hw:Li eStr n H w xs)(ho:Off c w)(hne:xs≠[]):RtD Tryz.prog 110 [ptr c 0,w] c H n (fun v _ _=>∃ x:ByteArray,v=.string x/\x∈xs):=by
 unfold RtD
 rw[c110];unfold S110
 have hl:0 < xs.length:=List.length_pos_iff.2 hne
 obtain⟨_,H1,n1,a1,a2,a3,a4,x,rfl,_,a5⟩:=k69 (hc.up (show n<=n+9 by omega)) (xs.length:Int)
 have a5:=a5 Om
 have g:=(hw.upd1 a2 Om ho).tAll a5.1 a5.2
 simp(disch:=omega)only[↓reduceIte,Zr,↓X0,X1,Nat.reduceEqDiff,Int.reduceEq,Nat.reduceAdd,Nat.reduceSub,hw.len,a4,g]
 exact⟨_,_,_,by omega,a2.less Om,a3,rfl,_,rfl,Yb a5.1 a5.2⟩
theorem l38 {n0:Nat}{H:Hp}{v:Value}{l:List Int}(hv:Li eByte n0 H v l)(hb:∀ x∈l,0<=x/\x<=255)(hl:l.length<=1048576):∀ t n (h:Int),t 0=v->t 3=.int .i64 h->t 4=.int .i64 0 ->
  Wp (Zm (S38L0 (Call Tryz.prog) Zm) t H n) (fun o=>n<=o.n/\o.H=H/\o.e=.exit 0/\o.t 0=v/\∃ h,o.t 3=.int .i64 h):=by
 intro t n h e0 e3 e4
 refine Zt (fun d t H' n'=>∃ j:Nat,j+d=l.length/\n<=n'/\H'=H/\t 0=v/\(∃ h,t 3=.int .i64 h)/\t 4=.int .i64 j) _ ?_ l.length t H n ⟨0,by omega,by omega,rfl,e0,⟨h,e3⟩,e4⟩
 rintro d t H' n' ⟨j,hj,hn,rfl,e0,⟨h,e3⟩,e4⟩
 unfold S38L0
 by_cases h1:(j:Int) < l.length
 ·by_cases h2:(j:Int) < 4000
  ·have hw:=wj (j:=j) (len:=l.length) Om Om
   simp(disch:=omega)only[↓reduceIte,Zr,↓X0,X1,Nat.reduceEqDiff,Int.reduceEq,Nat.reduceAdd,Nat.reduceSub,e0,e3,e4,hv.len,h1,h2,hv.bAll Om h1,i_and,hw]
   exact Wp.pure (Nxt.go (d - 1) Om ⟨j+1,by omega,by omega,rfl,Pp e0,⟨_,by simp[Zn];rfl⟩,Po⟩)
  ·simp(disch:=omega)only[↓reduceIte,Zr,↓X0,X1,Nat.reduceEqDiff,Int.reduceEq,Nat.reduceAdd,Nat.reduceSub,e0,e3,e4,hv.len,h1,h2]
   exact Wp.pure (Nxt.exit ⟨So,rfl,rfl,Pp e0,⟨h,Pp e3⟩⟩)
 ·simp(disch:=omega)only[↓reduceIte,Zr,↓X0,X1,Nat.reduceEqDiff,Int.reduceEq,Nat.reduceAdd,Nat.reduceSub,e0,e3,e4,hv.len,h1]
  exact Wp.pure (Nxt.exit ⟨So,rfl,rfl,Pp e0,⟨h,Pp e3⟩⟩)
theorem k38 {n:Nat}{H:Hp}{v:Value}{l:List Int}(hv:Li eByte n H v l)(hb:∀ x∈l,0<=x/\x<=255)(hl:l.length<=1048576):∃ c H' n',n<=c/\Same n H H'/\Cu c n' H'/\Call Tryz.prog 38 [v] H n=some (ptr c 0,H',n'):=by
 rw[c38];unfold S38
 have w1:IntKind.i64.wrap (17000+(l.length:Int))=17000+(l.length:Int):=Wo Om
 simp(disch:=omega)only[↓reduceIte,Zr,↓X0,X1,Nat.reduceEqDiff,Int.reduceEq,Nat.reduceAdd,Nat.reduceSub,hv.len,w1]
 generalize hT:put _ _ _=T
 obtain⟨⟨oe,ot,oH,on⟩,f1,f2,f3,f4,f5,h,f6⟩:=l38 hv hb hl T (n+6) _ (by rw[← hT];simp[Zn,Zz]) (by rw[← hT];simp[Zn,Zz];rfl) (by rw[← hT];simp[Zn])
 simp only at f2 f3 f4 f5 f6
 subst f3
 have hcell:Zs v=some [v]:=by
  obtain⟨⟨_,h|⟨i,o,c,cs,e,rw,rfl,_⟩⟩,_⟩:=hv
  ·obtain⟨_,rfl|⟨i,o,q,c,rfl⟩⟩:=h <;> rfl
  ·rfl
 have hbld:Xf [nilS,.int .i64 0,.int .i64 0] [(0,1,v),(2,1,.int .i64 h)]=some (.agg ⟨[v,.int .i64 0,.int .i64 h]⟩):=by
  simp only[Xf,fill,hcell,Option.bind_some];rfl
 rw[f1]
 simp(disch:=omega)only[↓reduceIte,Zr,↓X0,X1,Nat.reduceEqDiff,Int.reduceEq,Nat.reduceAdd,Nat.reduceSub,f5,f6,hbld,vcells_agg]
 exact⟨_,_,_,by omega,(Same.refl _ _).set Om _,⟨by omega,v,l,0,h,(hv.up Om).keep' fun i o a k e=>Zf _ _ (by have:=hv.2 i o a k e;omega),hb,hl,by omega,by omega,Ze _ _ _⟩,rfl⟩
def pNames:List ByteArray:=[⟨#[43]⟩,⟨#[45]⟩,⟨#[42]⟩,⟨#[60]⟩,⟨#[61]⟩,⟨#[99,111,110,115]⟩,⟨#[99,97,114]⟩,⟨#[99,100,114]⟩,⟨#[110,117,108,108,63]⟩,⟨#[112,97,105,114,63]⟩,⟨#[101,113,63]⟩,⟨#[110,111,116]⟩,⟨#[112,114,105,110,116]⟩,⟨#[115,101,108,102]⟩,⟨#[115,101,110,100]⟩,⟨#[114,101,99,118]⟩,⟨#[115,112,97,119,110]⟩,⟨#[99,97,108,108,99,99]⟩,⟨#[103,111]⟩]
def pArgs:List Int:=[2,2,2,2,2,2,1,1,1,1,2,1,1,0,2,0,1,1,1]
def Yk (k:Int):Int:=if 1<=k/\k<=19 then gi pArgs (k - 1)else -1
def Ua (s:ByteArray):List ByteArray->Nat->Option Nat
 | [],_=>none
 | x :: l,j=>if s=x then some j else Ua s l (j+1)
theorem fIdx_some {s:ByteArray}:∀ {l:List ByteArray}{j k:Nat},Ua s l j=some k->j<=k/\k < j+l.length/\l.getD (k - j) default=s
 | [],_,_,h=>by cases h
 | x :: l,j,k,h=>by
  unfold Ua at h
  by_cases he:s=x
  ·rw[if_pos he]at h
   cases h
   exact⟨Nat.le_refl _,by simp,by simp[he]⟩
  ·rw[if_neg he]at h
   obtain⟨h1,h2,h3⟩:=fIdx_some h
   refine⟨by omega,by simp only[List.length_cons];omega,?_⟩
   rw[show k - j=(k - (j+1))+1 by omega,List.getD_cons_succ]
   exact h3
def Wh (s:ByteArray):Int:=match Ua s pNames 0 with|none=>0|some k=>(k:Int)+1
theorem pNames_len:pNames.length=19:=rfl
theorem pArgs_len:pArgs.length=19:=rfl
theorem primOf_rng (s:ByteArray):0<=Wh s/\Wh s<=19:=by
 unfold Wh
 split
 ·decide
 ·rename_i k h
  have:=fIdx_some h
  rw[pNames_len]at this
  omega
theorem k145 (H:Hp)(n:Nat):RtN Tryz.prog 145 [] H n (fun v H' n'=>New eStr n n' H' v pNames):=by
 unfold RtN
 rw[c145];unfold S145
 obtain⟨e1,e2⟩:=bsl_new eStr (id:=n+1) (cnt:=19) (zero:=[.string ⟨#[]⟩]) (H:=H) (parts:=[(0,1,.string ⟨#[43]⟩),(1,1,.string ⟨#[45]⟩),(2,1,.string ⟨#[42]⟩),(3,1,.string ⟨#[60]⟩),(4,1,.string ⟨#[61]⟩),(5,1,.string ⟨#[99,111,110,115]⟩),(6,1,.string ⟨#[99,97,114]⟩),(7,1,.string ⟨#[99,100,114]⟩),(8,1,.string ⟨#[110,117,108,108,63]⟩),(9,1,.string ⟨#[112,97,105,114,63]⟩),(10,1,.string ⟨#[101,113,63]⟩),(11,1,.string ⟨#[110,111,116]⟩),(12,1,.string ⟨#[112,114,105,110,116]⟩),(13,1,.string ⟨#[115,101,108,102]⟩),(14,1,.string ⟨#[115,101,110,100]⟩),(15,1,.string ⟨#[114,101,99,118]⟩),(16,1,.string ⟨#[115,112,97,119,110]⟩),(17,1,.string ⟨#[99,97,108,108,99,99]⟩),(18,1,.string ⟨#[103,111]⟩)]) pNames (by decide) rfl rfl
 simp(disch:=omega)only[↓reduceIte,Zr,↓X0,X1,Nat.reduceEqDiff,Int.reduceEq,Nat.reduceAdd,Nat.reduceSub,e1]
 exact⟨_,_,_,by omega,(Same.refl _ _).set Om _,rfl,n+1,by omega,by omega,e2⟩
theorem k136 (H:Hp)(n:Nat):RtN Tryz.prog 136 [] H n (fun v H' n'=>New eStr n n' H' v (⟨#[]⟩ :: pNames)):=by
 unfold RtN
 rw[c136];unfold S136
 obtain⟨e1,e2⟩:=bsl_new eStr (id:=n+1) (cnt:=20) (zero:=[.string ⟨#[]⟩]) (H:=H) (parts:=[(0,1,.string ⟨#[]⟩),(1,1,.string ⟨#[43]⟩),(2,1,.string ⟨#[45]⟩),(3,1,.string ⟨#[42]⟩),(4,1,.string ⟨#[60]⟩),(5,1,.string ⟨#[61]⟩),(6,1,.string ⟨#[99,111,110,115]⟩),(7,1,.string ⟨#[99,97,114]⟩),(8,1,.string ⟨#[99,100,114]⟩),(9,1,.string ⟨#[110,117,108,108,63]⟩),(10,1,.string ⟨#[112,97,105,114,63]⟩),(11,1,.string ⟨#[101,113,63]⟩),(12,1,.string ⟨#[110,111,116]⟩),(13,1,.string ⟨#[112,114,105,110,116]⟩),(14,1,.string ⟨#[115,101,108,102]⟩),(15,1,.string ⟨#[115,101,110,100]⟩),(16,1,.string ⟨#[114,101,99,118]⟩),(17,1,.string ⟨#[115,112,97,119,110]⟩),(18,1,.string ⟨#[99,97,108,108,99,99]⟩),(19,1,.string ⟨#[103,111]⟩)]) (⟨#[]⟩ :: pNames) (by decide) rfl rfl
 simp(disch:=omega)only[↓reduceIte,Zr,↓X0,X1,Nat.reduceEqDiff,Int.reduceEq,Nat.reduceAdd,Nat.reduceSub,e1]
 exact⟨_,_,_,by omega,(Same.refl _ _).set Om _,rfl,n+1,by omega,by omega,e2⟩
theorem k141 (k:Int)(hk : -9000000000000000000<=k/\k<=9000000000000000000)(H:Hp)(n:Nat):Rt Tryz.prog 141 [.int .i64 k] H n (.int .i64 (Yk k)):=by
 unfold Rt
 rw[c141];unfold S141
 by_cases h:1<=k/\k<=19
 ·obtain⟨e1,e2⟩:=bsl_new eInt (id:=n+4+10) (cnt:=19) (zero:=[.int .i64 0]) (H:=H) (parts:=[(0,1,.int .i64 2),(1,1,.int .i64 2),(2,1,.int .i64 2),(3,1,.int .i64 2),(4,1,.int .i64 2),(5,1,.int .i64 2),(6,1,.int .i64 1),(7,1,.int .i64 1),(8,1,.int .i64 1),(9,1,.int .i64 1),(10,1,.int .i64 2),(11,1,.int .i64 1),(12,1,.int .i64 1),(13,1,.int .i64 0),(14,1,.int .i64 2),(15,1,.int .i64 0),(16,1,.int .i64 1),(17,1,.int .i64 1),(18,1,.int .i64 1)]) pArgs (by decide) rfl rfl
  have hw:IntKind.i64.wrap (k - 1)=k - 1:=Wo Om
  have g:=(e2.lst (Nat.lt_succ_self _)).iAll (i:=k - 1) Om (by rw[pArgs_len];omega)
  have hp:Yk k=gi pArgs (k - 1):=if_pos h
  simp(disch:=omega)only[↓reduceIte,Zr,↓X0,X1,Nat.reduceEqDiff,Int.reduceEq,Nat.reduceAdd,Nat.reduceSub,k43,h,and_self,e1,hw,g,hp]
  exact⟨_,_,by omega,(Same.refl _ _).set Om _,rfl⟩
 ·have hp:Yk k = -1:=if_neg h
  simp(disch:=omega)only[↓reduceIte,Zr,↓X0,X1,Nat.reduceEqDiff,Int.reduceEq,Nat.reduceAdd,Nat.reduceSub,k43,h,hp]
  exact⟨_,_,by omega,Same.refl _ _,rfl⟩
theorem k152 (k:Int)(hk : -9000000000000000000<=k/\k<=9000000000000000000)(H:Hp)(n:Nat):Rt Tryz.prog 152 [.int .i64 k] H n (.int .i64 (Yk k)):=by
 unfold Rt
 rw[c152];unfold S152
 by_cases h:1<=k/\k<=19
 ·obtain⟨e1,e2⟩:=bsl_new eInt (id:=n+4+10) (cnt:=20) (zero:=[.int .i64 0]) (H:=H) (parts:=[(0,1,.int .i64 0),(1,1,.int .i64 2),(2,1,.int .i64 2),(3,1,.int .i64 2),(4,1,.int .i64 2),(5,1,.int .i64 2),(6,1,.int .i64 2),(7,1,.int .i64 1),(8,1,.int .i64 1),(9,1,.int .i64 1),(10,1,.int .i64 1),(11,1,.int .i64 2),(12,1,.int .i64 1),(13,1,.int .i64 1),(14,1,.int .i64 0),(15,1,.int .i64 2),(16,1,.int .i64 0),(17,1,.int .i64 1),(18,1,.int .i64 1),(19,1,.int .i64 1)]) (0 :: pArgs) (by decide) rfl rfl
  have g:=(e2.lst (Nat.lt_succ_self _)).iAll (i:=k) Om (by rw[List.length_cons,pArgs_len];omega)
  have hp:Yk k=gi (0 :: pArgs) k:=by
   unfold Yk gi
   rw[if_pos h]
   rw[show k.toNat=(k - 1).toNat+1 by omega,List.getD_cons_succ]
  simp(disch:=omega)only[↓reduceIte,Zr,↓X0,X1,Nat.reduceEqDiff,Int.reduceEq,Nat.reduceAdd,Nat.reduceSub,k47,h,and_self,e1,g,hp]
  exact⟨_,_,by omega,(Same.refl _ _).set Om _,rfl⟩
 ·have hp:Yk k = -1:=if_neg h
  simp(disch:=omega)only[↓reduceIte,Zr,↓X0,X1,Nat.reduceEqDiff,Int.reduceEq,Nat.reduceAdd,Nat.reduceSub,k47,h,hp]
  exact⟨_,_,by omega,Same.refl _ _,rfl⟩
theorem l144 {n0:Nat}{H:Hp}{v:Value}{l:List ByteArray}(s:ByteArray)(hv:Li eStr n0 H v l)(hl:l.length<=1000000):∀ t n,t 0=v->t 1=.string s->t 7=.int .i64 l.length->t 8=.int .i64 0 ->
  Wp (Zm (S144L0 (Call Tryz.prog) Zm) t H n) (fun o=>n<=o.n/\o.H=H/\((o.e=.exit 0/\Ua s l 0=none)∨(o.e=.ret/\∃ k:Nat,o.t 4=.int .i64 k/\Ua s l 0=some k))):=by
 intro t n e0 e1 e7 e8
 refine Zt (fun d t H' n'=>∃ j:Nat,j+d=l.length/\n<=n'/\H'=H/\t 0=v/\t 1=.string s/\t 7=.int .i64 l.length/\t 8=.int .i64 j/\Ua s l 0=Ua s (l.drop j) j) _ ?_ l.length t H n ⟨0,by omega,by omega,rfl,e0,e1,e7,e8,rfl⟩
 rintro d t H' n' ⟨j,hj,hn,rfl,e0,e1,e7,e8,hf⟩
 unfold S144L0
 by_cases hlt:(j:Int) < l.length
 ·have hlt':j < l.length:=by omega
  have g:=hv.tAll Om hlt
  have hd:l.drop j=gi l (j:Int) :: l.drop (j+1):=by rw[Yq hlt'];exact List.drop_eq_getElem_cons hlt'
  rw[hd,Ua]at hf
  have hw:=wj (j:=j) (len:=l.length) hlt' Om
  by_cases hs:s=gi l (j:Int)
  ·refine W0 (Wt e0 e1 e7 e8 hlt g hs) ?_
   rw[if_pos hs]at hf
   exact Wp.pure (Nxt.ret ⟨Nat.le_trans hn (Nat.le_add_right _ _),rfl,.inr ⟨rfl,j,Pp e8,hf⟩⟩)
  ·refine W0 (Yj e0 e1 e7 e8 hlt g hs hw) ?_
   rw[if_neg hs]at hf
   exact Wp.pure (Nxt.go (d - 1) Om ⟨j+1,by omega,by omega,rfl,Pp e0,Pp e1,Pp e7,Po,hf⟩)
 ·refine W0 (Xm e0 e1 e7 e8 hlt) ?_
  rw[List.drop_eq_nil_of_le Om]at hf
  exact Wp.pure (Nxt.exit ⟨Nat.le_trans hn (Nat.le_add_right _ _),rfl,.inl ⟨rfl,hf⟩⟩)
theorem k144 {n:Nat}{H:Hp}{v:Value}{l:List ByteArray}(s:ByteArray)(hv:Li eStr n H v l)(hl:l.length<=1000000):∃ n',n<=n'/\Call Tryz.prog 144 [v,.string s] H n=some (.int .i64 (match Ua s l 0 with|none=> -1|some k=>(k:Int)),H,n'):=by
 rw[c144];unfold S144
 simp(disch:=omega)only[↓reduceIte,Zr,↓X0,X1,Nat.reduceEqDiff,Int.reduceEq,Nat.reduceAdd,Nat.reduceSub,hv.len]
 generalize hT:put _ _ _=T
 obtain⟨⟨oe,ot,oH,on⟩,f1,f2,f3,f4⟩:=l144 s hv hl T (n+4) (by rw[← hT];simp[Zn,Zz]) (by rw[← hT];simp[Zn,Zz]) (by rw[← hT];simp[Zn]) (by rw[← hT];simp[Zn])
 simp only at f2 f3 f4
 rw[f1]
 subst f3
 rcases f4 with⟨rfl,f4⟩|⟨rfl,k,f4,f5⟩
 ·simp(disch:=omega)only[↓reduceIte,Zr,↓X0,X1,Nat.reduceEqDiff,Int.reduceEq,Nat.reduceAdd,Nat.reduceSub,outOf,f4]
  exact⟨_,by omega,rfl⟩
 ·simp(disch:=omega)only[↓reduceIte,Zr,↓X0,X1,Nat.reduceEqDiff,Int.reduceEq,Nat.reduceAdd,Nat.reduceSub,outOf,f4,f5]
  exact⟨_,by omega,rfl⟩
theorem k128 (s:ByteArray)(H:Hp)(n:Nat):Rt Tryz.prog 128 [.string s] H n (.int .i64 (Wh s)):=by
 unfold Rt
 rw[c128];unfold S128
 obtain⟨v,H1,n1,a1,a2,a3,a4⟩:=k145 H (n+6)
 obtain⟨n2,b1,b2⟩:=k144 s a4.lst (by rw[pNames_len];decide)
 have hr:=primOf_rng s
 simp(disch:=omega)only[↓reduceIte,Zr,↓X0,X1,Nat.reduceEqDiff,Int.reduceEq,Nat.reduceAdd,Nat.reduceSub,a3,b2]
 unfold Wh at *
 cases h:Ua s pNames 0 with
 | none=>simp(disch:=omega)only[↓reduceIte,Zr,↓X0,X1,Nat.reduceEqDiff,Int.reduceEq,Nat.reduceAdd,Nat.reduceSub];exact⟨_,_,by omega,a2.less Om,rfl⟩
 | some k=>
  rw[h]at hr
  simp only at hr
  have hw:IntKind.i64.wrap ((k:Int)+1)=(k:Int)+1:=Wo Om
  simp(disch:=omega)only[↓reduceIte,Zr,↓X0,X1,Nat.reduceEqDiff,Int.reduceEq,Nat.reduceAdd,Nat.reduceSub,hw];exact⟨_,_,by omega,a2.less Om,rfl⟩
theorem l119 {n0:Nat}{H:Hp}{v:Value}(s:ByteArray)(hv:Li eStr n0 H v (⟨#[]⟩ :: pNames)):∀ t n,t 0=.string s->t 3=v->t 4=.int .i64 1 ->
  Wp (Zm (S119L0 (Call Tryz.prog) Zm) t H n) (fun o=>n<=o.n/\o.H=H/\((o.e=.exit 0/\Wh s=0)∨(o.e=.ret/\o.t 2=.int .i64 (Wh s)))):=by
 intro t n e0 e3 e4
 refine Zt (fun d t H' n'=>∃ j:Nat,j+d=19/\n<=n'/\H'=H/\t 0=.string s/\t 3=v/\t 4=.int .i64 ((j:Int)+1)/\Ua s pNames 0=Ua s (pNames.drop j) j) _ ?_ 19 t H n ⟨0,by omega,by omega,rfl,e0,e3,e4,rfl⟩
 rintro d t H' n' ⟨j,hj,hn,rfl,e0,e3,e4,hf⟩
 unfold S119L0
 by_cases hlt:(j:Int)+1<=19
 ·have hlt':j < pNames.length:=by rw[pNames_len];omega
  have g:=hv.tAll (i:=(j:Int)+1) Om (by rw[List.length_cons];omega)
  have hgi:gi (⟨#[]⟩ :: pNames) ((j:Int)+1)=pNames[j]:=by
   unfold gi
   rw[show((j:Int)+1).toNat=j+1 by omega,List.getD_cons_succ,List.getD_eq_getElem?_getD,List.getElem?_eq_getElem hlt'];rfl
  rw[hgi]at g
  have hd:pNames.drop j=pNames[j] :: pNames.drop (j+1):=List.drop_eq_getElem_cons hlt'
  rw[hd,Ua]at hf
  have hw:IntKind.i64.wrap ((j:Int)+1+1)=((j+1:Nat):Int)+1:=by rw[Wo Om];omega
  by_cases hs:s=pNames[j]
  ·refine W0 (Xq e0 e3 e4 hlt g hs) ?_
   rw[if_pos hs]at hf
   have hp:Wh s=(j:Int)+1:=by unfold Wh;rw[hf]
   exact Wp.pure (Nxt.ret ⟨Nat.le_trans hn (Nat.le_add_right _ _),rfl,.inr ⟨rfl,by simp[Zn,e4,hp]⟩⟩)
  ·refine W0 (Wt e0 e3 e4 hlt g (show¬ pNames[j]=s from fun h=>hs h.symm) hw) ?_
   rw[if_neg hs]at hf
   exact Wp.pure (Nxt.go (d - 1) Om ⟨j+1,by omega,by omega,rfl,Pp e0,Pp e3,Po,hf⟩)
 ·refine W0 (Yv e0 e3 e4 hlt) ?_
  rw[List.drop_eq_nil_of_le (by rw[pNames_len];omega)]at hf
  have hp:Wh s=0:=by unfold Wh;rw[hf];rfl
  exact Wp.pure (Nxt.exit ⟨Nat.le_trans hn (Nat.le_add_right _ _),rfl,.inl ⟨rfl,hp⟩⟩)
theorem k119 (s:ByteArray)(H:Hp)(n:Nat):Rt Tryz.prog 119 [.string s] H n (.int .i64 (Wh s)):=by
 unfold Rt
 rw[c119];unfold S119
 obtain⟨v,H1,n1,a1,a2,a3,a4⟩:=k136 H (n+3)
 simp(disch:=omega)only[↓reduceIte,Zr,↓X0,X1,Nat.reduceEqDiff,Int.reduceEq,Nat.reduceAdd,Nat.reduceSub,a3]
 generalize hT:put _ _ _=T
 obtain⟨⟨oe,ot,oH,on⟩,f1,f2,f3,f4⟩:=l119 s a4.lst T (n1+1) (by rw[← hT];simp[Zn,Zz]) (by rw[← hT];simp[Zn,Zz]) (by rw[← hT];simp[Zn])
 simp only at f2 f3 f4
 rw[f1]
 subst f3
 rcases f4 with⟨rfl,f4⟩|⟨rfl,f4⟩
 ·simp(disch:=omega)only[↓reduceIte,Zr,↓X0,X1,Nat.reduceEqDiff,Int.reduceEq,Nat.reduceAdd,Nat.reduceSub,outOf,f4]
  exact⟨_,_,by omega,a2.less Om,rfl⟩
 ·simp(disch:=omega)only[↓reduceIte,Zr,↓X0,X1,Nat.reduceEqDiff,Int.reduceEq,Nat.reduceAdd,Nat.reduceSub,outOf,f4]
  exact⟨_,_,by omega,a2.less Om,rfl⟩
def ndZero:Nd:=⟨0,0,⟨#[]⟩,0,0⟩
def bNd (b:Bool):Nd:=⟨2,if b=true then 1 else 0,⟨#[]⟩,0,0⟩
def nNd (k:Int):Nd:=⟨3,k,⟨#[]⟩,0,0⟩
def Xi (k a b:Int):Nd:=if k=1 then nNd (a+b)else if k=2 then nNd (a - b)else if k=3 then nNd (a * b)else if k=4 then bNd (decide (a < b))else bNd (decide (a=b))
theorem mul_rng {a b:Int}(ha : -1000000000<=a/\a<=1000000000)(hb : -1000000000<=b/\b<=1000000000) : -1000000000000000000<=a * b/\a * b<=1000000000000000000:=by
 have h1:=Int.natAbs_mul a b
 have h2:a.natAbs * b.natAbs<=1000000000 * 1000000000:=Nat.mul_le_mul Om Om
 omega
theorem k163 (b:Bool)(H:Hp)(n:Nat):Rt Tryz.prog 163 [.bool b] H n (.agg ⟨(bNd b).cells⟩):=by
 apply Rt.mk
 rw[c163];unfold S163
 cases b with
 | true=>
  refine W1 trivial ?_
  exact Wp.pure ⟨So,Mo,rfl⟩
 | false=>
  refine W1 trivial ?_
  exact Wp.pure ⟨So,Mo,rfl⟩
theorem k161 (b:Bool)(H:Hp)(n:Nat):Rt Tryz.prog 161 [.bool b] H n (.agg ⟨(bNd b).cells⟩):=by
 apply Rt.mk
 rw[c161];unfold S161
 cases b with
 | true=>
  refine W1 trivial ?_
  exact Wp.pure ⟨So,Mo,rfl⟩
 | false=>
  refine W1 trivial ?_
  exact Wp.pure ⟨So,Mo,rfl⟩
theorem k165 (k a b:Int)(hk:1<=k/\k<=5)(ha : -1000000000<=a/\a<=1000000000)(hb : -1000000000<=b/\b<=1000000000)(H:Hp)(n:Nat):Rt Tryz.prog 165 [.int .i64 k,.int .i64 a,.int .i64 b] H n (.agg ⟨(Xi k a b).cells⟩):=by
 apply Rt.mk
 rw[c165];unfold S165
 have hm:=mul_rng ha hb
 have w1:IntKind.i64.wrap (a+b)=a+b:=Wo Om
 have w2:IntKind.i64.wrap (a - b)=a - b:=Wo Om
 have w3:IntKind.i64.wrap (a * b)=a * b:=Wo Om
 obtain rfl|rfl|rfl|rfl|rfl:k=1∨k=2∨k=3∨k=4∨k=5:=by omega
 ·refine W1 w1 ?_
  exact Wp.pure ⟨So,Mo,rfl⟩
 ·refine W1 w2 ?_
  exact Wp.pure ⟨So,Mo,rfl⟩
 ·refine W1 w3 ?_
  exact Wp.pure ⟨So,Mo,rfl⟩
 ·refine W1 trivial ?_
  refine Zv (k163 _ _ _) ?_
  intro H1 n1 q1 s1
  refine W1 (Ye @bNd.eq_1 @Nd.cells.eq_1 s1) ?_
  exact Wp.pure ⟨So,(Mm s1),by simp[Xi,bNd,Nd.cells]⟩
 ·refine W1 trivial ?_
  refine Zv (k163 _ _ _) ?_
  intro H1 n1 q1 s1
  refine W1 (Ye @bNd.eq_1 @Nd.cells.eq_1 s1) ?_
  exact Wp.pure ⟨So,(Mm s1),by simp[Xi,bNd,Nd.cells]⟩
def Ve (k:Int)(x y:Nd):Nd × Int:=if x.k≠3∨y.k≠3 then(ndZero,3)else if -1000000000<=(Xi k x.n y.n).n/\(Xi k x.n y.n).n<=1000000000 then(Xi k x.n y.n,0)else(ndZero,4)
theorem bNd_rng (b:Bool) : -1000000000<=(bNd b).n/\(bNd b).n<=1000000000:=by unfold bNd;cases b <;> decide
theorem k160 (k:Int)(x y:Nd)(hk:1<=k/\k<=5)(ha:x.k=3 -> -1000000000<=x.n/\x.n<=1000000000)(hb:y.k=3 -> -1000000000<=y.n/\y.n<=1000000000)(H:Hp)(n:Nat):Rt Tryz.prog 160 [.int .i64 k,.agg ⟨x.cells⟩,.agg ⟨y.cells⟩] H n (.tuple ⟨[.agg ⟨(Ve k x y).1.cells⟩,.int .i64 (Ve k x y).2]⟩):=by
 apply Rt.mk
 rw[c160];unfold S160
 obtain⟨xk,xn,xs,xa,xb⟩:=x
 obtain⟨yk,yn,ys,ya,yb⟩:=y
 simp only at ha hb
 by_cases h1:xk=3
 case neg=>
  refine W1 (Zu @Nd.cells.eq_1 h1) ?_
  exact Wp.pure ⟨So,Mo,by simp[Nd.cells,Ve,h1,ndZero]⟩
 by_cases h2:yk=3
 case neg=>
  refine W1 (Ye @Nd.cells.eq_1 h1 h2) ?_
  exact Wp.pure ⟨So,Mo,by simp[Nd.cells,Ve,h1,h2,ndZero]⟩
 subst h1;subst h2
 have ha:=ha rfl
 have hb:=hb rfl
 have hm:=mul_rng ha hb
 have w1:IntKind.i64.wrap (xn+yn)=xn+yn:=Wo Om
 have w2:IntKind.i64.wrap (xn - yn)=xn - yn:=Wo Om
 have w3:IntKind.i64.wrap (xn * yn)=xn * yn:=Wo Om
 obtain rfl|rfl|rfl|rfl|rfl:k=1∨k=2∨k=3∨k=4∨k=5:=by omega
 ·by_cases hr : -1000000000<=xn+yn/\xn+yn<=1000000000
  ·refine W1 (Wt @Nd.cells.eq_1 w1 w2 w3 @k47 hr @and_self) ?_
   exact Wp.pure ⟨So,Mo,by simp[Nd.cells,Ve,Xi,nNd,hr]⟩
  ·refine W1 (Xq @Nd.cells.eq_1 w1 w2 w3 @k47 hr) ?_
   exact Wp.pure ⟨So,Mo,by simp[Nd.cells,Ve,Xi,nNd,hr,ndZero]⟩
 ·by_cases hr : -1000000000<=xn - yn/\xn - yn<=1000000000
  ·refine W1 (Wt @Nd.cells.eq_1 w1 w2 w3 @k47 hr @and_self) ?_
   exact Wp.pure ⟨So,Mo,by simp[Nd.cells,Ve,Xi,nNd,hr]⟩
  ·refine W1 (Xq @Nd.cells.eq_1 w1 w2 w3 @k47 hr) ?_
   exact Wp.pure ⟨So,Mo,by simp[Nd.cells,Ve,Xi,nNd,hr,ndZero]⟩
 ·by_cases hr : -1000000000<=xn * yn/\xn * yn<=1000000000
  ·refine W1 (Wt @Nd.cells.eq_1 w1 w2 w3 @k47 hr @and_self) ?_
   exact Wp.pure ⟨So,Mo,by simp[Nd.cells,Ve,Xi,nNd,hr]⟩
  ·refine W1 (Xq @Nd.cells.eq_1 w1 w2 w3 @k47 hr) ?_
   exact Wp.pure ⟨So,Mo,by simp[Nd.cells,Ve,Xi,nNd,hr,ndZero]⟩
 ·refine W1 (Zu @Nd.cells.eq_1 w1) ?_
  refine Zv (k161 _ _ _) ?_
  intro H1 n1 q1 s1
  have hN:Ve 4 ⟨3,xn,xs,xa,xb⟩ ⟨3,yn,ys,ya,yb⟩=(bNd (decide (xn < yn)),0):=by
   unfold Ve
   rw[if_neg (by simp)]
   rw[show Xi 4 xn yn=bNd (decide (xn < yn))from rfl,if_pos (bNd_rng _)]
  refine W1 (Ye @bNd.eq_1 @Nd.cells.eq_1 s1) ?_
  exact Wp.pure ⟨So,(Mm s1),by rw[hN];simp[bNd,Nd.cells,Zn]⟩
 ·refine W1 (Zu @Nd.cells.eq_1 w1) ?_
  refine Zv (k161 _ _ _) ?_
  intro H1 n1 q1 s1
  have hN:Ve 5 ⟨3,xn,xs,xa,xb⟩ ⟨3,yn,ys,ya,yb⟩=(bNd (decide (xn=yn)),0):=by
   unfold Ve
   rw[if_neg (by simp)]
   rw[show Xi 5 xn yn=bNd (decide (xn=yn))from rfl,if_pos (bNd_rng _)]
  refine W1 (Ye @bNd.eq_1 @Nd.cells.eq_1 s1) ?_
  exact Wp.pure ⟨So,(Mm s1),by rw[hN];simp[bNd,Nd.cells,Zn]⟩
def PoolW (l:List Nd):Prop:=NodesOk l 0/\l.length<=100000
theorem PoolOk.w {l:List Nd}(h:PoolOk l):PoolW l:=⟨h.1,by have:=h.2;omega⟩
theorem nodes_at {l:List Nd}(hp:NodesOk l 0){v:Int}(h0:0<=v)(h1:v < l.length):NodeOk (gi l v) v:=by
 suffices ∀ (l:List Nd) (i:Nat),NodesOk l i->∀ (k:Nat) (hk:k < l.length),NodeOk l[k] ((i+k:Nat):Int) by
  have h:=this l 0 hp v.toNat Om
  rw[gi_at h0 h1]
  rw[show((0+v.toNat:Nat):Int)=v by omega]at h
  exact h
 intro l
 induction l with
 | nil=>intro i _ k hk;simp at hk
 | cons x l ih=>
  intro i h k hk
  cases k with
  | zero=>exact h.1
  | succ k=>
   have:=ih (i+1) h.2 k (by simpa using hk)
   rw[show i+1+k=i+(k+1) by omega]at this
   exact this
theorem PoolW.at {l:List Nd}(hp:PoolW l){v:Int}(h0:0<=v)(h1:v < l.length):NodeOk (gi l v) v:=nodes_at hp.1 h0 h1
theorem chain_fuelw {l:List Nd}(hp:PoolW l):∀ (f g:Nat)(v:Int),0<=v->v < l.length->v < f->v < g->chain l f v=chain l g v
 | 0,_,v,h0,_,hf,_=>by omega
 | _,0,v,h0,_,_,hg=>by omega
 | f+1,g+1,v,h0,h1,hf,hg=>by
  unfold chain
  by_cases hk:(gi l v).k=5
  ·have:=(hp.at h0 h1).pair hk
   rw[if_pos hk,if_pos hk,chain_fuelw hp f g _ this.2.1 Om Om Om]
  ·rw[if_neg hk,if_neg hk]
theorem chainOf_eqw {l:List Nd}(hp:PoolW l){v:Int}(h0:0<=v)(h1:v < l.length):Zi l v=if(gi l v).k=5 then((gi l v).a :: (Zi l (gi l v).b).1,(Zi l (gi l v).b).2)else([],decide ((gi l v).k=1)):=by
 unfold Zi
 rw[chain]
 by_cases hk:(gi l v).k=5
 ·have:=(hp.at h0 h1).pair hk
  rw[if_pos hk,if_pos hk,chain_fuelw hp v.toNat ((gi l v).b.toNat+1) _ this.2.1 Om Om Om]
 ·rw[if_neg hk,if_neg hk]
theorem lw96 {n0 b o:Nat}{H0:Hp}{v:Value}{l:List Nd}{cs:List Value}{e:Nat}{rw_:Bool}(hv:Li eNode n0 H0 v l)(hp:PoolW l)(hbn:b < n0)(hb:H0 b=some (.row cs e rw_)) (ho:cs[o]?=some v)(w:Int)(h0:0<=w)(h1:w < l.length):∀ t H n id,n0<=n->Same n0 H0 H->n0<=id->id < n->t 0=ptr b o->t 1=.int .i64 w->t 6=sl id 0 0->H id=some (.row [] 1 true) ->
  Wp (Zm (S96L0 (Call Tryz.prog) Zm) t H n) (fun out=>n<=out.n/\Same n0 H0 out.H/\out.e=.exit 0/\out.t 0=ptr b o/\∃ (u:Int) (id:Nat),0<=u/\u < l.length/\out.t 1=.int .i64 u/\(Zi l w).2=decide ((gi l u).k=1)/\n0<=id/\id < out.n/\At eInt id out.H (out.t 6) (Zi l w).1):=by
 intro t H n id hn0 hsm0 hid hidn e0 e1 e6 hH
 have hl:=hp.2
 refine Zt (fun d T H' n'=>∃ (u:Int) (id:Nat) (acc:List Int),0<=u/\u < l.length/\d=u.toNat/\n<=n'/\Same n0 H0 H'/\T 0=ptr b o/\T 1=.int .i64 u/\n0<=id/\id < n'/\At eInt id H' (T 6) acc/\(acc++(Zi l u).1=(Zi l w).1)/\(Zi l u).2=(Zi l w).2) _ ?_ w.toNat t H n ⟨w,id,[],h0,h1,rfl,by omega,hsm0,e0,e1,hid,hidn,by rw[e6];exact .inr ⟨rfl,hH⟩,by simp,rfl⟩
 rintro d T H' n' ⟨u,id,acc,hu0,hu1,hd,hn,hsm,e0,e1,hid,hidn,hat,hc1,hc2⟩
 unfold S96L0
 have hv':=hv.keep hsm (Nat.le_refl _)
 have hb':H' b=some (.row cs e rw_):=by rw[hsm b hbn];exact hb
 have g:=hv'.nAll hu0 hu1
 have hce:=chainOf_eqw hp hu0 hu1
 by_cases hk:(gi l u).k=5
 ·have hpr:=(hp.at hu0 hu1).pair hk
  rw[if_pos hk]at hce
  rw[hce]at hc1 hc2
  simp only at hc1 hc2
  have hlen:acc.length<=100000:=by
   have hle:=congrArg List.length hc1
   rw[List.length_append]at hle
   have:=Vr h0 h1
   omega
  obtain⟨H3,f1,f2,f3⟩:=app_one (id1:=n'+18) (id2:=n'+19) (bytes:=8) (gi l u).a hat Om (by decide) Om
  have hsm3:Same n0 H0 H3:=fun i hi=>by rw[f3 i Om Om Om,hsm i hi]
  have g3:=(hv.keep hsm3 (Nat.le_refl _)).nAll hu0 hu1
  have hb3:H3 b=some (.row cs e rw_):=by rw[hsm3 b hbn];exact hb
  refine W0 (Yj e0 e1 @ld_r hb' @Yc ho g (Xm hk (bsl_one eInt (gi l u).a (n'+18) [.int .i64 0] (.int .i64 (gi l u).a) H' rfl rfl (by decide)) f1 hb3 g3)) ?_
  exact Wp.pure (Nxt.go (gi l u).b.toNat Om ⟨(gi l u).b,n'+19,acc++[(gi l u).a],hpr.2.1,by omega,rfl,by omega,hsm3,Pp e0,Po,by omega,by omega,by simp only[Zn];exact .inr ⟨rfl,f2⟩,by rw[List.append_assoc];exact hc1,hc2⟩)
 ·rw[if_neg hk]at hce
  rw[hce]at hc1 hc2
  refine W0 (Yj e0 e1 @ld_r hb' @Yc ho g hk) ?_
  refine Wp.pure (Nxt.exit ⟨Nat.le_trans hn (Nat.le_add_right _ _),hsm,rfl,Pp e0,u,id,hu0,hu1,Pp e1,hc2.symm,hid,Nat.lt_of_lt_of_le hidn (Nat.le_add_right _ _),?_⟩)
  rw[← hc1,List.append_nil]
  simpa[Zn]using hat
theorem kw96 {n b o:Nat}{H:Hp}{v:Value}{l:List Nd}{cs:List Value}{e:Nat}{rw_:Bool}(hv:Li eNode n H v l)(hp:PoolW l)(hbn:b < n)(hb:H b=some (.row cs e rw_)) (ho:cs[o]?=some v)(w:Int)(h0:0<=w)(h1:w < l.length):RtN Tryz.prog 96 [ptr b o,.int .i64 w] H n (fun r H' n'=>∃ u,r=.tuple ⟨[u,.bool (Zi l w).2]⟩/\New eInt n n' H' u (Zi l w).1):=by
 apply RtN.of
 rw[c96];unfold S96
 refine W0 @Wz ?_
 refine Wp.bind (lw96 (n0:=n) (H0:=H) hv hp hbn hb ho w h0 h1 _ _ _ (n+2) Om ((Same.refl _ _).set Om _) Om Om Pa Pa Po (Ze _ _ _)) ?_
 rintro⟨oe,ot,oH,on⟩ ⟨f2,f3,f4,f5,u,id,f6,f7,f8,f9,f10,f11,f12⟩
 simp only at f2 f3 f4 f5 f6 f7 f8 f9 f10 f11 f12
 have g:=(hv.keep f3 (Nat.le_refl _)).nAll f6 f7
 have hb':oH b=some (.row cs e rw_):=by rw[f3 b hbn];exact hb
 have hnt:notTup (ot 6)=true:=by rcases f12 with⟨h,_⟩|⟨h,_⟩ <;> rw[h] <;> rfl
 refine W0 (Yj f5 f8 @ld_r hb' @Yc ho g hnt) ?_
 exact Wp.pure ⟨So,f3,ot 6,by rw[f9],id,f10,So,f12⟩
theorem lw139 {n0 b:Nat}{H0:Hp}{v:Value}{l:List Nd}{cs:List Value}{e:Nat}{rw_:Bool}(hv:Li eNode n0 H0 v l)(hp:PoolW l)(hbn:b < n0)(hb:H0 b=some (.row cs e rw_)) (ho:cs[0]?=some v)(w:Int)(h0:0<=w)(h1:w < l.length):∀ t H n id,n0<=n->Same n0 H0 H->n0<=id->id < n->t 2=ptr b 0->t 1=.int .i64 w->t 6=sl id 0 0->H id=some (.row [] 1 true) ->
  Wp (Zm (S139L0 (Call Tryz.prog) Zm) t H n) (fun out=>n<=out.n/\Same n0 H0 out.H/\out.e=.exit 0/\out.t 2=ptr b 0/\∃ (u:Int) (id:Nat),0<=u/\u < l.length/\out.t 1=.int .i64 u/\(Zi l w).2=decide ((gi l u).k=1)/\n0<=id/\id < out.n/\At eInt id out.H (out.t 6) (Zi l w).1):=by
 intro t H n id hn0 hsm0 hid hidn e0 e1 e6 hH
 have hl:=hp.2
 refine Zt (fun d T H' n'=>∃ (u:Int) (id:Nat) (acc:List Int),0<=u/\u < l.length/\d=u.toNat/\n<=n'/\Same n0 H0 H'/\T 2=ptr b 0/\T 1=.int .i64 u/\n0<=id/\id < n'/\At eInt id H' (T 6) acc/\(acc++(Zi l u).1=(Zi l w).1)/\(Zi l u).2=(Zi l w).2) _ ?_ w.toNat t H n ⟨w,id,[],h0,h1,rfl,by omega,hsm0,e0,e1,hid,hidn,by rw[e6];exact .inr ⟨rfl,hH⟩,by simp,rfl⟩
 rintro d T H' n' ⟨u,id,acc,hu0,hu1,hd,hn,hsm,e0,e1,hid,hidn,hat,hc1,hc2⟩
 unfold S139L0
 have hv':=hv.keep hsm (Nat.le_refl _)
 have hb':H' b=some (.row cs e rw_):=by rw[hsm b hbn];exact hb
 have g:=hv'.nAll hu0 hu1
 have hce:=chainOf_eqw hp hu0 hu1
 by_cases hk:(gi l u).k=5
 ·have hpr:=(hp.at hu0 hu1).pair hk
  rw[if_pos hk]at hce
  rw[hce]at hc1 hc2
  simp only at hc1 hc2
  have hlen:acc.length<=100000:=by
   have hle:=congrArg List.length hc1
   rw[List.length_append]at hle
   have:=Vr h0 h1
   omega
  obtain⟨H3,f1,f2,f3⟩:=app_one (id1:=n'+14) (id2:=n'+15) (bytes:=8) (gi l u).a hat Om (by decide) Om
  have hsm3:Same n0 H0 H3:=fun i hi=>by rw[f3 i Om Om Om,hsm i hi]
  have g3:=(hv.keep hsm3 (Nat.le_refl _)).nAll hu0 hu1
  have hb3:H3 b=some (.row cs e rw_):=by rw[hsm3 b hbn];exact hb
  refine W0 (Yj e0 e1 @ld_r hb' @Yc ho g (Xm hk (bsl_one eInt (gi l u).a (n'+14) [.int .i64 0] (.int .i64 (gi l u).a) H' rfl rfl (by decide)) f1 hb3 g3)) ?_
  exact Wp.pure (Nxt.go (gi l u).b.toNat Om ⟨(gi l u).b,n'+15,acc++[(gi l u).a],hpr.2.1,by omega,rfl,by omega,hsm3,Pp e0,Po,by omega,by omega,by simp only[Zn];exact .inr ⟨rfl,f2⟩,by rw[List.append_assoc];exact hc1,hc2⟩)
 ·rw[if_neg hk]at hce
  rw[hce]at hc1 hc2
  refine W0 (Yj e0 e1 @ld_r hb' @Yc ho g hk) ?_
  refine Wp.pure (Nxt.exit ⟨Nat.le_trans hn (Nat.le_add_right _ _),hsm,rfl,Pp e0,u,id,hu0,hu1,Pp e1,hc2.symm,hid,Nat.lt_of_lt_of_le hidn (Nat.le_add_right _ _),?_⟩)
  rw[← hc1,List.append_nil]
  simpa[Zn]using hat
theorem kw139 {n:Nat}{H:Hp}{v:Value}{l:List Nd}(hv:Li eNode n H v l)(hp:PoolW l)(w:Int)(h0:0<=w)(h1:w < l.length):RtN Tryz.prog 139 [.agg ⟨[v]⟩,.int .i64 w] H n (fun r H' n'=>∃ u,r=.tuple ⟨[u,.bool (Wc l w).2]⟩/\New eInt n n' H' u (Wc l w).1):=by
 apply RtN.of
 rw[c139];unfold S139
 have s1:Same n H (H.set n (some (.row [v] 0 true))):=by(repeat(first|exact Same.refl _ _|refine Same.set ?_ Om _))
 refine W1 @Wz ?_
 refine Wp.bind (lw139 (n0:=n+1) (b:=n) (H0:=H.set n (some (.row [v] 0 true))) ((hv.keep s1 (Nat.le_refl _)).up Om) hp Om (Ze _ _ _) rfl w h0 h1 _ _ _ (n+3) Om ((Same.refl _ _).set Om _) Om Om Po Pa Po (Ze _ _ _)) ?_
 rintro⟨oe,ot,oH,on⟩ ⟨f2,f3,f4,f5,u,id,f6,f7,f8,f9,f10,f11,f12⟩
 simp only at f2 f3 f4 f5 f6 f7 f8 f9 f10 f11 f12
 have g:=((hv.keep s1 (Nat.le_refl _)).keep (f3.less (show n<=n+1 by omega)) (Nat.le_refl _)).nAll f6 f7
 have hb':oH n=some (.row [v] 0 true):=by rw[f3 n Om];exact Ze _ _ _
 have hnt:notTup (ot 6)=true:=by rcases f12 with⟨h,_⟩|⟨h,_⟩ <;> rw[h] <;> rfl
 have s3:Same n H oH:=s1.trans (f3.less (show n<=n+1 by omega)) (Nat.le_refl _)
 unfold Wc
 by_cases hk:(gi l u).k=1
 ·rw[decide_eq_true hk]at f9
  refine W1 (Xq f5 f8 hb' g hk hnt) ?_
  rw[f9]
  exact Wp.pure ⟨So,s3,ot 6,rfl,id,by omega,So,f12⟩
 ·rw[decide_eq_false hk]at f9
  refine W1 (Xq f5 f8 hb' g hk @Wz) ?_
  rw[f9]
  exact Wp.pure ⟨So,s3.set Om _,_,rfl,on+7,by omega,So,.inr ⟨rfl,Ze _ _ _⟩⟩
inductive PO where
 | add (x:Nd)
 | old (i:Int)
 | bad (c:Int)
def Vi (l:List Nd)(k:Int)(x:Int):Bool:=(decide (k<=5) && decide ((gi l x).k≠3)) || ((decide (k=7) || decide (k=8)) && decide ((gi l x).k≠5))
def Wu (l:List Nd)(k:Int)(xs:List Int):Nd :=
 if k=6 then⟨5,0,⟨#[]⟩,gi xs 0,gi xs 1⟩else
 if k=9 then bNd (decide ((gi l (gi xs 0)).k=1))else
 if k=10 then bNd (decide ((gi l (gi xs 0)).k=5))else
 if k=11 then bNd (decide (gi (Wm l) (gi xs 0)=gi (Wm l) (gi xs 1)))else
 if k=12 then bNd (decide ((gi l (gi xs 0)).k=2) && decide ((gi l (gi xs 0)).n=0))else
 Xi k (gi l (gi xs 0)).n (gi l (gi xs 1)).n
def Yw (l:List Nd)(k:Int)(xs:List Int):PO :=
 if xs.any (Vi l k)=true then .bad 3 else
 if k=7 then .old (gi l (gi xs 0)).a else if k=8 then .old (gi l (gi xs 0)).b else
 if -1000000000<=(Wu l k xs).n/\(Wu l k xs).n<=1000000000 then .add (Wu l k xs)else .bad 4
theorem argsLen {k:Int}(hk:1<=k/\k<=12):Yk k=if k<=6∨k=11 then 2 else 1:=by
 obtain rfl|rfl|rfl|rfl|rfl|rfl|rfl|rfl|rfl|rfl|rfl|rfl:k=1∨k=2∨k=3∨k=4∨k=5∨k=6∨k=7∨k=8∨k=9∨k=10∨k=11∨k=12:=by omega
 all_goals rfl
theorem NodeOk.num {x:Nd}{m:Int}(h:NodeOk x m)(hk:x.k=3) : -1000000000<=x.n/\x.n<=1000000000:=by
 rcases h with h|h|h|h|h|h|h|h|h <;> obtain⟨h1,h2⟩:=h <;> omega
theorem k154 {n:Nat}{H:Hp}{v w:Value}{l:List Nd}{xs:List Int}(hv:Li eNode n H v l)(hp:PoolW l)(hs:∀ x∈l,x.s.size<=1048576)(hw:Li eInt n H w xs)(k:Int)(h11:k=11->PoolOk l)(hk:1<=k/\k<=12)(hxs:(xs.length:Int)=Yk k) (hr:∀ x∈xs,0<=x/\x < (l.length:Int)) (hb:¬ xs.any (Vi l k)=true) (h78:k≠7/\k≠8):Rt Tryz.prog 154 [.agg ⟨[v]⟩,.int .i64 k,w] H n (.agg ⟨(Wu l k xs).cells⟩):=by
 apply Rt.mk
 rw[c154];unfold S154
 have hl:=hp.2
 rw[argsLen hk]at hxs
 have h0:(0:Int) < xs.length:=by split at hxs <;> omega
 have r0:=hr _ (Yb (l:=xs) (i:=0) Om h0)
 have g0:=(hw.mv (H':=(H.set n (some (.row [v] 0 true))).set (n+1) (some (.row [.int .i64 0,.int .i64 0,.string ⟨#[]⟩,.int .i64 0,.int .i64 0] 0 true))) (Nat.le_refl _) Mo).iAll (i:=0) Om h0
 have gx:=(hv.mv (H':=(H.set n (some (.row [v] 0 true))).set (n+1) (some (.row [.int .i64 0,.int .i64 0,.string ⟨#[]⟩,.int .i64 0,.int .i64 0] 0 true))) (Nat.le_refl _) Mo).nAll r0.1 r0.2
 have hok:=hp.at r0.1 r0.2
 have hnb:∀ x∈xs,Vi l k x=false:=by
  intro x hx
  cases h:Vi l k x with
  | false=>rfl
  | true=>exact absurd (List.any_eq_true.2 ⟨x,hx,h⟩) hb
 have hkx:k<=5->(gi l (gi xs 0)).k=3:=fun h5=>by
  have:=hnb _ (Yb (l:=xs) (i:=0) Om h0)
  simp[Vi,h5]at this;exact this.1
 generalize hgx:gi l (gi xs 0)=x at gx hok hkx
 obtain⟨xk,xn,xs',xa,xb⟩:=x
 simp only[Nd.cells]at gx hkx
 have hm:∀ i,i < n->(((H.set n (some (.row [v] 0 true))).set (n+1) (some (.row [.int .i64 0,.int .i64 0,.string ⟨#[]⟩,.int .i64 0,.int .i64 0] 0 true))).set (n+9) (some (.row [.int .i64 xk,.int .i64 xn,.string xs',.int .i64 xa,.int .i64 xb] 0 true))) i=H i:=Mo
 have hwm:=hw.mv (Nat.le_refl _) hm
 have hvm:=hv.mv (Nat.le_refl _) hm
 have g1:=hwm.iAll (i:=0) Om h0
 have one:1 < (xs.length:Int)->(∀ k,Zo 1 w (.int k 1)=some (elP 1 w (1:Int).toNat))/\ld false 1 (elP 1 w (1:Int).toNat) (((H.set n (some (.row [v] 0 true))).set (n+1) (some (.row [.int .i64 0,.int .i64 0,.string ⟨#[]⟩,.int .i64 0,.int .i64 0] 0 true))).set (n+9) (some (.row [.int .i64 xk,.int .i64 xn,.string xs',.int .i64 xa,.int .i64 xb] 0 true)))=some (.int .i64 (gi xs 1)):=fun h1=>hwm.iAll (i:=1) Om h1
 by_cases c6:k=6
 ·subst c6
  have g2:=one (by rw[if_pos Om]at hxs;omega)
  refine V1 (Yv g0 gx g1 g2) ?_
  exact Wp.pure ⟨So,Mo,rfl⟩
 by_cases c9:k=9
 ·subst c9
  refine V1 (Ye g0 gx g1) ?_
  refine Zv (k163 _ _ _) ?_
  intro H1 n1 q1 s1
  refine V1 (Ye @bNd.eq_1 @Nd.cells.eq_1 s1) ?_
  exact Wp.pure ⟨So,(Mm s1),by simp[Wu,bNd,Nd.cells,hgx]⟩
 by_cases c10:k=10
 ·subst c10
  refine V1 (Ye g0 gx g1) ?_
  refine Zv (k163 _ _ _) ?_
  intro H1 n1 q1 s1
  refine V1 (Ye @bNd.eq_1 @Nd.cells.eq_1 s1) ?_
  exact Wp.pure ⟨So,(Mm s1),by simp[Wu,bNd,Nd.cells,hgx]⟩
 by_cases c11:k=11
 ·subst c11
  have h1:1 < (xs.length:Int):=by rw[if_pos Om]at hxs;omega
  have g2:=one h1
  have r1:=hr _ (Yb (l:=xs) (i:=1) Om h1)
  refine V1 (Yv g0 gx g1 g2) ?_
  refine Zv (k164 (hvm.mv Om Mo) hs Om _ _) ?_
  intro H1 n1 q1 s1
  refine V1 trivial ?_
  refine Zv (k163 _ _ _) ?_
  intro H2 n2 q2 s2
  refine V1 (Yv @bNd.eq_1 @Nd.cells.eq_1 s2 s1) ?_
  exact Wp.pure ⟨So,(Mm (Zu s2 s1)),by simp[Wu,bNd,Nd.cells,sameAns,h11 rfl,r0,r1]⟩
 by_cases c12:k=12
 ·subst c12
  by_cases e2:xk=2
  ·refine V1 (Yv g0 gx g1 e2) ?_
   refine Zv (k163 _ _ _) ?_
   intro H1 n1 q1 s1
   refine V1 (Ye @bNd.eq_1 @Nd.cells.eq_1 s1) ?_
   exact Wp.pure ⟨So,(Mm s1),by simp[Wu,bNd,Nd.cells,hgx,e2]⟩
  ·refine V1 (Yv g0 gx g1 e2) ?_
   refine Zv (k163 _ _ _) ?_
   intro H1 n1 q1 s1
   refine V1 (Ye @bNd.eq_1 @Nd.cells.eq_1 s1) ?_
   exact Wp.pure ⟨So,(Mm s1),by simp[Wu,bNd,Nd.cells,hgx,e2]⟩
 have h5:k<=5:=by omega
 have h1:1 < (xs.length:Int):=by rw[if_pos Om]at hxs;omega
 have g2:=one h1
 have r1:=hr _ (Yb (l:=xs) (i:=1) Om h1)
 have gy:=hvm.nAll r1.1 r1.2
 have hoky:=hp.at r1.1 r1.2
 have hky:(gi l (gi xs 1)).k=3:=by
  have:=hnb _ (Yb (l:=xs) (i:=1) Om h1)
  simp[Vi,h5]at this;exact this.1
 have hnx:=hok.num (hkx h5)
 have hny:=hoky.num hky
 refine V1 (Yj g0 gx g1 g2 gy c6 c9 (Ye c10 c11 c12)) ?_
 refine Zv (k165 k _ _ Om hnx hny _ _) ?_
 intro H1 n1 q1 s1
 have hN:Wu l k xs=Xi k xn (gi l (gi xs 1)).n:=by simp[Wu,c6,c9,c10,c11,c12,hgx]
 generalize Xi k xn (gi l (gi xs 1)).n=z at hN ⊢
 obtain⟨zk,zn,zs,za,zb⟩:=z
 refine V1 (Zu @Nd.cells.eq_1 s1) ?_
 exact Wp.pure ⟨So,(Mm s1),by rw[hN];rfl⟩
def ndInt (n:Int):Nd:=⟨3,n,⟨#[]⟩,0,0⟩
def ndFun (n a:Int):Nd:=⟨6,n,⟨#[]⟩,a,0⟩
def ndKont (a:Int):Nd:=⟨7,0,⟨#[]⟩,a,0⟩
def ndPrim (n:Int):Nd:=⟨8,n,⟨#[]⟩,0,0⟩
def Mc.add (m:Mc)(x:List Nd):Mc:={ m with p:=m.p++x }
def mPut (v:Int)(m:Mc):Mc:={ m with p:=m.p++[Xt v m.s],s:=(m.p.length:Int) }
def mTake (m:Mc):Option (Int × Mc):=if(gi m.p m.s).k=5 then some ((gi m.p m.s).a,{ m with s:=(gi m.p m.s).b })else none
def mNth (p:List Nd):Nat->Int->Option Int
 | 0,v=>if(gi p v).k=5 then some (gi p v).a else none
 | n+1,v=>if(gi p v).k=5 then mNth p n (gi p v).b else none
abbrev MR:=Except Int Mc
def mVar (i j:Int)(m:Mc):MR :=
 match mNth m.p i.toNat m.e with
 | none=>.error 7
 | some f=>match mNth m.p j.toNat f with
  | none=>.error 7
  | some v=>.ok (mPut v m)
def mGlobal (ld:List Df)(s:ByteArray)(m:Mc):MR :=
 if 0<=Xb ld s then .ok (mPut ((m.p.length:Int)+1) (m.add [Va,ndFun (8 * (gi ld (Xb ld s)).at_+(gi ld (Xb ld s)).args) m.p.length]))
 else if Wh s=0 then .error 1 else .ok (mPut m.p.length (m.add [ndPrim (Wh s)]))
def mList (xs:List Int)(m:Mc):Mc:=m.add (lNodes m.p.length xs)
def Wn (xs:List Int)(m:Mc):Int:=(m.p.length:Int)+xs.length
def mSave (next:Int)(xs:List Int)(m:Mc):Mc:=mList ((m.p.length:Int) :: xs) (m.add [ndInt next])
def mSaveV (xs:List Int)(m:Mc):Int:=(m.p.length:Int)+1+(xs.length+1)
def mEnter (n:Int)(x:Nd)(args:List Int)(next:Int)(m:Mc):MR :=
 if x.n % 8≠(args.length:Int)then .error 2
 else if¬ x.n / 8 < n then .error 7
 else
  let m1:=mSave next [m.s,m.e] m
  let m2:Mc:={ m1.add [Xt (mSaveV [m.s,m.e] m) m.d]with d:=(m1.p.length:Int) }
  let m3:=mList args m2
  let m4:Mc:={ m3.add [Xt (Wn args m2) x.a]with e:=(m3.p.length:Int) }
  .ok { m4.add [Va]with s:=(m4.p.length:Int),a:=x.n / 8 }
def Ws (state:Int)(args:List Int)(m:Mc):MR :=
 if args.length≠1 then .error 2
 else if(Zi m.p state).2=true/\(Zi m.p state).1.length=4/\(gi m.p (gi (Zi m.p state).1 0)).k=3 then
  .ok (mPut (gi args 0) { m with a:=(gi m.p (gi (Zi m.p state).1 0)).n,s:=gi (Zi m.p state).1 1,e:=gi (Zi m.p state).1 2,d:=gi (Zi m.p state).1 3 })
 else .error 7
def mPrim (k:Int)(args:List Int)(next:Int)(m:Mc):MR :=
 match Yw m.p k args with
 | .add x=>.ok { mPut m.p.length (m.add [x])with a:=next }
 | .old i=>.ok { mPut i m with a:=next }
 | .bad q=>.error (if q=3 then 4 else 5)
def Wd (n next:Int):Nat->Int->List Int->Mc->MR
 | fuel,f,args,m=>
  if(gi m.p f).k=6 then mEnter n (gi m.p f) args next m
  else if(gi m.p f).k=8 then
   if Yk (gi m.p f).n≠(args.length:Int)then .error 2
   else if(gi m.p f).n=18 then
    match fuel with
    | 0=>.error 0
    | fuel+1=>
     let m1:=mSave next [m.s,m.e,m.d] m
     Wd n next fuel (gi args 0) [(m1.p.length:Int)] (m1.add [ndKont (mSaveV [m.s,m.e,m.d] m)])
   else if 12 < (gi m.p f).n then .ok { mList args m with r:=Wn args m,k:=(gi m.p f).n,t:=1 }
   else mPrim (gi m.p f).n args next m
  else if(gi m.p f).k=7 then Ws (gi m.p f).a args m
  else .error 3
def Xg:Nat->Mc->Option (List Int × Mc)
 | 0,m=>some ([],m)
 | n+1,m=>match mTake m with
  | none=>none
  | some (v,m1)=>match Xg n m1 with
   | none=>none
   | some (vs,m2)=>some (vs++[v],m2)
def Wx (n:Int)(many:Int)(m:Mc):MR :=
 if¬ m.a+1 < n then .error 7
 else match Xg (many.toNat+1) m with
  | none=>.error 7
  | some (vs,m1)=>Wd n (m.a+1) 3 (gi vs 0) (vs.drop 1) m1
def mBack (m:Mc):MR :=
 match mTake m with
 | none=>.error 7
 | some (v,m1)=>
  if(gi m1.p m1.d).k=1 then .ok { m1 with t:=2,a:=0,r:=v }
  else if(gi m1.p m1.d).k≠5 then .error 7
  else if(Zi m1.p (gi m1.p m1.d).a).2=true/\(Zi m1.p (gi m1.p m1.d).a).1.length=3/\(gi m1.p (gi (Zi m1.p (gi m1.p m1.d).a).1 0)).k=3 then
   .ok (mPut v { m1 with a:=(gi m1.p (gi (Zi m1.p (gi m1.p m1.d).a).1 0)).n,s:=gi (Zi m1.p (gi m1.p m1.d).a).1 1,e:=gi (Zi m1.p (gi m1.p m1.d).a).1 2,d:=(gi m1.p m1.d).b })
  else .error 7
def mGo (next:Int):MR->MR
 | .ok m=>.ok { m with a:=next }
 | .error h=>.error h
def mPlain (l:List Nd)(ld:List Df)(x:Ins)(m:Mc):MR :=
 if x.op=1 then .ok { mPut (gi (Xy m.p l x.n).2 x.n) { m with p:=(Xy m.p l x.n).1 } with a:=m.a+1 }
 else if x.op=2 then mGo (m.a+1) (mVar x.n x.i m)
 else if x.op=3 then mGo (m.a+1) (mGlobal ld x.s m)
 else if x.op=5 then .ok { m with a:=x.n }
 else if x.op=6 then .ok { mPut m.p.length (m.add [ndFun (8 * x.n+x.i) m.e])with a:=m.a+1 }
 else match mTake m with
  | none=>.error 7
  | some (v,m1)=>.ok { m1 with a:=if x.op=4/\(gi m1.p v).k=2/\(gi m1.p v).n=0 then x.n else m.a+1 }
def mRaw (l:List Nd)(li:List Ins)(ld:List Df)(m:Mc):MR :=
 if(gi li m.a).op=7 then Wx li.length (gi li m.a).i m
 else if(gi li m.a).op=8 then mBack m
 else mPlain l ld (gi li m.a) m
def mFail (m:Mc)(q:Int):Mc:=⟨m.p,0,m.s,m.e,m.d,3,q,0⟩
def mEnd (n:Int)(m:Mc):MR->Mc
 | .error h=>mFail m h
 | .ok m1=>if¬ (0<=m1.a/\m1.a<=n - 1)then mFail m 7 else if 3000 < m1.p.length then mFail m 6 else m1
def Wv (l:List Nd)(li:List Ins)(ld:List Df)(m:Mc):Mc :=
 if¬ MachOk l li ld m.p m.a m.s m.e m.d m.t m.k m.r then⟨[],0,0,0,0,3,7,0⟩
 else if m.t≠0 then m
 else mEnd li.length m (mRaw l li ld m)
structure Wf (n:Nat)(m:Mc):Prop where
 ok:NodesOk m.p 0
 s:0<=m.s/\m.s < (m.p.length:Int)
 e:0<=m.e/\m.e < (m.p.length:Int)
 d:0<=m.d/\m.d < (m.p.length:Int)
 len:m.p.length<=n
def In (m:Mc)(v:Int):Prop:=0<=v/\v < (m.p.length:Int)
theorem Wf.w {n:Nat}{m:Mc}(h:Wf n m)(hn:n<=100000):PoolW m.p:=⟨h.ok,by have:=h.len;omega⟩
theorem Wf.at {n:Nat}{m:Mc}(h:Wf n m){v:Int}(hv:In m v):NodeOk (gi m.p v) v:=nodes_at h.ok hv.1 hv.2
theorem Wf.up {n n':Nat}{m:Mc}(h:Wf n m)(hn:n<=n'):Wf n' m:=⟨h.ok,h.s,h.e,h.d,by have:=h.len;omega⟩
theorem In.add {m:Mc}{v:Int}(h:In m v)(x:List Nd):In (m.add x) v:=by
 unfold In Mc.add at *;simp only[List.length_append];omega
theorem Wf.add {n n':Nat}{m:Mc}{x:List Nd}(h:Wf n m)(hx:NodesOk x m.p.length)(hn:n+x.length<=n'):Wf n' (m.add x):=by
 have hl:=h.len
 refine⟨?_,In.add h.s x,In.add h.e x,In.add h.d x,?_⟩
 ·show NodesOk (m.p++x) 0
  rw[Wl]
  exact⟨h.ok,by simpa using hx⟩
 ·show(m.p++x).length<=n'
  rw[List.length_append];omega
theorem pair_ok {m:Mc}{a b:Int}(ha:In m a)(hb:In m b):NodesOk [Xt a b] m.p.length:=by
 refine⟨.inr (.inr (.inr (.inr (.inl ⟨rfl,rfl,rfl,?_,?_⟩)))),trivial⟩
 ·have:=ha.1;have:=ha.2;simp only;omega
 ·have:=hb.1;have:=hb.2;simp only;omega
theorem nil_ok (i:Nat):NodesOk [Va] i:=⟨.inl ⟨rfl,rfl,rfl,rfl,rfl⟩,trivial⟩
theorem int_ok {x:Int}(h : -1000000000<=x/\x<=1000000000)(i:Nat):NodesOk [ndInt x] i:=⟨.inr (.inr (.inl ⟨rfl,h,rfl,rfl,rfl⟩)),trivial⟩
theorem fun_ok {m:Mc}{x a:Int}(h:0<=x/\x<=1000000000)(ha:In m a):NodesOk [ndFun x a] m.p.length:=⟨.inr (.inr (.inr (.inr (.inr (.inl ⟨rfl,h,rfl,by have:=ha.1;have:=ha.2;simp only[ndFun];omega,rfl⟩))))),trivial⟩
theorem kont_ok {m:Mc}{a:Int}(ha:In m a):NodesOk [ndKont a] m.p.length:=⟨.inr (.inr (.inr (.inr (.inr (.inr (.inl ⟨rfl,rfl,rfl,by have:=ha.1;have:=ha.2;simp only[ndKont];omega,rfl⟩)))))),trivial⟩
theorem prim_ok {x:Int}(h:0<=x/\x<=99)(i:Nat):NodesOk [ndPrim x] i:=⟨.inr (.inr (.inr (.inr (.inr (.inr (.inr (.inl ⟨rfl,h,rfl,rfl,rfl⟩))))))),trivial⟩
theorem Wf.put {n:Nat}{m:Mc}(h:Wf n m){v:Int}(hv:In m v):Wf (n+1) (mPut v m):=by
 have h1:=h.add (n':=n+1) (pair_ok hv h.s) (by simp)
 exact⟨h1.ok,by show 0<=(m.p.length:Int)/\_;simp[mPut];omega,h1.e,h1.d,h1.len⟩
theorem Wf.take {n:Nat}{m m1:Mc}{v:Int}(h:Wf n m)(hT:mTake m=some (v,m1)):Wf n m1/\In m v/\m1={ m with s:=(gi m.p m.s).b }:=by
 unfold mTake at hT
 split at hT
 ·rename_i h5
  cases hT
  have hp:=(h.at h.s).pair h5
  have:=h.s
  exact⟨⟨h.ok,⟨hp.2.1,by show(gi m.p m.s).b < (m.p.length:Int);omega⟩,h.e,h.d,h.len⟩,⟨hp.1.1,by omega⟩,rfl⟩
 ·cases hT
theorem mNth_rng {n:Nat}{m:Mc}(h:Wf n m):∀ (k:Nat)(v:Int),In m v->∀ w,mNth m.p k v=some w->In m w
 | 0,v,hv,w,hw=>by
  unfold mNth at hw
  split at hw
  ·rename_i h5
   cases hw
   have hp:=(h.at hv).pair h5
   exact⟨hp.1.1,by have:=hv.2;omega⟩
  ·cases hw
 | k+1,v,hv,w,hw=>by
  unfold mNth at hw
  split at hw
  ·rename_i h5
   have hp:=(h.at hv).pair h5
   exact mNth_rng h k _ ⟨hp.2.1,by have:=hv.2;omega⟩ w hw
  ·cases hw
theorem lNodes_okW {m:Mc}{xs:List Int}(hx:∀ v∈xs,In m v):NodesOk (lNodes m.p.length xs) m.p.length:=by
 refine⟨.inl ⟨rfl,rfl,rfl,rfl,rfl⟩,lPairs_ok _ _ _ (fun a ha=>?_) Om Om⟩
 have:=hx a (by simpa using ha)
 exact⟨this.1,by have:=this.2;omega⟩
theorem Wf.list {n:Nat}{m:Mc}(h:Wf n m){xs:List Int}(hx:∀ v∈xs,In m v):Wf (n+(xs.length+1)) (mList xs m)/\In (mList xs m) (Wn xs m):=by
 refine⟨h.add (lNodes_okW hx) (by rw[lNodes_len];omega),?_⟩
 unfold In mList Wn Mc.add
 simp only[List.length_append,lNodes_len]
 omega
theorem Wf.save {n:Nat}{m:Mc}(h:Wf n m){xs:List Int}(hx:∀ v∈xs,In m v){next:Int}(hn : -1000000000<=next/\next<=1000000000):Wf (n+1+(xs.length+2)) (mSave next xs m)/\In (mSave next xs m) (mSaveV xs m):=by
 have h1:=h.add (n':=n+1) (int_ok hn _) (by simp)
 obtain⟨h2,h3⟩:=h1.list (xs:=(m.p.length:Int) :: xs) (by
  intro v hv
  rcases List.mem_cons.1 hv with rfl|hv
  ·unfold In Mc.add;simp only[List.length_append,List.length_cons,List.length_nil];omega
  ·exact(hx v hv).add _)
 refine⟨h2,?_⟩
 have e:Wn ((m.p.length:Int) :: xs) (m.add [ndInt next])=mSaveV xs m:=by
  unfold Wn mSaveV Mc.add
  simp only[List.length_append,List.length_cons,List.length_nil]
  omega
 rw[e]at h3
 exact h3
theorem chain_mw {l:List Nd}(hp:NodesOk l 0):∀ (f:Nat)(v:Int),0<=v->v < l.length->∀ y∈(chain l f v).1,0<=y/\y < (l.length:Int)
 | 0,v,_,_,y,hy=>by simp[chain]at hy
 | f+1,v,h0,h1,y,hy=>by
  unfold chain at hy
  by_cases h5:(gi l v).k=5
  ·rw[if_pos h5]at hy
   have hk:=(nodes_at hp h0 h1).pair h5
   rcases List.mem_cons.1 hy with rfl|h
   ·exact⟨hk.1.1,by omega⟩
   ·exact chain_mw hp f (gi l v).b hk.2.1 Om y h
  ·rw[if_neg h5]at hy;simp at hy
theorem Wf.chain {n:Nat}{m:Mc}(h:Wf n m){v:Int}(hv:In m v){i:Int}(h0:0<=i)(h1:i < ((Zi m.p v).1.length:Int)):In m (gi (Zi m.p v).1 i):=chain_mw h.ok _ v hv.1 hv.2 _ (Yb h0 h1)
def PRes (po:PO)(l:List Nd)(c o id n:Nat)(cs:List Value)(e:Nat)(v:Value)(r:Value)(H':Hp)(n':Nat):Prop :=
 match po with
 | .add x=>r=.tuple ⟨[.int .i64 l.length,.int .i64 0]⟩/\∃ v' id',n<=id'/\PC c o id' n' H' (cs.set o v') e v' (l++[x])
 | .old i=>r=.tuple ⟨[.int .i64 i,.int .i64 0]⟩/\PC c o id n' H' cs e v l
 | .bad q=>r=.tuple ⟨[.int .i64 (-1),.int .i64 q]⟩/\PC c o id n' H' cs e v l
theorem PC.ldF {c o id n:Nat}{H:Hp}{cs:List Value}{e:Nat}{v:Value}{l:List Nd}(h:PC c o id n H cs e v l):Ax.ld false 1 (ptr c o) H=some v:=by
 rw[ld_r,h.hc,Yc,h.ho]
theorem PC.ldA {c o id n:Nat}{H:Hp}{cs:List Value}{e:Nat}{v:Value}{l:List Nd}(h:PC c o id n H cs e v l):Ax.ld true 1 (ptr c o) H=some (.agg ⟨[v]⟩):=by
 have ho:=h.ho
 obtain⟨hlt,hv⟩:=List.getElem?_eq_some_iff.1 ho
 rw[ldA_r,h.hc,rowAgg_row,if_pos Om,List.drop_eq_getElem_cons hlt,hv];rfl
theorem PC.li {c o id n:Nat}{H:Hp}{cs:List Value}{e:Nat}{v:Value}{l:List Nd}(h:PC c o id n H cs e v l):Li eNode n H v l:=h.at_.lst h.idn
theorem bad_all {l:List Nd}{k:Int}{xs:List Int}(h:∀ q:Nat,q < xs.length->Vi l k (gi xs (q:Int))=false):¬ xs.any (Vi l k)=true:=by
 intro ht
 obtain⟨x,hx,hb⟩:=List.any_eq_true.1 ht
 obtain⟨q,hq,rfl⟩:=List.mem_iff_getElem.1 hx
 have:=h q hq
 rw[Yq hq,hb]at this;cases this
theorem bad_one {l:List Nd}{k:Int}{xs:List Int}{q:Nat}(hq:q < xs.length)(h:Vi l k (gi xs (q:Int))=true):xs.any (Vi l k)=true:=by
 rw[Yq hq]at h
 exact List.any_eq_true.2 ⟨_,List.getElem_mem hq,h⟩
theorem l0142 {c o id n0:Nat}{H0:Hp}{cs:List Value}{e:Nat}{v w:Value}{l:List Nd}{xs:List Int}(h:PC c o id n0 H0 cs e v l)(hw:Li eInt n0 H0 w xs)(k:Int)(hl:xs.length<=10)(hr:∀ x∈xs,0<=x/\x < (l.length:Int)):∀ t n,n0<=n->t 0=ptr c o->t 1=.int .i64 k->t 2=w->t 11=w->t 12=.int .i64 xs.length->t 13=.int .i64 0 ->
  Wp (Zm (S142L0 (Call Tryz.prog) Zm) t H0 n) (fun out=>n<=out.n/\out.H=H0/\((out.e=.exit 0/\out.t 0=ptr c o/\out.t 1=.int .i64 k/\out.t 2=w/\¬ xs.any (Vi l k)=true)∨(out.e=.ret/\out.t 6=.int .i64 (-1)/\out.t 7=.int .i64 3/\xs.any (Vi l k)=true))):=by
 intro t n hn0 e0 e1 e2 e11 e12 e13
 refine Zt (fun d T H' n'=>∃ j:Nat,j+d=xs.length/\n<=n'/\H'=H0/\T 0=ptr c o/\T 1=.int .i64 k/\T 2=w/\T 11=w/\T 12=.int .i64 xs.length/\T 13=.int .i64 j/\∀ q:Nat,q < j->Vi l k (gi xs (q:Int))=false) _ ?_ xs.length t H0 n ⟨0,by omega,by omega,rfl,e0,e1,e2,e11,e12,e13,fun q hq=>by omega⟩
 rintro d T H' n' ⟨j,hj,hn,rfl,e0,e1,e2,e11,e12,e13,hall⟩
 unfold S142L0
 have hld:=h.ldF
 by_cases hlt:j < xs.length
 ·have hlti:(j:Int) < xs.length:=by omega
  have hws:=wj (j:=j) (len:=xs.length) hlt Om
  have g:=hw.iAll (i:=(j:Int)) Om hlti
  have hrj:=hr _ (Yb (l:=xs) (i:=(j:Int)) Om hlti)
  have gn:=h.li.nAll hrj.1 hrj.2
  have hgo:Vi l k (gi xs (j:Int))=false->∀ (T':Tm) (n2:Nat),n<=n2->T' 0=ptr c o->T' 1=.int .i64 k->T' 2=w->T' 11=w->T' 12=.int .i64 xs.length->T' 13=.int .i64 ((j+1:Nat):Int)->Wp (some (⟨.normal,T',H',n2⟩:Out)) (Nxt (fun d T H'' n'=>∃ j:Nat,j+d=xs.length/\n<=n'/\H''=H'/\T 0=ptr c o/\T 1=.int .i64 k/\T 2=w/\T 11=w/\T 12=.int .i64 xs.length/\T 13=.int .i64 j/\∀ q:Nat,q < j->Vi l k (gi xs (q:Int))=false) d (fun out=>n<=out.n/\out.H=H'/\((out.e=.exit 0/\out.t 0=ptr c o/\out.t 1=.int .i64 k/\out.t 2=w/\¬ xs.any (Vi l k)=true)∨(out.e=.ret/\out.t 6=.int .i64 (-1)/\out.t 7=.int .i64 3/\xs.any (Vi l k)=true)))):=by
   intro hb T' n2 a1 a2 a3 a4 a5 a6 a7
   refine Wp.pure (Nxt.go (d - 1) Om ⟨j+1,by omega,a1,rfl,a2,a3,a4,a5,a6,a7,fun q hq=>?_⟩)
   by_cases hqj:q=j
   ·subst hqj;exact hb
   ·exact hall q Om
  have hre:Vi l k (gi xs (j:Int))=true->∀ (T':Tm) (n2:Nat),n<=n2->T' 6=.int .i64 (-1)->T' 7=.int .i64 3->Wp (some (⟨.ret,T',H',n2⟩:Out)) (Nxt (fun d T H'' n'=>∃ j:Nat,j+d=xs.length/\n<=n'/\H''=H'/\T 0=ptr c o/\T 1=.int .i64 k/\T 2=w/\T 11=w/\T 12=.int .i64 xs.length/\T 13=.int .i64 j/\∀ q:Nat,q < j->Vi l k (gi xs (q:Int))=false) d (fun out=>n<=out.n/\out.H=H'/\((out.e=.exit 0/\out.t 0=ptr c o/\out.t 1=.int .i64 k/\out.t 2=w/\¬ xs.any (Vi l k)=true)∨(out.e=.ret/\out.t 6=.int .i64 (-1)/\out.t 7=.int .i64 3/\xs.any (Vi l k)=true)))) :=
   fun hb T' n2 a1 a2 a3=>Wp.pure (Nxt.ret ⟨a1,rfl,.inr ⟨rfl,a2,a3,bad_one hlt hb⟩⟩)
  by_cases h5:k<=5
  ·have n7:¬ k=7:=by omega
   have n8:¬ k=8:=by omega
   by_cases b3:(gi l (gi xs (j:Int))).k=3
   ·refine V1 (Yj e0 e1 e2 e11 e12 e13 hlti (Yj g gn hld hws h5 b3 n7 n8)) ?_
    exact hgo (by simp[Vi,h5,b3,n7,n8]) _ _ Om (Pp e0) (Pp e1) (Pp e2) (Pp e11) (Pp e12) Po
   ·refine V1 (Yj e0 e1 e2 e11 e12 e13 hlti (Yj g gn hld hws h5 b3 n7 n8)) ?_
    exact hre (by simp[Vi,h5,b3,n7,n8]) _ _ Om Po Po
  by_cases c7:k=7
  ·subst c7
   by_cases b5:(gi l (gi xs (j:Int))).k=5
   ·refine V1 (Yj e0 e1 e2 e11 e12 e13 hlti (Xq g gn hld hws h5 b5)) ?_
    exact hgo (by simp[Vi,b5]) _ _ Om (Pp e0) (Pp e1) (Pp e2) (Pp e11) (Pp e12) Po
   ·refine V1 (Yj e0 e1 e2 e11 e12 e13 hlti (Xq g gn hld hws h5 b5)) ?_
    exact hre (by simp[Vi,b5]) _ _ Om Po Po
  by_cases c8:k=8
  ·subst c8
   by_cases b5:(gi l (gi xs (j:Int))).k=5
   ·refine V1 (Yj e0 e1 e2 e11 e12 e13 hlti (Xq g gn hld hws h5 b5)) ?_
    exact hgo (by simp[Vi,b5]) _ _ Om (Pp e0) (Pp e1) (Pp e2) (Pp e11) (Pp e12) Po
   ·refine V1 (Yj e0 e1 e2 e11 e12 e13 hlti (Xq g gn hld hws h5 b5)) ?_
    exact hre (by simp[Vi,b5]) _ _ Om Po Po
  refine V1 (Yj e0 e1 e2 e11 e12 e13 hlti (Wt g gn hld hws h5 c7 c8)) ?_
  exact hgo (by simp[Vi,h5,c7,c8]) _ _ Om (Pp e0) (Pp e1) (Pp e2) (Pp e11) (Pp e12) Po
 ·have hlti:¬ (j:Int) < xs.length:=by omega
  refine V0 (Ye e12 e13 hlti) ?_
  exact Wp.pure (Nxt.exit ⟨So,rfl,.inl ⟨rfl,Pp e0,Pp e1,Pp e2,bad_all fun q hq=>hall q Om⟩⟩)
theorem k142 {c o id n:Nat}{H:Hp}{cs:List Value}{e:Nat}{v w:Value}{l:List Nd}{xs:List Int}(h:PC c o id n H cs e v l)(hp:PoolW l)(hs:∀ x∈l,x.s.size<=1048576)(hw:Li eInt n H w xs)(k:Int)(h11:k=11->PoolOk l)(hk:1<=k/\k<=12)(hxs:(xs.length:Int)=Yk k) (hr:∀ x∈xs,0<=x/\x < (l.length:Int)):RtA Tryz.prog 142 [ptr c o,.int .i64 k,w] c id H n (fun r H' n'=>PRes (Yw l k xs) l c o id n cs e v r H' n'):=by
 apply RtA.of
 rw[c142];unfold S142
 have hl:=hp.2
 have hlen:=hxs
 rw[argsLen hk]at hlen
 have h0:(0:Int) < xs.length:=by split at hlen <;> omega
 have hx10:xs.length<=10:=by split at hlen <;> omega
 have hld:=h.ldF
 have hldA:=h.ldA
 refine V0 hw.len ?_
 refine Wp.bind (l0142 h hw k hx10 hr _ _ Om Pa Pa Pa Pa Po Po) ?_
 rintro⟨oe,ot,oH,on⟩ ⟨f1,rfl,f3⟩
 simp only at f1 f3
 have r0:=hr _ (Yb (l:=xs) (i:=0) Om h0)
 have g0:=hw.iAll (i:=0) Om h0
 have gn:=h.li.nAll r0.1 r0.2
 rcases f3 with⟨rfl,f4,f5,f6,f7⟩|⟨rfl,f4,f5,f6⟩
 case inr=>
  have hP:Yw l k xs=.bad 3:=by unfold Yw;rw[if_pos f6]
  simp(disch:=omega)only[↓reduceIte,Zr,↓X0,X1,Nat.reduceEqDiff,Int.reduceEq,Nat.reduceAdd,Nat.reduceSub,f4,f5]
  exact Wp.pure ⟨So,fun _ _ _ _=>rfl,by rw[hP];exact⟨rfl,h.mv So rfl rfl⟩⟩
 by_cases c7:k=7
 ·subst c7
  have hP:Yw l 7 xs=.old (gi l (gi xs 0)).a:=by unfold Yw;rw[if_neg f7,if_pos rfl]
  refine V0 (Xq f4 f5 f6 hld g0 gn) ?_
  exact Wp.pure ⟨So,fun _ _ _ _=>rfl,by rw[hP];exact⟨rfl,h.mv So rfl rfl⟩⟩
 by_cases c8:k=8
 ·subst c8
  have hP:Yw l 8 xs=.old (gi l (gi xs 0)).b:=by unfold Yw;rw[if_neg f7,if_neg (by decide),if_pos rfl]
  refine V0 (Xq f4 f5 f6 hld g0 gn) ?_
  exact Wp.pure ⟨So,fun _ _ _ _=>rfl,by rw[hP];exact⟨rfl,h.mv So rfl rfl⟩⟩
 have hP:Yw l k xs=if -1000000000<=(Wu l k xs).n/\(Wu l k xs).n<=1000000000 then .add (Wu l k xs)else .bad 4:=by unfold Yw;rw[if_neg f7,if_neg c7,if_neg c8]
 refine V0 (Xq f4 f5 f6 hldA c7 c8) ?_
 refine Zv (k154 (h.li.mv Om Mo) hp hs (hw.mv Om Mo) k h11 hk hxs hr f7 ⟨c7,c8⟩) ?_
 intro H1 n1 q1 s1
 generalize Wu l k xs=z at hP ⊢
 by_cases hz : -1000000000<=z.n/\z.n<=1000000000
 ·rw[if_pos hz]at hP
  obtain⟨zk,zn,zs,za,zb⟩:=z
  simp only at hz
  have h1:PC c o id n1 (H1.set (on+11) (some (.row (Nd.cells ⟨zk,zn,zs,za,zb⟩) 0 true))) cs e v l:=h.mv Om (by have:=h.cn;simp(disch:=omega) only[Zf,s1]) (by have:=h.idn;simp(disch:=omega) only[Zf,s1])
  simp only[Nd.cells]at h1
  refine V1 (Xm @Nd.cells.eq_1 f4 @k43 hz @and_self) ?_
  refine Zj (k101 (h1.mv Om rfl rfl) Om ⟨zk,zn,zs,za,zb⟩) ?_
  rintro _ H2 n2 q2 s2 ⟨rfl,v',id',i1,i2⟩
  refine V0 trivial ?_
  exact Wp.pure ⟨So,(Mm (Zu s2 s1)),by rw[hP];exact⟨rfl,v',id',by omega,i2⟩⟩
 ·rw[if_neg hz]at hP
  obtain⟨zk,zn,zs,za,zb⟩:=z
  simp only at hz
  have h1:PC c o id n1 (H1.set (on+11) (some (.row (Nd.cells ⟨zk,zn,zs,za,zb⟩) 0 true))) cs e v l:=h.mv Om (by have:=h.cn;simp(disch:=omega) only[Zf,s1]) (by have:=h.idn;simp(disch:=omega) only[Zf,s1])
  simp only[Nd.cells]at h1
  refine V1 (Yv @Nd.cells.eq_1 f4 @k43 hz) ?_
  exact Wp.pure ⟨So,(Mm s1),by rw[hP];exact⟨rfl,h1.mv So rfl rfl⟩⟩
theorem any_two {xs:List Int}{p:Int->Bool}(h:xs.length=2):xs.any p=(p (gi xs 0) || p (gi xs 1)):=by
 match xs,h with
 | [a,b],_=>simp[gi]
theorem any_one {xs:List Int}{p:Int->Bool}(h:xs.length=1):xs.any p=p (gi xs 0):=by
 match xs,h with
 | [a],_=>simp[gi]
theorem bad_none {l:List Nd}{k:Int}{xs:List Int}(h1:¬ k<=5)(h2:k≠7)(h3:k≠8):¬ xs.any (Vi l k)=true:=by
 intro h
 obtain⟨x,_,hx⟩:=List.any_eq_true.1 h
 simp[Vi,h1,h2,h3]at hx
theorem Vv {l:List Nd}{k:Int}{xs:List Int}(h1:¬ xs.any (Vi l k)=true) (h2:k≠7)(h3:k≠8){z:Nd}(hz:Wu l k xs=z)(hr : -1000000000<=z.n/\z.n<=1000000000):Yw l k xs=.add z:=by
 subst hz
 unfold Yw
 rw[if_neg h1,if_neg h2,if_neg h3,if_pos hr]
theorem k153 {c o id n:Nat}{H:Hp}{cs:List Value}{e:Nat}{v w:Value}{l:List Nd}{xs:List Int}(h:PC c o id n H cs e v l)(hp:PoolW l)(hs:∀ x∈l,x.s.size<=1048576)(hw:Li eInt n H w xs)(k:Int)(h11:k=11->PoolOk l)(hk:1<=k/\k<=12)(hxs:(xs.length:Int)=Yk k) (hr:∀ x∈xs,0<=x/\x < (l.length:Int)):RtA Tryz.prog 153 [ptr c o,.int .i64 k,w] c id H n (fun r H' n'=>PRes (Yw l k xs) l c o id n cs e v r H' n'):=by
 apply RtA.of
 rw[c153];unfold S153
 have hl:=hp.2
 have hlen:=hxs
 rw[argsLen hk]at hlen
 have h0:(0:Int) < xs.length:=by split at hlen <;> omega
 have hld:=h.ldF
 have r0:=hr _ (Yb (l:=xs) (i:=0) Om h0)
 have g0:=hw.iAll (i:=0) Om h0
 have gn:=h.li.nAll r0.1 r0.2
 have hok:=hp.at r0.1 r0.2
 have hcn:=h.cn
 have hidn:=h.idn
 generalize hgx:gi l (gi xs 0)=x at gn hok
 obtain⟨xk,xn,xs',xa,xb⟩:=x
 simp only[Nd.cells]at gn
 have hm:∀ i,i < n->(H.set (n+11) (some (.row [.int .i64 xk,.int .i64 xn,.string xs',.int .i64 xa,.int .i64 xb] 0 true))) i=H i:=Mo
 have hwm:=hw.mv (Nat.le_refl _) hm
 have hpm:PC c o id n (H.set (n+11) (some (.row [.int .i64 xk,.int .i64 xn,.string xs',.int .i64 xa,.int .i64 xb] 0 true))) cs e v l:=h.mv Om (hm c hcn) (hm id hidn)
 have hldm:=hpm.ldF
 have g1:=hwm.iAll (i:=0) Om h0
 have one:1 < (xs.length:Int)->(∀ k,Zo 1 w (.int k 1)=some (elP 1 w (1:Int).toNat))/\ld false 1 (elP 1 w (1:Int).toNat) (H.set (n+11) (some (.row [.int .i64 xk,.int .i64 xn,.string xs',.int .i64 xa,.int .i64 xb] 0 true)))=some (.int .i64 (gi xs 1)):=fun h1=>hwm.iAll (i:=1) Om h1
 have fin:∀ (q:Int) (H':Hp) (n':Nat),n<=n'->(∀ i,i < n->H' i=H i)->Yw l k xs=.bad q->Wp (some (Value.tuple ⟨[.int .i64 (-1),.int .i64 q]⟩,H',n')) (fun a=>n<=a.2.2/\(∀ i,i < n->i≠c->i≠id->a.2.1 i=H i)/\PRes (Yw l k xs) l c o id n cs e v a.1 a.2.1 a.2.2):=by
  intro q H' n' h1 h2 h3
  exact Wp.pure ⟨h1,fun i hi _ _=>h2 i hi,by rw[h3];exact⟨rfl,h.mv h1 (h2 c hcn) (h2 id hidn)⟩⟩
 have fold:∀ (q:Int) (H':Hp) (n':Nat),n<=n'->(∀ i,i < n->H' i=H i)->Yw l k xs=.old q->Wp (some (Value.tuple ⟨[.int .i64 q,.int .i64 0]⟩,H',n')) (fun a=>n<=a.2.2/\(∀ i,i < n->i≠c->i≠id->a.2.1 i=H i)/\PRes (Yw l k xs) l c o id n cs e v a.1 a.2.1 a.2.2):=by
  intro q H' n' h1 h2 h3
  exact Wp.pure ⟨h1,fun i hi _ _=>h2 i hi,by rw[h3];exact⟨rfl,h.mv h1 (h2 c hcn) (h2 id hidn)⟩⟩
 by_cases h5:k<=5
 ·have hl2:xs.length=2:=by rw[if_pos Om]at hlen;omega
  have h1:1 < (xs.length:Int):=by omega
  have g2:=one h1
  have r1:=hr _ (Yb (l:=xs) (i:=1) Om h1)
  have gy:=hpm.li.nAll r1.1 r1.2
  have hoky:=hp.at r1.1 r1.2
  have n7:k≠7:=by omega
  have n8:k≠8:=by omega
  have hany:xs.any (Vi l k)=(decide (xk≠3) || decide ((gi l (gi xs 1)).k≠3)):=by rw[any_two hl2];simp[Vi,h5,hgx,n7,n8]
  have hpn:Wu l k xs=Xi k xn (gi l (gi xs 1)).n:=by
   unfold Wu
   rw[if_neg Om,if_neg Om,if_neg Om,if_neg Om,if_neg Om,hgx]
  generalize gi l (gi xs 1)=y at gy hoky hany hpn
  refine V1 (Yj hld hldm g0 gn g1 g2 gy h5) ?_
  refine Zv (k160 k ⟨xk,xn,xs',xa,xb⟩ y ⟨hk.1,h5⟩ (fun q=>hok.num q) (fun q=>hoky.num q) _ _) ?_
  intro H1 n1 q1 s1
  by_cases hb:xk≠3∨y.k≠3
  ·have hO:Ve k ⟨xk,xn,xs',xa,xb⟩ y=(ndZero,3):=if_pos hb
   rw[hO]
   refine V1 (Zu @ndZero.eq_1 @Nd.cells.eq_1) ?_
   refine fin _ _ _ Om (Mm s1) ?_
   unfold Yw
   rw[if_pos (by rw[hany];simpa using hb)]
  by_cases hz : -1000000000<=(Xi k xn y.n).n/\(Xi k xn y.n).n<=1000000000
  ·have hO:Ve k ⟨xk,xn,xs',xa,xb⟩ y=(Xi k xn y.n,0):=by unfold Ve;rw[if_neg hb,if_pos hz]
   have hP:=Vv (l:=l) (k:=k) (xs:=xs) (by rw[hany];simpa using hb) n7 n8 hpn hz
   rw[hO]
   generalize Xi k xn y.n=z at hP hz ⊢
   obtain⟨zk,zn,zs,za,zb⟩:=z
   refine V1 @Nd.cells.eq_1 ?_
   refine Zj (k88 (h.mv Om (by simp(disch:=omega) only[Zf,s1]) (by simp(disch:=omega) only[Zf,s1])) Om ⟨zk,zn,zs,za,zb⟩) ?_
   rintro _ H2 n2 q2 s2 ⟨rfl,v',id',i1,i2⟩
   refine V0 trivial ?_
   exact Wp.pure ⟨So,(Mm (Zu s2 s1)),by rw[hP];exact⟨rfl,v',id',by omega,i2⟩⟩
  ·have hO:Ve k ⟨xk,xn,xs',xa,xb⟩ y=(ndZero,4):=by unfold Ve;rw[if_neg hb,if_neg hz]
   rw[hO]
   refine V1 (Zu @ndZero.eq_1 @Nd.cells.eq_1) ?_
   refine fin _ _ _ Om (Mm s1) ?_
   unfold Yw
   rw[if_neg (by rw[hany];simpa using hb),if_neg n7,if_neg n8,hpn,if_neg hz]
 by_cases c6:k=6
 ·subst c6
  have g2:=one (by rw[if_pos Om]at hlen;omega)
  have hP:=Vv (l:=l) (k:=6) (xs:=xs) (bad_none (by decide) (by decide) (by decide)) (by decide) (by decide) (z:=⟨5,0,⟨#[]⟩,gi xs 0,gi xs 1⟩) rfl (by constructor <;> simp only <;> decide)
  refine V1 (Wt hld hldm g0 gn g1 g2 h5) ?_
  refine Zj (k88 (h.mv Om (by simp(disch:=omega) only[Zf]) (by simp(disch:=omega) only[Zf])) Om ⟨5,0,⟨#[]⟩,gi xs 0,gi xs 1⟩) ?_
  rintro _ H2 n2 q2 s2 ⟨rfl,v',id',i1,i2⟩
  refine V0 trivial ?_
  exact Wp.pure ⟨So,(Mm s2),by rw[hP];exact⟨rfl,v',id',by omega,i2⟩⟩
 by_cases c7:k=7
 ·subst c7
  have hl1:xs.length=1:=by rw[if_neg Om]at hlen;omega
  have hany:xs.any (Vi l 7)=decide (xk≠5):=by rw[any_one hl1];simp[Vi,hgx]
  by_cases b5:xk=5
  ·refine V1 (Yj hld hldm g0 gn g1 h5 ((show(7:Int)<=8 by decide)) (Zu ((show(8:Int)<=8 by decide)) b5)) ?_
   refine fold _ _ _ Om Mo ?_
   unfold Yw
   rw[if_neg (by rw[hany];simp[b5]),if_pos rfl,hgx]
  ·refine V1 (Yj hld hldm g0 gn g1 h5 ((show(7:Int)<=8 by decide)) (Zu ((show(8:Int)<=8 by decide)) b5)) ?_
   refine fin _ _ _ Om Mo ?_
   unfold Yw
   rw[if_pos (by rw[hany];simp[b5])]
 by_cases c8:k=8
 ·subst c8
  have hl1:xs.length=1:=by rw[if_neg Om]at hlen;omega
  have hany:xs.any (Vi l 8)=decide (xk≠5):=by rw[any_one hl1];simp[Vi,hgx]
  by_cases b5:xk=5
  ·refine V1 (Yj hld hldm g0 gn g1 h5 ((show(7:Int)<=8 by decide)) (Zu ((show(8:Int)<=8 by decide)) b5)) ?_
   refine fold _ _ _ Om Mo ?_
   unfold Yw
   rw[if_neg (by rw[hany];simp[b5]),if_neg (by decide),if_pos rfl,hgx]
  ·refine V1 (Yj hld hldm g0 gn g1 h5 ((show(7:Int)<=8 by decide)) (Zu ((show(8:Int)<=8 by decide)) b5)) ?_
   refine fin _ _ _ Om Mo ?_
   unfold Yw
   rw[if_pos (by rw[hany];simp[b5])]
 have hle8:¬ k<=8:=by omega
 by_cases c9:k=9
 ·subst c9
  have hP:=Vv (l:=l) (k:=9) (xs:=xs) (bad_none (by decide) (by decide) (by decide)) (by decide) (by decide) (z:=bNd (decide (xk=1))) (by simp[Wu,hgx]) (bNd_rng _)
  refine V1 (Wt hld hldm g0 gn g1 h5 hle8) ?_
  refine Zv (k161 _ _ _) ?_
  intro H1 n1 q1 s1
  generalize hbz:bNd _=z at hP ⊢
  obtain⟨zk,zn,zs,za,zb⟩:=z
  refine V1 @Nd.cells.eq_1 ?_
  refine Zj (k88 (h.mv Om (by simp(disch:=omega) only[Zf,s1]) (by simp(disch:=omega) only[Zf,s1])) Om ⟨zk,zn,zs,za,zb⟩) ?_
  rintro _ H2 n2 q2 s2 ⟨rfl,v',id',i1,i2⟩
  refine V0 trivial ?_
  exact Wp.pure ⟨So,(Mm (Zu s2 s1)),by rw[hP];exact⟨rfl,v',id',by omega,i2⟩⟩
 by_cases c10:k=10
 ·subst c10
  have hP:=Vv (l:=l) (k:=10) (xs:=xs) (bad_none (by decide) (by decide) (by decide)) (by decide) (by decide) (z:=bNd (decide (xk=5))) (by simp[Wu,hgx]) (bNd_rng _)
  refine V1 (Wt hld hldm g0 gn g1 h5 hle8) ?_
  refine Zv (k161 _ _ _) ?_
  intro H1 n1 q1 s1
  generalize hbz:bNd _=z at hP ⊢
  obtain⟨zk,zn,zs,za,zb⟩:=z
  refine V1 @Nd.cells.eq_1 ?_
  refine Zj (k88 (h.mv Om (by simp(disch:=omega) only[Zf,s1]) (by simp(disch:=omega) only[Zf,s1])) Om ⟨zk,zn,zs,za,zb⟩) ?_
  rintro _ H2 n2 q2 s2 ⟨rfl,v',id',i1,i2⟩
  refine V0 trivial ?_
  exact Wp.pure ⟨So,(Mm (Zu s2 s1)),by rw[hP];exact⟨rfl,v',id',by omega,i2⟩⟩
 by_cases c11:k=11
 ·subst c11
  have hP:=Vv (l:=l) (k:=11) (xs:=xs) (bad_none (by decide) (by decide) (by decide)) (by decide) (by decide) (z:=bNd (decide (gi (Wm l) (gi xs 0)=gi (Wm l) (gi xs 1)))) (by simp[Wu]) (bNd_rng _)
  have h1:1 < (xs.length:Int):=by rw[if_pos Om]at hlen;omega
  have r1:=hr _ (Yb (l:=xs) (i:=1) Om h1)
  have hldA:=hpm.ldA
  refine V1 (Yj hld hldm hldA g0 gn g1 h5 hle8) ?_
  refine Ya (k162 (hpm.li.mv Om Mo) (h11 rfl)) ?_
  rintro cv Ha na qa sa ⟨cid,ci1,ci2,ci3⟩
  have ga:=(hwm.mv (H':=Ha) (Nat.le_refl _) (Mm sa)).iAll (i:=0) Om h0
  have gb:=(hwm.mv (H':=Ha) (Nat.le_refl _) (Mm sa)).iAll (i:=1) Om h1
  have hcl:=ci3.lst ci2
  have gc:=hcl.iAll (i:=gi xs 0) r0.1 (by rw[classes_len];exact r0.2)
  have gd:=hcl.iAll (i:=gi xs 1) r1.1 (by rw[classes_len];exact r1.2)
  refine V1 (Yv ga gb gc gd) ?_
  refine Zv (k161 _ _ _) ?_
  intro H1 n1 q1 s1
  generalize hbz:bNd _=z at hP ⊢
  obtain⟨zk,zn,zs,za,zb⟩:=z
  refine V1 @Nd.cells.eq_1 ?_
  refine Zj (k88 (h.mv Om (by simp(disch:=omega) only[Zf,s1,sa]) (by simp(disch:=omega) only[Zf,s1,sa])) Om ⟨zk,zn,zs,za,zb⟩) ?_
  rintro _ H2 n2 q2 s2 ⟨rfl,v',id',i1,i2⟩
  refine V0 trivial ?_
  exact Wp.pure ⟨So,(Mm (Ye s2 s1 sa)),by rw[hP];exact⟨rfl,v',id',by omega,i2⟩⟩
 have c12:k=12:=by omega
 subst c12
 by_cases e2:xk=2
 ·have hP:=Vv (l:=l) (k:=12) (xs:=xs) (bad_none (by decide) (by decide) (by decide)) (by decide) (by decide) (z:=bNd (decide (xk=2) && decide (xn=0))) (by simp[Wu,hgx]) (bNd_rng _)
  rw[decide_eq_true e2,Bool.true_and]at hP
  refine V1 (Yj hld hldm g0 gn g1 h5 hle8 e2) ?_
  refine Zv (k161 _ _ _) ?_
  intro H1 n1 q1 s1
  generalize hbz:bNd _=z at hP ⊢
  obtain⟨zk,zn,zs,za,zb⟩:=z
  refine V1 @Nd.cells.eq_1 ?_
  refine Zj (k88 (h.mv Om (by simp(disch:=omega) only[Zf,s1]) (by simp(disch:=omega) only[Zf,s1])) Om ⟨zk,zn,zs,za,zb⟩) ?_
  rintro _ H2 n2 q2 s2 ⟨rfl,v',id',i1,i2⟩
  refine V0 trivial ?_
  exact Wp.pure ⟨So,(Mm (Zu s2 s1)),by rw[hP];exact⟨rfl,v',id',by omega,i2⟩⟩
 ·have hP:=Vv (l:=l) (k:=12) (xs:=xs) (bad_none (by decide) (by decide) (by decide)) (by decide) (by decide) (z:=bNd (decide (xk=2) && decide (xn=0))) (by simp[Wu,hgx]) (bNd_rng _)
  rw[decide_eq_false e2,Bool.false_and]at hP
  refine V1 (Yj hld hldm g0 gn g1 h5 hle8 e2) ?_
  refine Zv (k161 _ _ _) ?_
  intro H1 n1 q1 s1
  generalize hbz:bNd _=z at hP ⊢
  obtain⟨zk,zn,zs,za,zb⟩:=z
  refine V1 @Nd.cells.eq_1 ?_
  refine Zj (k88 (h.mv Om (by simp(disch:=omega) only[Zf,s1]) (by simp(disch:=omega) only[Zf,s1])) Om ⟨zk,zn,zs,za,zb⟩) ?_
  rintro _ H2 n2 q2 s2 ⟨rfl,v',id',i1,i2⟩
  refine V0 trivial ?_
  exact Wp.pure ⟨So,(Mm (Zu s2 s1)),by rw[hP];exact⟨rfl,v',id',by omega,i2⟩⟩
abbrev MV (v:Value)(m:Mc)(R:List Value):List Value:=v :: .int .i64 m.a :: .int .i64 m.s :: .int .i64 m.e :: .int .i64 m.d :: .int .i64 m.t :: .int .i64 m.k :: .int .i64 m.r :: R
abbrev SM (c id n:Nat)(H:Hp)(R:List Value)(v:Value)(m:Mc):Prop:=PC c 0 id n H (MV v m R) 0 v m.p
theorem SM.to {c id n n':Nat}{H H':Hp}{R:List Value}{v:Value}{m m':Mc}(h:SM c id n H R v m)(hn:n<=n')(h1:H' c=some (.row (MV v m' R) 0 true)) (h2:H' id=H id)(hp:m'.p=m.p):SM c id n' H' R v m' :=
 ⟨h1,rfl,by rw[hp];exact h.at_.mv h2,by have:=h.cn;omega,by have:=h.idn;omega,h.ne⟩
structure Cd (n0:Nat)(H:Hp)(x1 x2 x3:Value)(l:List Nd)(li:List Ins)(ld:List Df):Prop where
 p:Li eNode n0 H x1 l
 i:Li eIns n0 H x2 li
 d:Li eDef n0 H x3 ld
theorem Cd.mv {n0:Nat}{H H':Hp}{x1 x2 x3:Value}{l:List Nd}{li:List Ins}{ld:List Df}(h:Cd n0 H x1 x2 x3 l li ld)(hs:∀ i,i < n0->H' i=H i):Cd n0 H' x1 x2 x3 l li ld :=
 ⟨h.p.mv (Nat.le_refl _) hs,h.i.mv (Nat.le_refl _) hs,h.d.mv (Nat.le_refl _) hs⟩
def MRes (res:MR)(c id n:Nat)(R:List Value)(w:Value)(H':Hp)(n':Nat):Prop :=
 ∃ (q:Int) (m':Mc) (v':Value) (id':Nat),w=.int .i64 q/\(n<=id'∨id'=id)/\SM c id' n' H' R v' m'/\(match res with|.ok m1=>q=0/\m'=m1|.error h=>q=h/\h≠0)
theorem MRes.ok {c id id' n n':Nat}{H':Hp}{R:List Value}{v':Value}{m':Mc}(h:SM c id' n' H' R v' m')(hi:n<=id'∨id'=id):MRes (.ok m') c id n R (.int .i64 0) H' n':=⟨0,m',v',id',rfl,hi,h,rfl,rfl⟩
theorem Yh {c id id' n n':Nat}{H':Hp}{R:List Value}{v':Value}{m':Mc}{q:Int}(h:SM c id' n' H' R v' m')(hi:n<=id'∨id'=id)(hq:q≠0):MRes (.error q) c id n R (.int .i64 q) H' n':=⟨q,m',v',id',rfl,hi,h,rfl,hq⟩
def TRes (o:Option (Int × Mc)) (m:Mc)(c id:Nat)(R:List Value)(v:Value)(r:Value)(H':Hp)(n':Nat):Prop :=
 match o with
 | some (y,m1)=>r=.tuple ⟨[.int .i64 y,.bool true]⟩/\SM c id n' H' R v m1
 | none=>r=.tuple ⟨[.int .i64 0,.bool false]⟩/\SM c id n' H' R v m
def nthV:Option Int->List Value
 | some w=>[.int .i64 w,.bool true]
 | none=>[.int .i64 0,.bool false]
theorem add2 (m:Mc)(a b:Nd):m.add [a,b]=(m.add [a]).add [b]:=by simp[Mc.add]
theorem k97 {c id n:Nat}{H:Hp}{v x1 x2 x3:Value}{m:Mc}(h:SM c id n H [x1,x2,x3] v m)(hl:m.p.length<=1000000)(y:Int):RtA Tryz.prog 97 [ptr c 0,.int .i64 y] c id H n (fun w H' n'=>w=.tuple ⟨[]⟩/\∃ v' id',n<=id'/\SM c id' n' H' [x1,x2,x3] v' (mPut y m)):=by
 apply RtA.of
 rw[c97];unfold S97
 have hc:H c=some (.row [v,.int .i64 m.a,.int .i64 m.s,.int .i64 m.e,.int .i64 m.d,.int .i64 m.t,.int .i64 m.k,.int .i64 m.r,x1,x2,x3] 0 true):=h.hc
 have hcn:=h.cn
 refine W1 hc ?_
 refine Zj (k125 (h.mv Om rfl rfl) Om y m.s) ?_
 rintro _ H1 n1 q1 s1 ⟨rfl,v',id',i1,hPC⟩
 have hc1:H1 c=some (.row [v',.int .i64 m.a,.int .i64 m.s,.int .i64 m.e,.int .i64 m.d,.int .i64 m.t,.int .i64 m.k,.int .i64 m.r,x1,x2,x3] 0 true):=hPC.hc
 refine W1 hc1 ?_
 exact Wp.pure ⟨So,(Mm s1),rfl,v',id',by omega,Ze _ _ _,rfl,hPC.at_.mv (Zf _ _ hPC.ne),hPC.cn,hPC.idn,hPC.ne⟩
theorem kM83 {c id n:Nat}{H:Hp}{v:Value}{m:Mc}(h:SM c id n H [] v m)(hl:m.p.length<=1000000)(y:Int):RtA Tryz.prog 83 [ptr c 0,.int .i64 y] c id H n (fun w H' n'=>w=.tuple ⟨[]⟩/\∃ v' id',n<=id'/\SM c id' n' H' [] v' (mPut y m)):=k83 h hl y
theorem k93 {c id n:Nat}{H:Hp}{v x1 x2 x3:Value}{m:Mc}(h:SM c id n H [x1,x2,x3] v m)(hs:In m m.s):RtA Tryz.prog 93 [ptr c 0] c id H n (TRes (mTake m) m c id [x1,x2,x3] v):=by
 apply RtA.of
 rw[c93];unfold S93
 have hc:H c=some (.row [v,.int .i64 m.a,.int .i64 m.s,.int .i64 m.e,.int .i64 m.d,.int .i64 m.t,.int .i64 m.k,.int .i64 m.r,x1,x2,x3] 0 true):=h.hc
 have hcn:=h.cn
 have hid:=h.idn
 have hne:=h.ne
 have gx:=h.li.nAll hs.1 hs.2
 unfold mTake
 by_cases h5:(gi m.p m.s).k=5
 ·rw[if_pos h5]
  generalize gi m.p m.s=x at gx h5 ⊢
  obtain⟨xk,xn,xs,xa,xb⟩:=x
  simp only[Nd.cells]at gx h5
  refine W1 (Ye hc gx h5) ?_
  exact Wp.pure ⟨So,Mo,rfl,h.to So (Ze _ _ _) Mo rfl⟩
 ·rw[if_neg h5]
  generalize gi m.p m.s=x at gx h5 ⊢
  obtain⟨xk,xn,xs,xa,xb⟩:=x
  simp only[Nd.cells]at gx h5
  refine W1 (Ye hc gx h5) ?_
  exact Wp.pure ⟨So,Mo,rfl,h.mv So Mo Mo⟩
theorem k87 {c id n:Nat}{H:Hp}{v:Value}{m:Mc}(h:SM c id n H [] v m)(hs:In m m.s):RtA Tryz.prog 87 [ptr c 0] c id H n (TRes (mTake m) m c id [] v):=by
 apply RtA.of
 rw[c87];unfold S87
 have hc:H c=some (.row [v,.int .i64 m.a,.int .i64 m.s,.int .i64 m.e,.int .i64 m.d,.int .i64 m.t,.int .i64 m.k,.int .i64 m.r] 0 true):=h.hc
 have hcn:=h.cn
 have hid:=h.idn
 have hne:=h.ne
 have gx:=h.li.nAll hs.1 hs.2
 unfold mTake
 by_cases h5:(gi m.p m.s).k=5
 ·rw[if_pos h5]
  generalize gi m.p m.s=x at gx h5 ⊢
  obtain⟨xk,xn,xs,xa,xb⟩:=x
  simp only[Nd.cells]at gx h5
  refine W1 (Ye hc gx h5) ?_
  exact Wp.pure ⟨So,Mo,rfl,h.to So (Ze _ _ _) Mo rfl⟩
 ·rw[if_neg h5]
  generalize gi m.p m.s=x at gx h5 ⊢
  obtain⟨xk,xn,xs,xa,xb⟩:=x
  simp only[Nd.cells]at gx h5
  refine W1 (Ye hc gx h5) ?_
  exact Wp.pure ⟨So,Mo,rfl,h.mv So Mo Mo⟩
theorem Wf.nx {w:Nat}{m:Mc}(h:Wf w m){u:Int}(hu:In m u)(h5:(gi m.p u).k=5):In m (gi m.p u).b:=by
 have hp:=(h.at hu).pair h5
 exact⟨hp.2.1,by have:=hu.2;omega⟩
theorem l127 {c id n0:Nat}{H0:Hp}{v x1 x2 x3:Value}{m:Mc}(h:SM c id n0 H0 [x1,x2,x3] v m){w:Nat}(hw:Wf w m)(k0:Nat)(hk0:k0<=1000)(u0:Int)(hu0:In m u0):∀ t n,n0<=n->t 0=ptr c 0->t 1=.int .i64 u0->t 2=.int .i64 (k0:Int) ->
  Wp (Zm (S127L0 (Call Tryz.prog) Zm) t H0 n) (fun out=>n<=out.n/\out.H=H0/\((out.e=.exit 0/\out.t 0=ptr c 0/\∃ u,In m u/\out.t 1=.int .i64 u/\mNth m.p 0 u=mNth m.p k0 u0)∨(out.e=.ret/\out.t 6=.int .i64 0/\out.t 7=.bool false/\mNth m.p k0 u0=none))):=by
 intro t n hn0 e0 e1 e2
 refine Zt (fun d T H' n'=>∃ u,In m u/\n<=n'/\H'=H0/\T 0=ptr c 0/\T 1=.int .i64 u/\T 2=.int .i64 (d:Int)/\mNth m.p d u=mNth m.p k0 u0/\d<=k0) _ ?_ k0 t H0 n ⟨u0,hu0,by omega,rfl,e0,e1,e2,rfl,by omega⟩
 rintro d T H' n' ⟨u,hu,hn,rfl,e0,e1,e2,hN,hd⟩
 unfold S127L0
 have hc:H' c=some (.row [v,.int .i64 m.a,.int .i64 m.s,.int .i64 m.e,.int .i64 m.d,.int .i64 m.t,.int .i64 m.k,.int .i64 m.r,x1,x2,x3] 0 true):=h.hc
 have g:=h.li.nAll hu.1 hu.2
 cases d with
 | zero=>
  refine W0 (Yv e0 e1 e2 (show¬ (0:Int) < ((0:Nat):Int) by decide)) ?_
  exact Wp.pure (Nxt.exit ⟨So,rfl,.inl ⟨rfl,Pp e0,u,hu,Pp e1,hN⟩⟩)
 | succ d=>
  have hpos:(0:Int) < ((d+1:Nat):Int):=by omega
  have hw1:IntKind.i64.wrap (((d+1:Nat):Int) - 1)=(d:Int):=sub1 Om
  by_cases h5:(gi m.p u).k=5
  ·refine W1 (Yj e0 e1 e2 hpos hc g h5 hw1) ?_
   refine Wp.pure (Nxt.go d Om ⟨(gi m.p u).b,hw.nx hu h5,by omega,rfl,Pp e0,Po,Po,?_,by omega⟩)
   rw[← hN,mNth,if_pos h5]
  ·refine W1 (Wt e0 e1 e2 hpos hc g h5) ?_
   refine Wp.pure (Nxt.ret ⟨So,rfl,.inr ⟨rfl,Po,Po,?_⟩⟩)
   rw[← hN,mNth,if_neg h5]
theorem k127 {c id n:Nat}{H:Hp}{v x1 x2 x3:Value}{m:Mc}(h:SM c id n H [x1,x2,x3] v m){w:Nat}(hw:Wf w m)(k:Int)(hk:0<=k/\k<=1000)(u:Int)(hu:In m u):Rt Tryz.prog 127 [ptr c 0,.int .i64 u,.int .i64 k] H n (.tuple ⟨nthV (mNth m.p k.toNat u)⟩):=by
 apply Rt.mk
 rw[c127];unfold S127
 have hc:H c=some (.row [v,.int .i64 m.a,.int .i64 m.s,.int .i64 m.e,.int .i64 m.d,.int .i64 m.t,.int .i64 m.k,.int .i64 m.r,x1,x2,x3] 0 true):=h.hc
 refine W0 trivial ?_
 refine Wp.bind (l127 h hw k.toNat Om u hu _ _ Om Pa Pa (by simp[Zn,Zz];omega)) ?_
 rintro⟨oe,ot,oH,on⟩ ⟨f1,f2,f3⟩
 simp only at f1 f2 f3
 subst f2
 rcases f3 with⟨rfl,f4,u',hu',f5,f6⟩|⟨rfl,f4,f5,f6⟩
 ·have g:=h.li.nAll hu'.1 hu'.2
  rw[← f6,mNth]
  by_cases h5:(gi m.p u').k=5
  ·rw[if_pos h5]
   refine W1 (Xm f4 f5 hc g h5) ?_
   exact Wp.pure ⟨So,fun _ _=>rfl,rfl⟩
  ·rw[if_neg h5]
   refine W1 (Xm f4 f5 hc g h5) ?_
   exact Wp.pure ⟨So,fun _ _=>rfl,rfl⟩
 ·rw[f6]
  refine W0 (Zu f4 f5) ?_
  exact Wp.pure ⟨So,fun _ _=>rfl,by simp only[f4,f5];rfl⟩
theorem l85 {b n0:Nat}{H0:Hp}{v:Value}{m:Mc}(h:Li eNode n0 H0 v m.p)(hb:H0 b=some (.row [v] 0 true)){w:Nat}(hw:Wf w m)(k0:Nat)(hk0:k0<=1000)(u0:Int)(hu0:In m u0):∀ t n,n0<=n->t 3=ptr b 0->t 1=.int .i64 u0->t 2=.int .i64 (k0:Int) ->
  Wp (Zm (S85L0 (Call Tryz.prog) Zm) t H0 n) (fun out=>n<=out.n/\out.H=H0/\out.e=.exit 0/\out.t 3=ptr b 0/\∃ u,In m u/\out.t 1=.int .i64 u/\mNth m.p 0 u=mNth m.p k0 u0):=by
 intro t n hn0 e0 e1 e2
 refine Zt (fun d T H' n'=>∃ u,In m u/\n<=n'/\H'=H0/\T 3=ptr b 0/\T 1=.int .i64 u/\T 2=.int .i64 (d:Int)/\mNth m.p d u=mNth m.p k0 u0/\d<=k0) _ ?_ k0 t H0 n ⟨u0,hu0,by omega,rfl,e0,e1,e2,rfl,by omega⟩
 rintro d T H' n' ⟨u,hu,hn,rfl,e0,e1,e2,hN,hd⟩
 unfold S85L0
 have g:=h.nAll hu.1 hu.2
 cases d with
 | zero=>
  refine W1 (Xm e0 e1 e2 hb (show¬ (0:Int) < ((0:Nat):Int) by decide)) ?_
  exact Wp.pure (Nxt.exit ⟨So,rfl,rfl,Pp e0,u,hu,Pp e1,hN⟩)
 | succ d=>
  have hpos:(0:Int) < ((d+1:Nat):Int):=by omega
  have hw1:IntKind.i64.wrap (((d+1:Nat):Int) - 1)=(d:Int):=sub1 Om
  by_cases h5:(gi m.p u).k=5
  ·refine W1 (Yj e0 e1 e2 hpos hb g h5 hw1) ?_
   refine Wp.pure (Nxt.go d Om ⟨(gi m.p u).b,hw.nx hu h5,by omega,rfl,Pp e0,Po,Po,?_,by omega⟩)
   rw[← hN,mNth,if_pos h5]
  ·refine W1 (Wt e0 e1 e2 hpos hb g h5) ?_
   refine Wp.pure (Nxt.exit ⟨So,rfl,rfl,Pp e0,u,hu,Pp e1,?_⟩)
   rw[← hN,mNth,if_neg h5,mNth,if_neg h5]
theorem k85 {n:Nat}{H:Hp}{v:Value}{m:Mc}(h:Li eNode n H v m.p){w:Nat}(hw:Wf w m)(k:Int)(hk:0<=k/\k<=1000)(u:Int)(hu:In m u):Rt Tryz.prog 85 [.agg ⟨[v]⟩,.int .i64 u,.int .i64 k] H n (.tuple ⟨nthV (mNth m.p k.toNat u)⟩):=by
 apply Rt.mk
 rw[c85];unfold S85
 have h':=h.mv (H':=H.set n (some (.row [v] 0 true))) (m:=n+3) Om Mo
 refine W1 trivial ?_
 refine Wp.bind (l85 h' (Ze _ _ _) hw k.toNat Om u hu _ _ Om Pa Pa (by simp[Zn,Zz];omega)) ?_
 rintro⟨oe,ot,oH,on⟩ ⟨f1,f2,f3,f4,u',hu',f5,f6⟩
 simp only at f1 f2 f3 f4 f5
 subst f2
 subst f3
 have g:=h'.nAll hu'.1 hu'.2
 rw[← f6,mNth]
 by_cases h5:(gi m.p u').k=5
 ·rw[if_pos h5]
  refine W1 (Yv f4 f5 g h5) ?_
  exact Wp.pure ⟨So,Mo,rfl⟩
 ·rw[if_neg h5]
  refine W1 (Yv f4 f5 g h5) ?_
  exact Wp.pure ⟨So,Mo,rfl⟩
theorem k99 {c id n:Nat}{H:Hp}{v x1 x2 x3:Value}{m:Mc}(h:SM c id n H [x1,x2,x3] v m){w:Nat}(hw:Wf w m)(hwl:w<=100000)(i j:Int)(hi:0<=i/\i<=1000)(hj:0<=j/\j<=1000):RtA Tryz.prog 99 [ptr c 0,.int .i64 i,.int .i64 j] c id H n (MRes (mVar i j m) c id n [x1,x2,x3]):=by
 apply RtA.of
 rw[c99];unfold S99
 have hc:H c=some (.row [v,.int .i64 m.a,.int .i64 m.s,.int .i64 m.e,.int .i64 m.d,.int .i64 m.t,.int .i64 m.k,.int .i64 m.r,x1,x2,x3] 0 true):=h.hc
 have hcn:=h.cn
 have hid:=h.idn
 have hne:=h.ne
 have hl:=hw.len
 refine W1 hc ?_
 refine Zv (k127 (h.mv Om rfl rfl) hw i hi m.e hw.e) ?_
 intro H1 n1 q1 s1
 unfold mVar
 cases hF:mNth m.p i.toNat m.e with
 | none=>
  refine W0 (Zu @nthV.eq_1 @nthV.eq_2) ?_
  exact Wp.pure ⟨So,(Mm s1),Yh (h.mv So (Mm s1) (Mm s1)) (.inr rfl) (by decide)⟩
 | some f=>
  have hf:=mNth_rng hw _ _ hw.e _ hF
  refine W0 (Zu @nthV.eq_1 @nthV.eq_2) ?_
  refine Zv (k127 (h.mv Om (Mm s1) (Mm s1)) hw j hj f hf) ?_
  intro H2 n2 q2 s2
  cases hG:mNth m.p j.toNat f with
  | none=>
   refine W0 (Zu @nthV.eq_1 @nthV.eq_2) ?_
   exact Wp.pure ⟨So,(Mm (Zu s2 s1)),Yh (h.mv So (Mm (Zu s2 s1)) (Mm (Zu s2 s1))) (.inr rfl) (by decide)⟩
  | some y=>
   refine W0 (Zu @nthV.eq_1 @nthV.eq_2) ?_
   refine Zj (k97 (h.mv Om (Mm (Zu s2 s1)) (Mm (Zu s2 s1))) Om y) ?_
   rintro _ H3 n3 q3 s3 ⟨rfl,v',id',i1,hS⟩
   refine W0 trivial ?_
   exact Wp.pure ⟨So,(Mm (Ye s3 s2 s1)),MRes.ok (hS.mv So rfl rfl) (.inl Om)⟩
theorem k100 {n0 c id n:Nat}{H:Hp}{v x1 x2 x3:Value}{m:Mc}{l:List Nd}{li:List Ins}{ld:List Df}(h:SM c id n H [x1,x2,x3] v m)(hl:m.p.length<=100000)(hC:Cd n0 H x1 x2 x3 l li ld)(hn0:n0<=c/\n0<=id)(hk:Xd l li ld)(s:ByteArray):RtA Tryz.prog 100 [ptr c 0,.string s] c id H n (MRes (mGlobal ld s m) c id n [x1,x2,x3]):=by
 apply RtA.of
 rw[c100];unfold S100
 have hc:H c=some (.row [v,.int .i64 m.a,.int .i64 m.s,.int .i64 m.e,.int .i64 m.d,.int .i64 m.t,.int .i64 m.k,.int .i64 m.r,x1,x2,x3] 0 true):=h.hc
 have hcn:=h.cn
 have hid:=h.idn
 have hne:=h.ne
 have hdl:=hk.2.2.1
 have hll:=hk.2.1
 refine W1 hc ?_
 refine Zv (k76 (hC.d.mv Om Mo) Om s) ?_
 intro H1 n1 q1 s1
 have hr:=defOf_rng ld s
 unfold mGlobal
 by_cases hd:0<=Xb ld s
 ·rw[if_pos hd]
  have g:=(hC.d.mv (H':=H1) (Nat.le_refl _) (Mm s1)).dAll hd hr.2
  have hdf:=hk.2.2.2.2 (Xb ld s).toNat Om
  unfold DfOk at hdf
  rw[show((Xb ld s).toNat:Int)=Xb ld s by omega]at hdf
  obtain⟨-,-,hat,har⟩:=hdf
  generalize gi ld (Xb ld s)=x at g hat har ⊢
  obtain⟨xs,xa,xg⟩:=x
  simp only[Df.cells]at g hat har
  have w1:IntKind.i64.wrap (8 * xa)=8 * xa:=Wo Om
  have w2:IntKind.i64.wrap (8 * xa+xg)=8 * xa+xg:=Wo Om
  refine W1 (Yv s1 hc hd g) ?_
  refine Zj (k101 (h.mv Om (Mm s1) (Mm s1)) Om Va) ?_
  rintro _ H2 n2 q2 s2 ⟨rfl,v2,id2,i2,hS2⟩
  have b2:H2 (n1+10)=some (.row [.string xs,.int .i64 xa,.int .i64 xg] 0 true):=by rw[s2 _ Om Om Om];exact Ze _ _ _
  refine W1 (Ye b2 w1 w2) ?_
  refine Zj (k101 (hS2.mv Om rfl rfl) (by simp;omega) (ndFun (8 * xa+xg) m.p.length)) ?_
  rintro _ H3 n3 q3 s3 ⟨rfl,v3,id3,i3,hS3⟩
  refine W1 trivial ?_
  refine Zj (k97 (m:=(m.add [Va]).add [ndFun (8 * xa+xg) m.p.length]) (hS3.mv Om rfl rfl) (by simp[Mc.add];omega) _) ?_
  rintro _ H4 n4 q4 s4 ⟨rfl,v4,id4,i4,hS4⟩
  refine W0 trivial ?_
  rw[add2]
  refine Wp.pure ⟨So,(Mm (Yv s4 s3 s2 s1)),MRes.ok (v':=v4) (id':=id4) ?_ (.inl Om)⟩
  have e:(((m.p++[Va]).length:Nat):Int)=(m.p.length:Int)+1:=by simp
  rw[e]at hS4
  exact hS4.mv So rfl rfl
 ·rw[if_neg hd]
  refine W1 (Ye s1 hc hd) ?_
  refine Zv (k128 s _ _) ?_
  intro H2 n2 q2 s2
  by_cases hp:Wh s=0
  ·rw[if_pos hp]
   refine W0 hp ?_
   exact Wp.pure ⟨So,(Mm (Zu s2 s1)),Yh (h.mv So (Mm (Zu s2 s1)) (Mm (Zu s2 s1))) (.inr rfl) (by decide)⟩
  ·rw[if_neg hp]
   refine W1 hp ?_
   refine Zj (k101 (h.mv Om (Mm (Zu s2 s1)) (Mm (Zu s2 s1))) Om (ndPrim (Wh s))) ?_
   rintro _ H3 n3 q3 s3 ⟨rfl,v3,id3,i3,hS3⟩
   refine W1 trivial ?_
   refine Zj (k97 (m:=m.add [ndPrim (Wh s)]) (hS3.mv Om rfl rfl) (by simp[Mc.add];omega) _) ?_
   rintro _ H4 n4 q4 s4 ⟨rfl,v4,id4,i4,hS4⟩
   refine W0 trivial ?_
   exact Wp.pure ⟨So,(Mm (Yv s4 s3 s2 s1)),MRes.ok (hS4.mv So rfl rfl) (.inl Om)⟩
theorem k86 {n0 c id n:Nat}{H:Hp}{v x1 x2 x3:Value}{m:Mc}{l:List Nd}{li:List Ins}{ld:List Df}(h:SM c id n H [] v m)(hl:m.p.length<=100000)(hC:Cd n0 H x1 x2 x3 l li ld)(hn0:n0<=c/\n0<=id)(hk:Xd l li ld)(s:ByteArray):RtA Tryz.prog 86 [.agg ⟨[x1,x2,x3]⟩,ptr c 0,.string s] c id H n (MRes (mGlobal ld s m) c id n []):=by
 apply RtA.of
 rw[c86];unfold S86
 have hcn:=h.cn
 have hid:=h.idn
 have hne:=h.ne
 have hdl:=hk.2.2.1
 have hll:=hk.2.1
 refine W1 trivial ?_
 refine Zv (k80 (hC.d.mv Om Mo) Om s) ?_
 intro H1 n1 q1 s1
 have hr:=defOf_rng ld s
 unfold mGlobal
 by_cases hd:0<=Xb ld s
 ·rw[if_pos hd]
  have hdf:=hk.2.2.2.2 (Xb ld s).toNat Om
  unfold DfOk at hdf
  rw[show((Xb ld s).toNat:Int)=Xb ld s by omega]at hdf
  obtain⟨-,-,hat,har⟩:=hdf
  refine W1 (Zu s1 hd) ?_
  refine Zj (k88 (h.mv Om (Mm s1) (Mm s1)) Om Va) ?_
  rintro _ H2 n2 q2 s2 ⟨rfl,v2,id2,i2,hS2⟩
  have b2:H2 n=some (.row [x1,x2,x3] 0 true):=by rw[s2 _ Om Om Om,s1 _ Om];exact Ze _ _ _
  have g:=(hC.d.mv (H':=H2) (Nat.le_refl _) (Mm (Zu s2 s1))).dAll hd hr.2
  generalize gi ld (Xb ld s)=x at g hat har ⊢
  obtain⟨xs,xa,xg⟩:=x
  simp only[Df.cells]at g hat har
  have w1:IntKind.i64.wrap (8 * xa)=8 * xa:=Wo Om
  have w2:IntKind.i64.wrap (8 * xa+xg)=8 * xa+xg:=Wo Om
  refine W1 (Yv b2 g w1 w2) ?_
  refine Zj (k88 (hS2.mv Om rfl rfl) (by simp;omega) (ndFun (8 * xa+xg) m.p.length)) ?_
  rintro _ H3 n3 q3 s3 ⟨rfl,v3,id3,i3,hS3⟩
  refine W1 trivial ?_
  refine Zj (kM83 (m:=(m.add [Va]).add [ndFun (8 * xa+xg) m.p.length]) (hS3.mv Om rfl rfl) (by simp[Mc.add];omega) _) ?_
  rintro _ H4 n4 q4 s4 ⟨rfl,v4,id4,i4,hS4⟩
  refine W0 trivial ?_
  rw[add2]
  refine Wp.pure ⟨So,(Mm (Yv s4 s3 s2 s1)),MRes.ok (v':=v4) (id':=id4) ?_ (.inl Om)⟩
  have e:(((m.p++[Va]).length:Nat):Int)=(m.p.length:Int)+1:=by simp
  rw[e]at hS4
  exact hS4.mv So rfl rfl
 ·rw[if_neg hd]
  refine W1 (Zu s1 hd) ?_
  refine Zv (k119 s _ _) ?_
  intro H2 n2 q2 s2
  by_cases hp:Wh s=0
  ·rw[if_pos hp]
   refine W0 hp ?_
   exact Wp.pure ⟨So,(Mm (Zu s2 s1)),Yh (h.mv So (Mm (Zu s2 s1)) (Mm (Zu s2 s1))) (.inr rfl) (by decide)⟩
  ·rw[if_neg hp]
   refine W1 hp ?_
   refine Zj (k88 (h.mv Om (Mm (Zu s2 s1)) (Mm (Zu s2 s1))) Om (ndPrim (Wh s))) ?_
   rintro _ H3 n3 q3 s3 ⟨rfl,v3,id3,i3,hS3⟩
   refine W1 trivial ?_
   refine Zj (kM83 (m:=m.add [ndPrim (Wh s)]) (hS3.mv Om rfl rfl) (by simp[Mc.add];omega) _) ?_
   rintro _ H4 n4 q4 s4 ⟨rfl,v4,id4,i4,hS4⟩
   refine W0 trivial ?_
   exact Wp.pure ⟨So,(Mm (Yv s4 s3 s2 s1)),MRes.ok (hS4.mv So rfl rfl) (.inl Om)⟩
end Go.Proofs.YtcffcnipmgkjfaaGreat.Ax
