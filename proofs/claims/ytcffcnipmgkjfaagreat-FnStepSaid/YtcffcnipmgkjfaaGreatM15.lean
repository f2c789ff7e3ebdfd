/- What the law needs: laws of the abstract machine, and contracts of functions. -/
import Derived.Test.YtcffcnipmgkjfaaGreatM2
import Derived.Test.YtcffcnipmgkjfaaGreatM12
import Derived.Test.YtcffcnipmgkjfaaGreatM14
import Derived.Test.YtcffcnipmgkjfaaGreatM3
import Derived.Test.YtcffcnipmgkjfaaGreatM9
import Derived.Test.YtcffcnipmgkjfaaGreatM10
import Derived.Test.YtcffcnipmgkjfaaGreatM7
set_option linter.unusedVariables false
set_option linter.unusedSimpArgs false
set_option maxHeartbeats 8000000
namespace Go.Proofs.YtcffcnipmgkjfaaGreat.Ax
open Go
theorem cExpr_leaf {p:List Nd}{k:Nat}{v:Int}{e:Env}{s:CS}(h0:s.how=0)(h:(gi p v).k=1∨(gi p v).k=2∨(gi p v).k=3):Xr p (k+1) v e s=Yu (Zw 1 v 0) s:=by rw[Xr,if_pos h0,if_pos h]
theorem cExpr_sym {p:List Nd}{k:Nat}{v:Int}{e:Env}{s:CS}(h0:s.how=0)(h:(gi p v).k=4):Xr p (k+1) v e s=if Vq (gi p v).s=true then Xa 1 s else Yu (varIns (gi p v).s e) s:=by
 rw[Xr,if_pos h0,if_neg Om];exact if_pos h
theorem cExpr_bad {p:List Nd}{k:Nat}{v:Int}{e:Env}{s:CS}(h0:s.how=0)(h1:¬ ((gi p v).k=1∨(gi p v).k=2∨(gi p v).k=3)) (h4:(gi p v).k≠4) (h:¬ ((gi p v).k=5/\(Zi p v).2=true)):Xr p (k+1) v e s=Xa 1 s:=by
 rw[Xr,if_pos h0,if_neg h1,if_neg h4,if_neg h]
theorem cExpr_pair {p:List Nd}{k:Nat}{v:Int}{e:Env}{s:CS}(h0:s.how=0)(h:(gi p v).k=5) (h2:(Zi p v).2=true):Xr p (k+1) v e s=if(gi p (gi (Zi p v).1 0)).k=4/\Vq (gi p (gi (Zi p v).1 0)).s=true then cForm (Xr p k) p (gi p (gi (Zi p v).1 0)).s (Zi p v).1 e s else if 5 < (Zi p v).1.length then Xa 1 s else Yu (Zw 7 0 ((Zi p v).1.length - 1)) ((Zi p v).1.foldl (fun s x=>Xr p k x e s) s):=by
 rw[Xr,if_pos h0,if_neg Om,if_neg Om,if_pos ⟨h,h2⟩]
theorem l171 {v:Value}{p:List Nd}{E:CEx}{l:List Int}(hg:∀ v e,Goes (E v e)) (hE:∀ x∈l,XR 171 v p E x){c il n:Nat}{H:Hp}{ul ud w ew:Value}{s:CS}{e:Env}(h:CC c il n H v ul ud s)(hv:LO eNode c il n H v p)(he:EnvOk e)(hex:∀ x∈l,e.length+x.toNat<=90000)(hev:EV c il n H ew e)(hw:LO eInt c il n H w l)(hl:l.length<=1000000):∀ t n1,n<=n1->t 0=ptr c 0->t 2=ew->t 9=w->t 12=.int .i64 0 ->
  Wp (Zm (S171L0 (Call Tryz.prog) Zm) t H n1) (fun o=>n<=o.n/\Kept c il n H o.H/\o.e=.exit 1/\NextW c il n o.n o.H v ud (l.foldl (fun s x=>E x e s) s)/\o.t 0=ptr c 0/\o.t 9=w):=by
 intro t n1 hn1 e0 e2 e9 e12
 have hcn:=h.cn
 have hil:=h.iln
 refine Zt (fun d T H' n'=>∃ (j:Nat) (ul':Value) (il':Nat) (a:CS),j+d=l.length/\n<=n'/\Kept c il n H H'/\(il'=il∨n<=il')/\CC c il' n' H' v ul' ud a/\Wk a ((l.take j).foldl (fun s x=>E x e s) s)/\T 0=ptr c 0/\T 2=ew/\T 9=w/\T 12=.int .i64 j) _ ?_ l.length _ _ _ ⟨0,ul,il,s,by omega,hn1,fun _ _ _ _=>rfl,.inl rfl,h.mv Om rfl rfl,Wk.refl _,e0,e2,e9,e12⟩
 rintro d T H' n' ⟨j,ul',il',a,hj,hn,s1,hi',h',hwk,e0,e2,e9,e12⟩
 unfold S171L0
 have hw':=hw.mv hn s1 hi'
 have hlen:=hw'.li.len
 by_cases hlt:(j:Int) < l.length
 ·have hlt':j < l.length:=by omega
  have hev':=hev.mv hn s1 hi'
  have hv':=hv.mv hn s1 hi'
  have g:=hw'.li.iAll (i:=(j:Int)) Om hlt
  have hmem:=Yb (l:=l) (i:=(j:Int)) Om hlt
  have hws:=wj (j:=j) (len:=l.length) hlt' Om
  have hcn':=h'.cn
  have hil':=h'.iln
  refine W0 (Wt e0 e2 e9 e12 hlen hlt g) ?_
  refine Zj (hE _ hmem c il' _ _ ul' ud ew _ e (h'.mv Om rfl rfl) (hv'.mv Om (fun i a b c=>rfl) (.inl rfl)) he (hex _ hmem) (hev'.mv Om (fun i a b c=>rfl) (.inl rfl))) ?_
  rintro _ H3 n3 q3 s3 ⟨rfl,a3,w3,ul3,il3,j1,j2⟩
  refine W0 (Zu e12 hws) ?_
  refine Wp.pure (Nxt.go (d - 1) Om ⟨j+1,ul3,il3,a3,by omega,by omega,fun i a b c=>by rw[s3 i Om b Om];exact s1 i a b c,by omega,j2.mv Om rfl rfl,?_,Pp e0,Pp e2,Pp e9,Po⟩)
  rw[Wa hlt',List.foldl_append,List.foldl_cons,List.foldl_nil,← Yq hlt']
  exact hwk.step (hg _ _) w3
 ·refine W0 (Yv e9 e12 hlen hlt) ?_
  rw[List.take_of_length_le Om]at hwk
  exact Wp.pure (Nxt.exit ⟨So,s1,rfl,⟨a,hwk,ul',il',hi',h'.mv So rfl rfl⟩,Pp e0,Pp e9⟩)
theorem k171 {v:Value}{p:List Nd}(hp:PoolOk p):∀ (k:Nat)(x:Int),0<=x->x < (p.length:Int)->x < k->XR 171 v p (Xr p k) x
 | 0,x,h0,h1,hk=>by omega
 | k+1,x,h0,h1,hk=>by
  intro c il n H ul ud ew s e h hv he hex hev
  have ih:=fun(y:Int) (y0:0<=y) (y1:y < x)=>k171 (v:=v) hp k y y0 Om Om
  apply RtA.of
  rw[c171];unfold S171
  have hcn:=h.cn
  have hil:=h.iln
  have hne:=h.ne
  have hc:=h.hc
  have hpl:=hp.2
  by_cases hh:s.how=0
  case neg=>
   have e1:Xr p (k+1) x e s=s:=(Goes.expr p (k+1) x e s).1 hh
   refine W1 (Zu hc hh) ?_
   exact Wp.pure ⟨So,Mo,rfl,s,by rw[e1];exact Wk.refl _,ul,il,.inl rfl,h.mv So rfl rfl⟩
  have g:=hv.li.nAll (i:=x) h0 h1
  have fin:∀ (H2:Hp) (n2:Nat) (S:CS),n<=n2->Kept c il n H H2->NextW c il n n2 H2 v ud S->S=Xr p (k+1) x e s->Wp (some (Value.tuple ⟨[]⟩,H2,n2)) (fun q=>n<=q.2.2/\(∀ i,i < n->i≠c->i≠il->q.2.1 i=H i)/\q.1=.tuple ⟨[]⟩/\NextW c il n q.2.2 q.2.1 v ud (Xr p (k+1) x e s)):=by
   intro H2 n2 S z1 z2 z3 z4
   exact Wp.pure ⟨z1,z2,rfl,by rw[← z4];exact z3⟩
  have leaf:=cExpr_leaf (p:=p) (k:=k) (v:=x) (e:=e) hh
  have sym:=cExpr_sym (p:=p) (k:=k) (v:=x) (e:=e) hh
  have bad:=cExpr_bad (p:=p) (k:=k) (v:=x) (e:=e) hh
  have pair:=cExpr_pair (p:=p) (k:=k) (v:=x) (e:=e) hh
  have hpos:=chainOf_pos hp h0 h1
  have hcf:Xa 1 s=⟨1,s.L,s.D⟩:=by unfold Xa;rw[if_pos hh]
  rw[hcf]at sym bad pair
  generalize Xr p (k+1) x e s=F at *
  generalize hx:gi p x=X at *
  obtain⟨xk,xn,xs,xa,xb⟩:=X
  simp only[Nd.cells]at g leaf sym bad pair hpos
  -- something came up
  have nogood:∀ (H0:Hp) (n0:Nat),n<=n0->(∀ i,i < n->H0 i=H i)->(⟨1,s.L,s.D⟩:CS)=F->Wp (some (Value.tuple ⟨[]⟩,H0.set c (some (.row [v,ul,ud,.int .i64 1] 0 true)),n0)) (fun q=>n<=q.2.2/\(∀ i,i < n->i≠c->i≠il->q.2.1 i=H i)/\q.1=.tuple ⟨[]⟩/\NextW c il n q.2.2 q.2.1 v ud F):=fun H0 n0 z1 z2 z3=>
   fin _ _ _ z1 (fun i a b c=>(Zf _ _ b).trans (z2 i a)) ⟨_,Wk.refl _,ul,il,.inl rfl,h.how 1 (by decide) z1 (Ze _ _ _) ((Zf _ _ hne).trans (z2 il hil))⟩ z3
  by_cases c1:xk=1
  ·subst c1
   refine W1 (Yv hc hh g @bld_ins2) ?_
   refine Zj (k168 (h.mv Om Mo Mo) (Zw 1 x 0)) ?_
   rintro _ H2 n2 q2 s2 ⟨rfl,ul2,il2,i2,h2⟩
   refine W0 trivial ?_
   exact fin _ _ _ Om (fun i a b c=>(s2 i Om b c).trans (Zf _ _ Om)) ⟨_,Wk.refl _,ul2,il2,by omega,h2.mv Om rfl rfl⟩ (leaf Om).symm
  by_cases c2:xk=2
  ·subst c2
   refine W1 (Yv hc hh g @bld_ins2) ?_
   refine Zj (k168 (h.mv Om Mo Mo) (Zw 1 x 0)) ?_
   rintro _ H2 n2 q2 s2 ⟨rfl,ul2,il2,i2,h2⟩
   refine W0 trivial ?_
   exact fin _ _ _ Om (fun i a b c=>(s2 i Om b c).trans (Zf _ _ Om)) ⟨_,Wk.refl _,ul2,il2,by omega,h2.mv Om rfl rfl⟩ (leaf Om).symm
  by_cases c3:xk=3
  ·subst c3
   refine W1 (Yv hc hh g @bld_ins2) ?_
   refine Zj (k168 (h.mv Om Mo Mo) (Zw 1 x 0)) ?_
   rintro _ H2 n2 q2 s2 ⟨rfl,ul2,il2,i2,h2⟩
   refine W0 trivial ?_
   exact fin _ _ _ Om (fun i a b c=>(s2 i Om b c).trans (Zf _ _ Om)) ⟨_,Wk.refl _,ul2,il2,by omega,h2.mv Om rfl rfl⟩ (leaf Om).symm
  by_cases c4:xk=4
  ·subst c4
   refine W1 (Ye hc hh g) ?_
   refine Zv (k169 _ _ _) ?_
   intro H2 n2 q2 s2
   have hk2:∀ i,i < n->H2 i=H i:=fun i hi=>(s2 i Om).trans (Zf _ _ Om)
   have hbox:H2 (n+13)=some (.row [.int .i64 4,.int .i64 xn,.string xs,.int .i64 xa,.int .i64 xb] 0 true):=(s2 _ Om).trans (Ze _ _ _)
   cases hsp:Vq xs with
   | true=>
    have sym:=sym rfl
    rw[if_pos hsp]at sym
    have hst:=h.st 1 (H':=H2) (hk2 c hcn)
    refine W1 hst ?_
    exact nogood _ _ Om hk2 sym.symm
   | false=>
    have sym:=sym rfl
    rw[if_neg (by rw[hsp];decide)]at sym
    refine W1 hbox ?_
    refine Zv (k172 xs he (hev.mv Om (fun i a _ _=>hk2 i a) (.inl rfl))) ?_
    intro H3 n3 q3 s3
    have hk3:∀ i,i < n->H3 i=H i:=fun i hi=>(s3 i Om).trans (hk2 i hi)
    have hbox3:H3 (n+13)=some (.row [.int .i64 4,.int .i64 xn,.string xs,.int .i64 xa,.int .i64 xb] 0 true):=(s3 _ Om).trans hbox
    unfold varV
    cases hcv:cVar xs e 0 with
    | none=>
     have hvi:varIns xs e=⟨3,0,0,xs⟩:=by unfold varIns;rw[hcv]
     rw[hvi]at sym
     simp only
     refine W1 (Ye hbox3 (show¬ (0:Int) <= -1 by decide) @bld_insS) ?_
     refine Zj (k168 (h.mv Om (hk3 c hcn) (hk3 il hil)) ⟨3,0,0,xs⟩) ?_
     rintro _ H4 n4 q4 s4 ⟨rfl,ul4,il4,i4,h4⟩
     refine W0 trivial ?_
     exact fin _ _ _ Om (fun i a b c=>(s4 i Om b c).trans (hk3 i a)) ⟨_,Wk.refl _,ul4,il4,by omega,h4.mv Om rfl rfl⟩ sym.symm
    | some ab=>
     obtain⟨a,b⟩:=ab
     have hvi:varIns xs e=Zw 2 a b:=by unfold varIns;rw[hcv]
     rw[hvi]at sym
     simp only
     refine W1 (Zu (show(0:Int)<=(a:Int) by omega) @bld_ins) ?_
     refine Zj (k168 (h.mv Om (hk3 c hcn) (hk3 il hil)) (Zw 2 a b)) ?_
     rintro _ H4 n4 q4 s4 ⟨rfl,ul4,il4,i4,h4⟩
     refine W0 trivial ?_
     exact fin _ _ _ Om (fun i a b c=>(s4 i Om b c).trans (hk3 i a)) ⟨_,Wk.refl _,ul4,il4,by omega,h4.mv Om rfl rfl⟩ sym.symm
  by_cases c5:xk=5
  case neg=>
   have hst:=h.st 1 (H':=(H.set (n+13) (some (.row [.int .i64 xk,.int .i64 xn,.string xs,.int .i64 xa,.int .i64 xb] 0 true)))) (Zf _ _ Om)
   refine W1 (Yj hc hh g c1 c2 c3 c4 (Zu c5 hst)) ?_
   exact nogood _ _ Om Mo (bad Om c4 (fun h=>c5 h.1)).symm
  subst c5
  have hmm:=chainOf_mem hp h0 h1
  have hcl:=Vr h0 h1
  have hps:=hpos rfl
  refine W1 (Ye hc hh g) ?_
  refine Ya (k139 (hv.li.mv Om Mo) hp _ h0 h1) ?_
  rintro _ H2 n2 q2 s2 ⟨up,rfl,hup⟩
  have hnt:notTup up=true:=by obtain⟨_,_,_,p3⟩:=hup;rcases p3 with⟨h,_⟩|⟨h,_⟩ <;> rw[h] <;> rfl
  have hk2:∀ i,i < n->H2 i=H i:=fun i hi=>(s2 i Om).trans (Zf _ _ Om)
  have hc2:H2 c=some (.row [v,ul,ud,.int .i64 s.how] 0 true):=(hk2 c hcn).trans hc
  by_cases hch:(Zi p x).2=true
  case neg=>
   have hlo:Wc p x=([],false):=by unfold Wc;rw[if_neg hch]
   have hst:=h.st 1 (H':=H2) (hk2 c hcn)
   refine W1 (Ye hnt hlo hst) ?_
   exact nogood _ _ Om hk2 (bad Om c4 (fun h=>hch h.2)).symm
  have hlo:Wc p x=((Zi p x).1,true):=by unfold Wc;rw[if_pos hch]
  rw[hlo]at hup
  simp only at hup
  have pair:=pair rfl hch
  obtain⟨idp,p1,p2,p3⟩:=hup
  generalize hL:(Zi p x).1=L at *
  have m0:=Yb (l:=L) (i:=0) Om Om
  have r0:=hmm _ m0
  have gl:=(p3.lst (n:=n2) p2).iAll (i:=0) Om Om
  have g0:=(hv.li.mv (H':=H2) (Nat.le_refl _) hk2).nAll (i:=gi L 0) r0.1 Om
  have hcl0:(gi p (gi L 0)).cells=[.int .i64 (gi p (gi L 0)).k,.int .i64 (gi p (gi L 0)).n,.string (gi p (gi L 0)).s,.int .i64 (gi p (gi L 0)).a,.int .i64 (gi p (gi L 0)).b]:=rfl
  rw[hcl0]at g0
  have hlu:Zx false up=some (.int .i64 L.length):=(p3.lst (n:=n2) p2).len
  have hEl:∀ y∈L,XR 171 v p (Xr p k) y:=fun y hy=>ih y (hmm y hy).1 (hmm y hy).2
  have rest:∀ (T:Tm) (H4:Hp) (n4:Nat),n2+4<=n4->(∀ i,i < n2->H4 i=H2 i)->¬ 5 < L.length->T 0=ptr c 0->T 2=ew->T 9=up->T 12=.int .i64 0->F=Yu (Zw 7 0 ((L.length:Int) - 1)) (L.foldl (fun s x=>Xr p k x e s) s)->Wp ((Zm (S171L0 (Call Tryz.prog) Zm) T H4 n4).bind fun o86=>(Zx false (o86.t 9)).bind fun v93=>(Zd .plain .sub v93 (.int .i64 1)).bind fun v94=>(Xf [.int .i64 0,.int .i64 0,.int .i64 0,.string ⟨#[]⟩] [(0,1,.int .i64 7),(2,1,v94)]).bind fun v95=>(Call Tryz.prog 168 [o86.t 0,v95] o86.H (o86.n+6)).bind fun q96=>some (Value.tuple ⟨[]⟩,q96.2.1,q96.2.2)) (fun q=>n<=q.2.2/\(∀ i,i < n->i≠c->i≠il->q.2.1 i=H i)/\q.1=.tuple ⟨[]⟩/\NextW c il n q.2.2 q.2.1 v ud F):=by
   intro T H4 n4 z1 z2 z3 t0 t2 t9 t12 z4
   have hk4:∀ i,i < n->H4 i=H i:=fun i hi=>(z2 i Om).trans (hk2 i hi)
   have hw1:IntKind.i64.wrap ((L.length:Int) - 1)=(L.length:Int) - 1:=Wo Om
   have hwl:LO eInt c il n4 H4 up L:=(p3.mv (z2 idp p2)).lo Om Om Om
   refine Wp.bind (l171 (Goes.expr p k) hEl (h.mv (m:=n4) Om (hk4 c hcn) (hk4 il hil)) (hv.mv Om (fun i a _ _=>hk4 i a) (.inl rfl)) he (fun y hy=>by have:=hmm y hy;omega) (hev.mv Om (fun i a _ _=>hk4 i a) (.inl rfl)) hwl Om T n4 (Nat.le_refl _) t0 t2 t9 t12) ?_
   rintro⟨oe,ot,oH,on⟩ ⟨f1,f2,rfl,⟨a5,w5,ul5,il5,i5,h5'⟩,e0,e9⟩
   simp only at f1 f2 h5' e0 e9
   refine W0 (Xm e0 e9 hlu hw1 @bld_ins3) ?_
   refine Zj (k168 (h5'.mv Om rfl rfl) (Zw 7 0 ((L.length:Int) - 1))) ?_
   rintro _ H6 n6 q6 s6 ⟨rfl,ul6,il6,i6,h6⟩
   have hcn5:=h5'.cn
   have w6:=w5.step (Goes.put (Zw 7 0 ((L.length:Int) - 1))) (Wk.refl _)
   refine W0 trivial ?_
   exact fin _ _ _ Om (fun i a b c=>by rw[s6 i Om b Om,f2 i Om b Om];exact hk4 i a) ⟨_,w6,ul6,il6,by omega,h6.mv Om rfl rfl⟩ z4.symm
  by_cases k4:(gi p (gi L 0)).k=4
  ·refine W1 (Xq hnt hlo hc2 gl g0 @k4) ?_
   refine Zv (k169 _ _ _) ?_
   intro H4 n4 q4 s4
   have hs4:∀ i,i < n2->H4 i=H2 i:=fun i hi=>(s4 i Om).trans (Zf _ _ Om)
   have hk4:∀ i,i < n->H4 i=H i:=fun i hi=>(hs4 i Om).trans (hk2 i hi)
   have hwl4:LO eInt c il n4 H4 up L:=(p3.mv (hs4 idp p2)).lo Om Om Om
   have hbox:H4 (n2+12)=some (.row [.int .i64 4,.int .i64 (gi p (gi L 0)).n,.string (gi p (gi L 0)).s,.int .i64 (gi p (gi L 0)).a,.int .i64 (gi p (gi L 0)).b] 0 true):=(s4 _ Om).trans (Ze _ _ _)
   cases hsp:Vq (gi p (gi L 0)).s with
   | true=>
    rw[if_pos ⟨k4,hsp⟩]at pair
    refine W1 hbox ?_
    refine Zj (k173 hp (Goes.expr p k) hEl (h.mv Om (hk4 c hcn) (hk4 il hil)) hh (hv.mv Om (fun i a _ _=>hk4 i a) (.inl rfl)) he (fun y hy=>by have:=hmm y hy;omega) (hev.mv Om (fun i a _ _=>hk4 i a) (.inl rfl)) (hwl4.mv Om (fun _ _ _ _=>rfl) (.inl rfl)) (fun y hy=>by have:=hmm y hy;omega) Om) ?_
    rintro _ H5 n5 q5 s5 ⟨rfl,a5,w5,ul5,il5,i5,h5⟩
    refine W0 trivial ?_
    exact fin _ _ _ Om (fun i a b c=>(s5 i Om b c).trans (hk4 i a)) ⟨a5,w5,ul5,il5,by omega,h5.mv Om rfl rfl⟩ pair.symm
   | false=>
    rw[if_neg (by rw[hsp];rintro⟨_,h⟩;cases h)]at pair
    by_cases h5:5 < L.length
    ·rw[if_pos h5]at pair
     have hst:=h.st 1 (H':=H4) (hk4 c hcn)
     refine W1 (Ye hlu (show(5:Int) < (L.length:Int) by omega) hst) ?_
     exact nogood _ _ Om hk4 pair.symm
    ·rw[if_neg h5]at pair
     refine W0 (Zu hlu (show¬ (5:Int) < (L.length:Int) by omega)) ?_
     exact rest _ _ _ Om hs4 h5 Pa Pa Po Po pair
  ·rw[if_neg (fun h=>k4 h.1)]at pair
   have hs4:∀ i,i < n2->(H2.set (n2+12) (some (.row [.int .i64 (gi p (gi L 0)).k,.int .i64 (gi p (gi L 0)).n,.string (gi p (gi L 0)).s,.int .i64 (gi p (gi L 0)).a,.int .i64 (gi p (gi L 0)).b] 0 true))) i=H2 i:=fun i hi=>Zf _ _ Om
   by_cases h5:5 < L.length
   ·rw[if_pos h5]at pair
    have hst:=h.st 1 (H':=H2.set (n2+12) (some (.row [.int .i64 (gi p (gi L 0)).k,.int .i64 (gi p (gi L 0)).n,.string (gi p (gi L 0)).s,.int .i64 (gi p (gi L 0)).a,.int .i64 (gi p (gi L 0)).b] 0 true))) ((hs4 c Om).trans (hk2 c hcn))
    refine W1 (Yj hnt hlo hc2 gl g0 @k4 hlu (Zu (show(5:Int) < (L.length:Int) by omega) hst)) ?_
    exact nogood _ _ Om (fun i hi=>(hs4 i Om).trans (hk2 i hi)) pair.symm
   ·rw[if_neg h5]at pair
    refine W1 (Yj hnt hlo hc2 gl g0 @k4 hlu (show¬ (5:Int) < (L.length:Int) by omega)) ?_
    exact rest _ _ _ Om hs4 h5 Pa Pa Po Po pair
abbrev RtM3 (P:Program)(f:Nat)(args:List Value)(a b c:Nat)(H:Hp)(n:Nat)(v:Value)(R:Hp->Nat->Prop):Prop:=∃ H' n',n<=n'/\(∀ i,i < n->i≠a->i≠b->i≠c->H' i=H i)/\Call P f args H n=some (v,H',n')/\R H' n'
theorem Wp.rtm3 {P:Program}{f:Nat}{args:List Value}{H:Hp}{n a b c:Nat}{β:Type}{g:Value × Hp × Nat->Option β}{Q:β->Prop}{v:Value}{R:Hp->Nat->Prop}(h:RtM3 P f args a b c H n v R)(k:∀ H' n',n<=n'->(∀ i,i < n->i≠a->i≠b->i≠c->H' i=H i)->R H' n'->Wp (g (v,H',n')) Q):Wp ((Call P f args H n).bind g) Q:=by
 obtain⟨H',n',h1,h2,h3,h4⟩:=h
 rw[h3];exact k H' n' h1 h2 h4
theorem RtM3.of {P:Program}{f:Nat}{args:List Value}{a b c:Nat}{H:Hp}{n:Nat}{v:Value}{R:Hp->Nat->Prop}(h:Wp (Call P f args H n) fun q=>n<=q.2.2/\(∀ i,i < n->i≠a->i≠b->i≠c->q.2.1 i=H i)/\q.1=v/\R q.2.1 q.2.2):RtM3 P f args a b c H n v R:=by
 obtain⟨⟨w,H',n'⟩,h1,h2,h3,h4,h5⟩:=h
 simp only at h2 h3 h4 h5
 subst h4;exact⟨H',n',h2,h3,h1,h5⟩
structure DC (c il idd n:Nat)(H:Hp)(v ul ud:Value)(s:CS):Prop where
 cc:CC c il n H v ul ud s
 ad:At eDef idd H ud s.D
 dn:idd < n
 nc:idd≠c
 ni:idd≠il
theorem DC.mv {c il idd n m:Nat}{H H':Hp}{v ul ud:Value}{s:CS}(h:DC c il idd n H v ul ud s)(hm:n<=m)(h1:H' c=H c)(h2:H' il=H il)(h3:H' idd=H idd):DC c il idd m H' v ul ud s :=
 ⟨h.cc.mv hm h1 h2,h.ad.mv h3,by have:=h.dn;omega,h.nc,h.ni⟩
abbrev Next3 (c il idd n n':Nat)(H':Hp)(v:Value)(s:CS):Prop:=∃ ul' il' ud' idd',(il'=il∨n<=il')/\(idd'=idd∨n<=idd')/\DC c il' idd' n' H' v ul' ud' s
theorem bld_df (s:ByteArray)(a b:Int):Xf [.string ⟨#[]⟩,.int .i64 0,.int .i64 0] [(0,1,.string s),(1,1,.int .i64 a),(2,1,.int .i64 b)]=some (.agg ⟨(⟨s,a,b⟩:Df).cells⟩):=rfl
theorem LO.off {α:Type}{E:Enc α}{lo n c il idd:Nat}{H:Hp}{w:Value}{l:List α}(h:New E lo n H w l)(hd:idd < lo):Off idd w:=by
 obtain⟨id,h1,h2,h3⟩:=h
 rcases h3 with⟨rfl,_⟩|⟨rfl,_⟩ <;> intro i o a k e <;> cases e <;> omega
theorem LO.nilS {α:Type}{E:Enc α}{c il n:Nat}{H:Hp}:LO E c il n H nilS ([]:List α):=⟨Li.nil,fun i o a k e=>(by cases e),fun i o a k e=>(by cases e)⟩
theorem cTop_D {E:CEx}(hg:∀ v e,Goes (E v e)) (p:List Nd)(x:Int)(s:CS):(cTop E p x s).D.length<=s.D.length+1:=by
 have hf:∀ h s,(Xa h s).D=s.D:=fun h s=>(Goes.fail h s).2.2
 have hd:∀ n ps b,(Vp E n ps b s).D.length<=s.D.length+1:=by
  intro n ps b
  unfold Vp
  split
  ·rw[hf];omega
  ·rw[(Goes.put _ _).2.2,(Goes.body hg _ _ _).2.2];simp
 unfold cTop cDefn
 repeat' split
 all_goals first|exact hd _ _ _|(rw[hf];omega)
theorem compAns_bad {p:List Nd}{l:List Int}(h:¬ (PoolOk p/\inPool p l)):Yo p l=⟨[],[],[],3,0⟩:=by unfold Yo;rw[if_neg h]
theorem compAns_3 {p:List Nd}{l:List Int}(h:PoolOk p/\inPool p l)(h3:(Wi p l 0 ⟨0,[],[]⟩).1.how=3):Yo p l=⟨[],[],[],3,0⟩:=by unfold Yo;rw[if_pos h,if_neg Om,if_pos h3]
theorem compAns_e {p:List Nd}{l:List Int}(h:PoolOk p/\inPool p l)(h0:(Wi p l 0 ⟨0,[],[]⟩).1.how≠0) (h3:(Wi p l 0 ⟨0,[],[]⟩).1.how≠3):Yo p l=⟨[],[],[],(Wi p l 0 ⟨0,[],[]⟩).1.how,(Wi p l 0 ⟨0,[],[]⟩).2⟩:=by unfold Yo;rw[if_pos h,if_neg h0,if_neg h3]
theorem compAns_n {p:List Nd}{l:List Int}(h:PoolOk p/\inPool p l)(h0:(Wi p l 0 ⟨0,[],[]⟩).1.how=0) (h3:¬ Xd p (Wi p l 0 ⟨0,[],[]⟩).1.L (Wi p l 0 ⟨0,[],[]⟩).1.D):Yo p l=⟨[],[],[],3,0⟩:=by unfold Yo;rw[if_pos h,if_pos h0,if_neg h3]
theorem compAns_y {p:List Nd}{l:List Int}(h:PoolOk p/\inPool p l)(h0:(Wi p l 0 ⟨0,[],[]⟩).1.how=0) (h3:Xd p (Wi p l 0 ⟨0,[],[]⟩).1.L (Wi p l 0 ⟨0,[],[]⟩).1.D):Yo p l=⟨p,(Wi p l 0 ⟨0,[],[]⟩).1.L,(Wi p l 0 ⟨0,[],[]⟩).1.D,0,l.length⟩:=by unfold Yo;rw[if_pos h,if_pos h0,if_pos h3]
def CompRes (n n':Nat)(H':Hp)(r:Value)(a:CA):Prop:=∃ u ul ud,r=.tuple ⟨[.agg ⟨[u,ul,ud]⟩,.int .i64 a.how,.int .i64 a.at_]⟩/\New3 n n' H' u ul ud a.p a.L a.D
theorem CompRes.none {n n':Nat}{H':Hp}(hn:n+3<=n')(h a:Int):CompRes n n' H' (.tuple ⟨[.agg ⟨[nilS,nilS,nilS]⟩,.int .i64 h,.int .i64 a]⟩) ⟨[],[],[],h,a⟩ :=
 ⟨nilS,nilS,nilS,rfl,n,n+1,n+2,by omega,by omega,by omega,by omega,by omega,by omega,by omega,by omega,by omega,At.nil,At.nil,At.nil⟩
theorem bld_3n:Xf [nilS,nilS,nilS] []=some (.agg ⟨[nilS,nilS,nilS]⟩):=rfl
theorem CC.withD {c il n:Nat}{H:Hp}{v ul ud:Value}{s:CS}(h:CC c il n H v ul ud s)(D:List Df):CC c il n H v ul ud ⟨s.how,s.L,D⟩:=⟨h.hc,h.al,h.cn,h.iln,h.ne,h.len,h.hr⟩
abbrev NextW3 (c il idd n n':Nat)(H':Hp)(v:Value)(b:CS):Prop:=∃ a,Wk a b/\Next3 c il idd n n' H' v a
theorem l157 {c il idd n0:Nat}{H0:Hp}{v ul ud:Value}{s:CS}(h:DC c il idd n0 H0 v ul ud s)(name:ByteArray)(wn w:Value)(hD:s.D.length<=1048576):∀ t n,n0<=n->t 0=ptr c 0->t 1=.string name->t 2=wn->t 3=w->t 8=.int .i64 0 ->
  Wp (Zm (S157L0 (Call Tryz.prog) Zm) t H0 n) (fun o=>n<=o.n/\(∀ i,i < n0->i≠c->o.H i=H0 i)/\o.e=.exit 0/\o.t 0=ptr c 0/\o.t 1=.string name/\o.t 2=wn/\o.t 3=w/\DC c il idd o.n o.H v ul ud ⟨if s.how=0 then(if hasDef name s.D=true then 2 else 0)else s.how,s.L,s.D⟩):=by
 intro t n hn e0 e1 e2 e3 e8
 obtain⟨hcc,had,hdn,hnc,hni⟩:=h
 have hcn:=hcc.cn
 have hil:=hcc.iln
 have hne:=hcc.ne
 refine Zt (fun d T H' n'=>∃ (j:Nat) (x:Int),j+d=s.D.length+1/\1<=d/\n<=n'/\(∀ i,i < n0->i≠c->H' i=H0 i)/\CC c il n' H' v ul ud ⟨x,s.L,s.D⟩/\T 0=ptr c 0/\T 1=.string name/\T 2=wn/\T 3=w/\T 8=.int .i64 j/\((s.how≠0/\x=s.how)∨(s.how=0/\x=0/\hasDef name (s.D.take j)=false)∨(s.how=0/\x=2/\hasDef name s.D=true))) _ ?_ (s.D.length+1) _ _ _ ⟨0,s.how,by omega,by omega,by omega,fun _ _ _=>rfl,(hcc.withD s.D).mv Om rfl rfl,e0,e1,e2,e3,e8,by by_cases h0:s.how=0;exact .inr (.inl ⟨h0,h0,by simp[hasDef]⟩);exact .inl ⟨h0,rfl⟩⟩
 rintro d T H' n' ⟨j,x,hj,hd,hn',s1,hcc',e0,e1,e2,e3,e8,hx⟩
 unfold S157L0
 have hc:=hcc'.hc
 simp only at hc
 have hadl:Li eDef n' H' ud s.D:=(had.mv (s1 idd hdn hnc)).lst Om
 have fin:∀ T2:Tm,T2 0=ptr c 0->T2 1=.string name->T2 2=wn->T2 3=w->∀ m,n'<=m->x=(if s.how=0 then(if hasDef name s.D=true then 2 else 0)else s.how)->Wp (some (⟨.exit 0,T2,H',m⟩:Out)) (Nxt (fun d T H' n'=>∃ (j:Nat) (x:Int),j+d=s.D.length+1/\1<=d/\n<=n'/\(∀ i,i < n0->i≠c->H' i=H0 i)/\CC c il n' H' v ul ud ⟨x,s.L,s.D⟩/\T 0=ptr c 0/\T 1=.string name/\T 2=wn/\T 3=w/\T 8=.int .i64 j/\((s.how≠0/\x=s.how)∨(s.how=0/\x=0/\hasDef name (s.D.take j)=false)∨(s.how=0/\x=2/\hasDef name s.D=true))) d (fun o=>n<=o.n/\(∀ i,i < n0->i≠c->o.H i=H0 i)/\o.e=.exit 0/\o.t 0=ptr c 0/\o.t 1=.string name/\o.t 2=wn/\o.t 3=w/\DC c il idd o.n o.H v ul ud ⟨if s.how=0 then(if hasDef name s.D=true then 2 else 0)else s.how,s.L,s.D⟩)):=by
  intro T2 t0 t1 t2 t3 m hm hxe
  refine Wp.pure (Nxt.exit ⟨So,s1,rfl,t0,t1,t2,t3,?_,had.mv (s1 idd hdn hnc),So,hnc,hni⟩)
  rw[← hxe]
  exact hcc'.mv So rfl rfl
 by_cases hlt:(j:Int) < s.D.length
 ·have hlt':j < s.D.length:=by omega
  have g:=hadl.dAll (i:=(j:Int)) Om hlt
  have hws:=wj (j:=j) (len:=s.D.length) hlt' Om
  have htk:hasDef name (s.D.take (j+1))=(hasDef name (s.D.take j) || decide ((gi s.D (j:Int)).s=name)):=by
   unfold hasDef
   rw[Wa hlt',List.any_append,Yq hlt'];simp
  rcases hx with⟨h0,rfl⟩|⟨h0,rfl,hno⟩|⟨h0,rfl,hyes⟩
  ·refine W1 (Wt e0 e1 e8 hc hadl.len hlt h0) ?_
   exact fin _ (Pp e0) (Pp e1) (Pp e2) (Pp e3) _ Om (by rw[if_neg h0])
  ·by_cases heq:(gi s.D (j:Int)).s=name
   ·have hst:=hcc'.st 2 rfl
    refine W1 (Yj e0 e1 e8 hc hadl.len hlt g (Ye heq hst hws)) ?_
    refine Wp.pure (Nxt.go (d - 1) Om ⟨j+1,2,by omega,by omega,by omega,fun i a b=>(Zf _ _ b).trans (s1 i a b),hcc'.how 2 (by decide) Om (Ze _ _ _) (Zf _ _ hne),Pp e0,Pp e1,Pp e2,Pp e3,Po,.inr (.inr ⟨h0,rfl,?_⟩)⟩)
    unfold hasDef
    rw[List.any_eq_true]
    exact⟨_,Yb (l:=s.D) (i:=(j:Int)) Om hlt,decide_eq_true heq⟩
   ·refine W1 (Yj e0 e1 e8 hc hadl.len hlt g (Zu heq hws)) ?_
    exact Wp.pure (Nxt.go (d - 1) Om ⟨j+1,0,by omega,by omega,by omega,s1,hcc'.mv Om rfl rfl,Pp e0,Pp e1,Pp e2,Pp e3,Po,.inr (.inl ⟨h0,rfl,by rw[htk,hno,decide_eq_false heq];rfl⟩)⟩)
  ·refine W1 (Wt e0 e1 e8 hc hadl.len hlt (show¬ (2:Int)=0 by decide)) ?_
   exact fin _ (Pp e0) (Pp e1) (Pp e2) (Pp e3) _ Om (by rw[if_pos h0,if_pos hyes])
 ·refine W1 (Xm e0 e8 hc hadl.len hlt) ?_
  refine fin _ (Pp e0) (Pp e1) (Pp e2) (Pp e3) _ Om ?_
  rw[List.take_of_length_le Om]at hx
  rcases hx with⟨h0,rfl⟩|⟨h0,rfl,hno⟩|⟨h0,rfl,hyes⟩
  ·rw[if_neg h0]
  ·rw[if_pos h0,hno];rfl
  ·rw[if_pos h0,if_pos hyes]
theorem k157 {v:Value}{p:List Nd}{E:CEx}{l:List Int}(hg:∀ v e,Goes (E v e)) (hE:∀ x∈l,XR 171 v p E x){c il idd n:Nat}{H:Hp}{ul ud wn w:Value}{s:CS}{name:ByteArray}{names:List ByteArray}(h:DC c il idd n H v ul ud s)(hv:LO eNode c il n H v p)(hvd:Off idd v)(hex:∀ x∈l,1+x.toNat<=90000)(hnl:names.length<=4)(hwn:LO eStr c il n H wn names)(hwd:Off idd wn)(hw:LO eInt c il n H w l)(hwd2:Off idd w)(hl:l.length<=1000000)(hD:s.D.length<=1048576):RtM3 Tryz.prog 157 [ptr c 0,.string name,wn,w] c il idd H n (.tuple ⟨[]⟩) (fun H' n'=>NextW3 c il idd n n' H' v (if s.how=0 then Vp E name names l s else s)):=by
 apply RtM3.of
 rw[c157];unfold S157
 have hdn:=h.dn
 have hnc:=h.nc
 have hni:=h.ni
 have hcn:=h.cc.cn
 have hil:=h.cc.iln
 refine W0 trivial ?_
 refine Wp.bind (l157 h name wn w hD _ _ Om Pa Pa Pa Pa Po) ?_
 rintro⟨oe,ot,oH,on⟩ ⟨f1,f2,rfl,e0,e1,e2,e3,f8⟩
 simp only at f1 f2 e0 e1 e2 e3 f8
 generalize hx:(if s.how=0 then(if hasDef name s.D=true then 2 else 0)else s.how)=x at *
 obtain⟨hcc,had,hdn1,_,_⟩:=f8
 have hc:=hcc.hc
 have hne:=hcc.ne
 have hcn1:=hcc.cn
 simp only at hc had
 have hlv:Zx false ul=some (.int .i64 s.L.length):=(hcc.al.lst hcc.iln).len
 have hb:=fun id=>bsl_dc id (⟨name,s.L.length,names.length⟩:Df)
 refine W1 (Yj e0 e1 e2 e3 hc hlv hwn.li.len (Zu @bld_df hb)) ?_
 refine Ub (E:=eDef) (⟨name,s.L.length,names.length⟩:Df) (had.mv Mo) Om (by decide) Om ?_
 intro H4 r1 r2
 have hc4:H4 c=some (.row [v,ul,ud,.int .i64 x] 0 true):=by simp(disch:=omega) only[r2,Zf,hc]
 have hst:=st_cset (o:=2) (v:=sl (on+15) 0 (s.D++[(⟨name,s.L.length,names.length⟩:Df)]).length) hc4 (by simp) rfl
 simp only[List.set_cons_succ,List.set_cons_zero]at hst
 generalize hu2:sl (on+15) 0 (s.D++[(⟨name,s.L.length,names.length⟩:Df)]).length=u2 at *
 refine W1 (Xq e0 e1 e2 e3 hst (fun u0_=>bsl_v u0_ wn hwn.li.c1)) ?_
 generalize hG:(H4.set c _).set (on+22) _=G
 have hk:∀ i,i < n->i≠c->i≠il->i≠idd->G i=H i:=fun i a b c d=>by
  rw[← hG];simp(disch:=omega) only[Zf,r2,f2]
 have hGc:G c=some (.row [v,ul,u2,.int .i64 x] 0 true):=by rw[← hG];simp(disch:=omega) only[Zf,Ze]
 have hGd:At eDef (on+15) G u2 (s.D++[(⟨name,s.L.length,names.length⟩:Df)]):=by
  rw[← hu2];refine .inr ⟨rfl,?_⟩
  rw[← hG];simp(disch:=omega) only[Zf,r1]
 have hGe:At eVl (on+22) G (sl (on+22) 0 1) [wn]:=.inr ⟨rfl,by rw[← hG];exact Ze _ _ _⟩
 have hGil:G il=oH il:=by rw[← hG];simp(disch:=omega) only[Zf,r2]
 have hwnG:LO eStr c il (on+24) G wn names:=⟨(hwn.li.keep' fun i o a k e=>hk i (hwn.li.2 i o a k e) (hwn.oc i o a k e) (hwn.oi i o a k e) (hwd i o a k e)).up Om,hwn.oc,hwn.oi⟩
 have hwG:LO eInt c il (on+24) G w l:=⟨(hw.li.keep' fun i o a k e=>hk i (hw.li.2 i o a k e) (hw.oc i o a k e) (hw.oi i o a k e) (hwd2 i o a k e)).up Om,hw.oc,hw.oi⟩
 have hvG:LO eNode c il (on+24) G v p:=⟨(hv.li.keep' fun i o a k e=>hk i (hv.li.2 i o a k e) (hv.oc i o a k e) (hv.oi i o a k e) (hvd i o a k e)).up Om,hv.oc,hv.oi⟩
 have hev:EV c il (on+24) G (sl (on+22) 0 1) ([]++[names]):=EV.snoc (ws:=[]) hGe Om Om Om rfl (fun i h1 _=>by simp at h1) hwnG
 have hCC:CC c il (on+24) G v ul u2 ⟨x,s.L,s.D++[(⟨name,s.L.length,names.length⟩:Df)]⟩:=⟨hGc,hcc.al.mv hGil,by omega,by omega,hne,hcc.len,hcc.hr⟩
 refine W0 (Zu e0 e3) ?_
 refine Zj (k167 hg hE hCC hvG (e:=[names]) ⟨by simp,fun f hf=>by simp at hf;rw[hf];exact hnl⟩ (fun x hx=>by have:=hex x hx;simpa using this) hev hwG hl) ?_
 rintro _ H5 n5 q5 s5 ⟨rfl,A5,w5,ul5,il5,i5,h5⟩
 have hB:=Goes.body hg [names] l ⟨x,s.L,s.D++[(⟨name,s.L.length,names.length⟩:Df)]⟩
 have hcn5:=h5.cn
 have hiln5:=h5.iln
 refine W0 (Zu e0 @bld_ins1) ?_
 refine Zj (k168 (h5.mv Om rfl rfl) (Zw 8 0 0)) ?_
 rintro _ H6 n6 q6 s6 ⟨rfl,ul6,il6,i6,h6⟩
 have w6:Wk (Yu (Zw 8 0 0) A5) (Yu (Zw 8 0 0) (Vm E [names] l ⟨x,s.L,s.D++[(⟨name,s.L.length,names.length⟩:Df)]⟩)):=w5.step (Goes.put _) (Wk.refl _)
 have hP:=Goes.put (Zw 8 0 0) (Vm E [names] l ⟨x,s.L,s.D++[(⟨name,s.L.length,names.length⟩:Df)]⟩)
 generalize hM:Yu (Zw 8 0 0) (Vm E [names] l ⟨x,s.L,s.D++[(⟨name,s.L.length,names.length⟩:Df)]⟩)=M at *
 have hMD:M.D=s.D++[(⟨name,s.L.length,names.length⟩:Df)]:=by rw[hP.2.2,hB.2.2]
 generalize Yu (Zw 8 0 0) A5=A6 at *
 refine W0 trivial ?_
 refine Wp.pure ⟨So,fun i a b c d=>?_,rfl,⟨A6.how,A6.L,s.D++[(⟨name,s.L.length,names.length⟩:Df)]⟩,?_,ul6,il6,u2,on+15,by omega,.inr Om,(h6.withD _).mv So rfl rfl,?_,So,by omega,by omega⟩
 ·show H6 i=H i
  rw[s6 i Om b Om,s5 i Om b Om]
  exact hk i a b c d
 ·have hA:Wk ⟨A6.how,A6.L,s.D++[(⟨name,s.L.length,names.length⟩:Df)]⟩ M:=by
   refine⟨w6.1,fun h=>?_⟩
   rw[w6.2 h,← hMD]
  by_cases h0:s.how=0
  ·rw[if_pos h0]at hx ⊢
   unfold Vp
   by_cases hd:hasDef name s.D=true
   ·rw[if_pos hd]at hx ⊢
    subst hx
    have e1:M=⟨2,s.L,s.D++[(⟨name,s.L.length,names.length⟩:Df)]⟩:=by
     rw[← hM,hB.1 (by show(2:Int)≠0;decide),cPut_how (by show(2:Int)≠0;decide)]
    have e2:Xa 2 s=⟨2,s.L,s.D⟩:=by unfold Xa;rw[if_pos h0]
    rw[e1]at hA
    rw[e2]
    exact⟨hA.1,fun h=>by simp at h⟩
   ·rw[if_neg hd]at hx ⊢
    subst hx
    rw[h0,hM]
    exact hA
  ·rw[if_neg h0]at hx ⊢
   subst hx
   have e1:M=⟨s.how,s.L,s.D++[(⟨name,s.L.length,names.length⟩:Df)]⟩:=by
    rw[← hM,hB.1 h0];exact cPut_how h0
   rw[e1]at hA
   exact⟨hA.1,fun h=>absurd h h0⟩
 ·exact hGd.mv (by show H6 (on+15)=G (on+15);rw[s6 _ Om Om Om,s5 _ Om Om Om])
theorem bsl_zi (id:Nat)(H:Hp):Xx id 1 0 [.int .i64 0] [] H=some (sl id 0 0,H.set id (some (.row [] 1 true))):=bsl_zn id _ 1 H rfl
theorem bsl_zs (id:Nat)(H:Hp):Xx id 1 0 [.string ⟨#[]⟩] [] H=some (sl id 0 0,H.set id (some (.row [] 1 true))):=bsl_zn id _ 1 H rfl
theorem DC.how {c il idd n:Nat}{H:Hp}{v ul ud:Value}{s:CS}(h:DC c il idd n H v ul ud s)(x:Int)(hx:0<=x/\x<=3){n':Nat}{H':Hp}(hn:n<=n')(hc:H' c=some (.row [v,ul,ud,.int .i64 x] 0 true)) (hi:H' il=H il)(hd:H' idd=H idd):DC c il idd n' H' v ul ud ⟨x,s.L,s.D⟩ :=
 ⟨h.cc.how x hx hn hc hi,h.ad.mv hd,by have:=h.dn;omega,h.nc,h.ni⟩
theorem k150 {v:Value}{p:List Nd}(hp:PoolOk p){E:CEx}(hg:∀ v e,Goes (E v e)) (hE:∀ y:Int,0<=y->y < (p.length:Int)->XR 171 v p E y){c il idd n:Nat}{H:Hp}{ul ud:Value}{s:CS}(h:DC c il idd n H v ul ud s)(hh:s.how=0)(hv:LO eNode c il n H v p)(hvd:Off idd v)(x:Int)(h0:0<=x)(h1:x < (p.length:Int)) (hD:s.D.length<=1048576):RtM3 Tryz.prog 150 [ptr c 0,.int .i64 x] c il idd H n (.tuple ⟨[]⟩) (fun H' n'=>NextW3 c il idd n n' H' v (cTop E p x s)):=by
 apply RtM3.of
 rw[c150];unfold S150
 rw[show(⟨#[109,97,105,110]⟩:ByteArray)=wMain from rfl,show(⟨#[100,101,102,105,110,101]⟩:ByteArray)=Ud from rfl]
 have hcc:=h.cc
 have hdn:=h.dn
 have hnc:=h.nc
 have hni:=h.ni
 have hcn:=hcc.cn
 have hil:=hcc.iln
 have hne:=hcc.ne
 have hc:=hcc.hc
 have hpl:=hp.2
 have hs0:s=⟨0,s.L,s.D⟩:=by cases s;simp only at hh;subst hh;rfl
 have nodef:¬ ((gi p x).k=5/\(Zi p x).2=true/\(gi p (gi (Zi p x).1 0)).k=4/\(gi p (gi (Zi p x).1 0)).s=Ud)->cTop E p x s=Vp E wMain [] [x] s:=fun hn=>by
  unfold cTop isDefine;rw[decide_eq_false hn];rfl
 have isdef:((gi p x).k=5/\(Zi p x).2=true/\(gi p (gi (Zi p x).1 0)).k=4/\(gi p (gi (Zi p x).1 0)).s=Ud)->cTop E p x s=cDefn E p (Zi p x).1 s:=fun hn=>by
  unfold cTop isDefine;rw[decide_eq_true hn];rfl
 generalize cTop E p x s=F at *
 have main:∀ (m:Nat) (H0:Hp),n<=m->(∀ i,i < n->H0 i=H i)->F=Vp E wMain [] [x] s->Wp ((Xx (m+1) 1 0 [.string ⟨#[]⟩] [] H0).bind fun p45=>(Xx (m+3) 1 1 [.int .i64 0] [(0,1,.int .i64 x)] p45.2).bind fun p46=>(Call Tryz.prog 157 [ptr c 0,.string wMain,p45.1,p46.1] p46.2 (m+5)).bind fun q47=>some (Value.tuple ⟨[]⟩,q47.2.1,q47.2.2)) (fun q=>n<=q.2.2/\(∀ i,i < n->i≠c->i≠il->i≠idd->q.2.1 i=H i)/\q.1=.tuple ⟨[]⟩/\NextW3 c il idd n q.2.2 q.2.1 v F):=by
  intro m H0 z1 z2 z3
  refine W0 (Zu @bsl_zs @bsl_i) ?_
  generalize hG:Hp.set _ (m+3) _=G
  have hk:∀ i,i < n->G i=H i:=fun i hi=>by rw[← hG];simp(disch:=omega) only[Zf,z2]
  have hN:At eStr (m+1) G (sl (m+1) 0 0) []:=.inr ⟨rfl,by rw[← hG];simp(disch:=omega) only[Zf,Ze];rfl⟩
  have hR:At eInt (m+3) G (sl (m+3) 0 1) [x]:=.inr ⟨rfl,by rw[← hG];exact Ze _ _ _⟩
  refine Wp.rtm3 (k157 hg (l:=[x]) (fun y hy=>by simp at hy;rw[hy];exact hE x h0 h1) (h.mv Om (hk c hcn) (hk il hil) (hk idd hdn)) (hv.mv Om (fun i a _ _=>hk i a) (.inl rfl)) hvd (fun y hy=>by simp at hy;omega) (names:=[]) (by simp) (hN.lo Om Om Om) (fun i o a k e=>(by cases e;omega)) (hR.lo Om Om Om) (fun i o a k e=>(by cases e;omega)) (by simp) hD) ?_
  rintro H2 n2 q2 s2 ⟨a2,w2,ul2,il2,ud2,idd2,i2,j2,h2⟩
  rw[if_pos hh]at w2
  refine W0 trivial ?_
  refine Wp.pure ⟨So,fun i a b c d=>(s2 i Om b c d).trans (hk i a),rfl,a2,?_,ul2,il2,ud2,idd2,by omega,by omega,h2.mv So rfl rfl rfl⟩
  rw[z3];exact w2
 have bad:∀ (H0:Hp) (m:Nat),n<=m->(∀ i,i < n->H0 i=H i)->F=Xa 1 s->Wp (some (Value.tuple ⟨[]⟩,H0.set c (some (.row [v,ul,ud,.int .i64 1] 0 true)),m)) (fun q=>n<=q.2.2/\(∀ i,i < n->i≠c->i≠il->i≠idd->q.2.1 i=H i)/\q.1=.tuple ⟨[]⟩/\NextW3 c il idd n q.2.2 q.2.1 v F):=by
  intro H0 m z1 z2 z3
  have e2:Xa 1 s=⟨1,s.L,s.D⟩:=by unfold Xa;rw[if_pos hh]
  refine Wp.pure ⟨z1,fun i a b _ _=>(Zf _ _ b).trans (z2 i a),rfl,⟨1,s.L,s.D⟩,by rw[z3,e2];exact Wk.refl _,ul,il,ud,idd,.inl rfl,.inl rfl,h.how 1 (by decide) z1 (Ze _ _ _) ((Zf _ _ hne).trans (z2 il hil)) ((Zf _ _ hnc).trans (z2 idd hdn))⟩
 have g:=(hv.li.mv (H':=H.set n (some (.row [] 1 true))) (Nat.le_refl _) Mo).nAll (i:=x) h0 h1
 by_cases k5:(gi p x).k=5
 case neg=>
  refine W1 (Yv @bsl_zi hc g @k5) ?_
  exact main _ _ Om Mo (nodef (fun h=>k5 h.1))
 have hpos:=chainOf_pos hp h0 h1 k5
 have hmm:=chainOf_mem hp h0 h1
 have hcl:=Vr h0 h1
 refine W1 (Yv @bsl_zi hc g @k5) ?_
 refine Ya (k139 (hv.li.mv Om Mo) hp _ h0 h1) ?_
 rintro _ H2 n2 q2 s2 ⟨up,rfl,hup⟩
 have hk2:∀ i,i < n->H2 i=H i:=fun i hi=>(s2 i Om).trans (Zf _ _ Om)
 have hc2:H2 c=some (.row [v,ul,ud,.int .i64 s.how] 0 true):=(hk2 c hcn).trans hc
 by_cases hch:(Zi p x).2=true
 case neg=>
  have hlo:Wc p x=([],false):=by unfold Wc;rw[if_neg hch]
  refine W1 hlo ?_
  exact main _ _ Om hk2 (nodef (fun h=>hch h.2.1))
 have hlo:Wc p x=((Zi p x).1,true):=by unfold Wc;rw[if_pos hch]
 rw[hlo]at hup
 simp only at hup
 obtain⟨idp,p1,p2,p3⟩:=hup
 generalize hL:(Zi p x).1=L at *
 have m0:=Yb (l:=L) (i:=0) Om Om
 have r0:=hmm _ m0
 have gl:=(p3.lst (n:=n2) p2).iAll (i:=0) Om Om
 have hv2:Li eNode n H2 v p:=hv.li.mv (Nat.le_refl _) hk2
 have g0:=hv2.nAll (i:=gi L 0) r0.1 Om
 have hlu:Zx false up=some (.int .i64 L.length):=(p3.lst (n:=n2) p2).len
 by_cases k4:(gi p (gi L 0)).k=4
 case neg=>
  refine W1 (Xm hlo hc2 gl g0 @k4) ?_
  exact main _ _ Om hk2 (nodef (fun h=>k4 h.2.2.1))
 by_cases hd:(gi p (gi L 0)).s=Ud
 case neg=>
  refine W1 (Xq hlo hc2 gl g0 @k4 hd) ?_
  exact main _ _ Om hk2 (nodef (fun h=>hd h.2.2.2))
 have hF:=isdef ⟨k5,hch,k4,hd⟩
 unfold cDefn at hF
 clear main nodef isdef
 by_cases h3:(L.length:Int) < 3
 ·have hst:=hcc.st 1 (H':=H2) (hk2 c hcn)
  refine W1 (Yj hlo hc2 gl g0 @k4 hd hlu (Zu h3 hst)) ?_
  exact bad _ _ Om hk2 (by rw[hF,if_neg Om])
 have m1:=Yb (l:=L) (i:=1) Om Om
 have r1:=hmm _ m1
 have gl1:=(p3.lst (n:=n2) p2).iAll (i:=1) Om Om
 have g1:=hv2.nAll (i:=gi L 1) r1.1 Om
 by_cases k51:(gi p (gi L 1)).k=5
 case neg=>
  have hst:=hcc.st 1 (H':=H2) (hk2 c hcn)
  refine W1 (Yj hlo hc2 gl g0 @k4 hd hlu (Xm h3 gl1 g1 @k51 hst)) ?_
  exact bad _ _ Om hk2 (by rw[hF,if_neg];rintro⟨_,h,_⟩;exact k51 h)
 refine W1 (Yj hlo hc2 gl g0 @k4 hd hlu (Yv h3 gl1 g1 @k51)) ?_
 refine Ya (k139 (hv2.mv Om Mo) hp _ r1.1 Om) ?_
 rintro _ H3 n3 q3 s3 ⟨uq,rfl,huq⟩
 have hk3:∀ i,i < n->H3 i=H i:=fun i hi=>(s3 i Om).trans (hk2 i hi)
 have hc3:H3 c=some (.row [v,ul,ud,.int .i64 s.how] 0 true):=(hk3 c hcn).trans hc
 by_cases hch1:(Zi p (gi L 1)).2=true
 case neg=>
  have hlo1:Wc p (gi L 1)=([],false):=by unfold Wc;rw[if_neg hch1]
  have hst:=hcc.st 1 (H':=H3) (hk3 c hcn)
  refine W1 (Zu hlo1 hst) ?_
  exact bad _ _ Om hk3 (by rw[hF,if_neg];rintro⟨_,_,h⟩;exact hch1 h)
 have hlo1:Wc p (gi L 1)=((Zi p (gi L 1)).1,true):=by unfold Wc;rw[if_pos hch1]
 rw[hlo1]at huq
 simp only at huq
 rw[if_pos ⟨by omega,k51,hch1⟩]at hF
 have hpos1:=chainOf_pos hp r1.1 Om k51
 have hmm1:=chainOf_mem hp r1.1 Om
 have hcl1:=Vr r1.1 (show gi L 1 < (p.length:Int) by omega)
 obtain⟨idq,t1,t2,t3⟩:=huq
 generalize hQ:(Zi p (gi L 1)).1=Q at *
 have mq:=Yb (l:=Q) (i:=0) Om Om
 have rq:=hmm1 _ mq
 have gq:=(t3.lst (n:=n3) t2).iAll (i:=0) Om Om
 refine W1 (Zu hlo1 gq) ?_
 refine Zv (k158 (hv2.mv Om (fun i hi=>s3 i Om)) hc3 Om _ rq.1 Om) ?_
 intro H4 n4 q4 s4
 have hk4:∀ i,i < n->H4 i=H i:=fun i hi=>(s4 i Om).trans (hk3 i hi)
 cases hiv:isVar (gi p (gi Q 0))with
 | false=>
  have hst:=hcc.st 1 (H':=H4) (hk4 c hcn)
  refine W1 hst ?_
  exact bad _ _ Om hk4 (by rw[hF,if_neg (by rw[hiv];decide)])
 | true=>
  rw[if_pos hiv]at hF
  have t3':At eInt idq H4 uq Q:=t3.mv (s4 idq Om)
  have p3':At eInt idp H4 up L:=p3.mv (by rw[s4 idp Om,s3 idp Om])
  obtain⟨w1,hs1,hw1⟩:=(t3'.lo (c:=c) (il:=il) (n:=n4) Om Om Om).tail (by decide) 1 Om
  have hs1':Yt 1 uq (some (.int .i64 1)) none=some w1:=hs1
  have hLO:=p3'.lo (c:=c) (il:=il) (n:=n4) Om Om Om
  have hLd:Off idd up:=fun i o a k e=>by rcases p3 with⟨h,_⟩|⟨h,_⟩ <;> rw[h]at e <;> cases e;omega
  obtain⟨w2,hs2,hw2⟩:=hLO.tail (by decide) 2 Om
  have hs2':Yt 1 up (some (.int .i64 2)) none=some w2:=hs2
  refine W0 hs1' ?_
  refine Zj (k159 (l:=Q.drop 1) (hcc.mv Om (hk4 c hcn) (hk4 il hil)) hh (hv.mv Om (fun i a _ _=>hk4 i a) (.inl rfl)) (hw1.mv Om (fun _ _ _ _=>rfl) (.inl rfl)) (fun x hx=>by have:=hmm1 x (List.mem_of_mem_drop hx);omega) (by rw[List.length_drop];omega)) ?_
  rintro un H5 n5 q5 s5 ⟨ns,hun,hnl,hnn,h5⟩
  have hk5:Kept c il n H H5:=fun i a b c=>(s5 i Om b c).trans (hk4 i a)
  have hDC5:DC c il idd n5 H5 v ul ud ⟨(Ys p (Q.drop 1)).2,s.L,s.D⟩:=⟨h5,h.ad.mv (by rw[s5 idd Om hnc hni];exact hk4 idd hdn),by omega,hnc,hni⟩
  refine W0 hs2' ?_
  refine Wp.rtm3 (k157 hg (l:=L.drop 2) (fun y hy=>hE y (hmm y (List.mem_of_mem_drop hy)).1 (by have:=hmm y (List.mem_of_mem_drop hy);omega)) (hDC5.mv Om rfl rfl rfl) (hv.mv Om hk5 (.inl rfl)) hvd (fun y hy=>by have:=hmm y (List.mem_of_mem_drop hy);omega) hnl ((hun.lo Om Om).mv Om (fun _ _ _ _=>rfl) (.inl rfl)) (LO.off (c:=c) (il:=il) hun Om) (hw2.mv Om (fun i a b c=>s5 i Om b c) (.inl rfl)) (sliceV_off hs2 hLd) (by rw[List.length_drop];omega) hD) ?_
  rintro H6 n6 q6 s6 ⟨a6,w6,ul6,il6,ud6,idd6,i6,j6,h6⟩
  refine W0 trivial ?_
  refine Wp.pure ⟨So,fun i a b c d=>(s6 i Om b c d).trans (hk5 i a b c),rfl,a6,?_,ul6,il6,ud6,idd6,by omega,by omega,h6.mv So rfl rfl rfl⟩
  rw[hF]
  by_cases hn0:(Ys p (Q.drop 1)).2=0
  ·rw[if_pos hn0]at w6 ⊢
   rw[hn0,← hs0]at w6
   rw[← hnn hn0];exact w6
  ·rw[if_neg hn0]at w6 ⊢
   have e2:Xa (Ys p (Q.drop 1)).2 s=⟨(Ys p (Q.drop 1)).2,s.L,s.D⟩:=by unfold Xa;rw[if_pos hh]
   rw[e2];exact w6
theorem cAll_small {p:List Nd}(hp:PoolOk p):∀ (l:List Int)(j:Nat)(s:CS),inPool p l->Small s->Small (Wi p l j s).1
 | [],j,s,_,hs=>hs
 | v :: l,j,s,hr,hs=>by
  have h1:=Keeps.top hp (hr v List.mem_cons_self).1 (hr v List.mem_cons_self).2 p.length s hs
  rw[Wi]
  split
  ·exact cAll_small hp l (j+1) _ (fun y hy=>hr y (List.mem_cons_of_mem _ hy)) h1
  ·exact h1
theorem cAll_D (p:List Nd):∀ (l:List Int)(j:Nat)(s:CS),(Wi p l j s).1.D.length<=s.D.length+l.length
 | [],j,s=>by simp[Wi]
 | v :: l,j,s=>by
  have h1:=cTop_D (Goes.expr p p.length) p v s
  rw[Wi,List.length_cons]
  split
  ·have:=cAll_D p l (j+1) (cTop (Xr p p.length) p v s);omega
  ·simp only;omega
theorem l1131 {v:Value}{p:List Nd}(hp:PoolOk p){l:List Int}(hr:inPool p l)(hl:l.length<=1048576){c il0 idd0 b n0:Nat}{H0:Hp}{w:Value}(hD0:DC c il0 idd0 n0 H0 v nilS nilS ⟨0,[],[]⟩)(hv:LO eNode c il0 n0 H0 v p)(hvd:Off idd0 v)(hw:LO eInt c il0 n0 H0 w l)(hwd:Off idd0 w)(hb:b < n0)(hbc:b≠c)(hbi:b≠il0)(hbd:b≠idd0):∀ t n1,n0<=n1->t 4=ptr b 0->t 8=ptr c 0->t 9=.int .i64 0->t 1=w->H0 b=some (.row [nilS,nilS,nilS] 0 true) ->
  Wp (Zm (S131L1 (Call Tryz.prog) Zm) t H0 n1) (fun o=>n0<=o.n/\(∀ i,i < n0->i≠c->i≠il0->i≠idd0->i≠b->o.H i=H0 i)/\o.H b=some (.row [nilS,nilS,nilS] 0 true)/\o.t 4=ptr b 0/\((o.e=.exit 2/\o.t 1=w/\o.t 8=ptr c 0/\(Wi p l 0 ⟨0,[],[]⟩).1.how=0/\∃ ul il ud idd,(il=il0∨n0<=il)/\(idd=idd0∨n0<=idd)/\DC c il idd o.n o.H v ul ud (Wi p l 0 ⟨0,[],[]⟩).1)∨(o.e=.ret/\(Wi p l 0 ⟨0,[],[]⟩).1.how≠0/\o.t 5=.int .i64 (Wi p l 0 ⟨0,[],[]⟩).1.how/\o.t 6=.int .i64 (if(Wi p l 0 ⟨0,[],[]⟩).1.how=3 then 0 else(Wi p l 0 ⟨0,[],[]⟩).2)))):=by
 intro t n1 hn1 e4 e8 e9 e1 hb0
 have hcn0:=hD0.cc.cn
 have hil0:=hD0.cc.iln
 have hdn0:=hD0.dn
 refine Zt (fun d T H' n'=>∃ (j:Nat) (ul:Value) (il:Nat) (ud:Value) (idd:Nat) (s:CS),j+d=l.length/\n0<=n'/\(∀ i,i < n0->i≠c->i≠il0->i≠idd0->H' i=H0 i)/\(il=il0∨n0<=il)/\(idd=idd0∨n0<=idd)/\DC c il idd n' H' v ul ud s/\s.how=0/\s.D.length<=j/\Wi p l 0 ⟨0,[],[]⟩=Wi p (l.drop j) j s/\T 1=w/\T 4=ptr b 0/\T 8=ptr c 0/\T 9=.int .i64 j) _ ?_ l.length t H0 n1 ⟨0,nilS,il0,nilS,idd0,⟨0,[],[]⟩,by omega,by omega,fun _ _ _ _ _=>rfl,.inl rfl,.inl rfl,hD0.mv Om rfl rfl rfl,rfl,by simp,by simp,e1,e4,e8,e9⟩
 rintro d T H' n' ⟨j,ul,il,ud,idd,s,hj,hn,s1,hil,hidd,hDC,h0,hDl,hall,e1,e4,e8,e9⟩
 unfold S131L1
 have hbH:H' b=some (.row [nilS,nilS,nilS] 0 true):=by rw[s1 b hb hbc hbi hbd];exact hb0
 have hkeep:∀ {α:Type}{E:Enc α}{w:Value}{l:List α},LO E c il0 n0 H0 w l->Off idd0 w->LO E c il n' H' w l/\Off idd w:=by
  intro α E w l hL hO
  refine⟨⟨(hL.li.keep' fun i o a k e=>s1 i (hL.li.2 i o a k e) (hL.oc i o a k e) (hL.oi i o a k e) (hO i o a k e)).up hn,hL.oc,?_⟩,?_⟩
  ·rcases hil with rfl|h
   ·exact hL.oi
   ·exact hL.li.off h
  ·rcases hidd with rfl|h
   ·exact hO
   ·exact hL.li.off h
 obtain⟨hw',hwd'⟩:=hkeep hw hwd
 obtain⟨hv',hvd'⟩:=hkeep hv hvd
 have hcn:=hDC.cc.cn
 have hiln:=hDC.cc.iln
 have hdn:=hDC.dn
 have hlen:=hw'.li.len
 by_cases hlt:(j:Int) < l.length
 ·have hlt':j < l.length:=by omega
  have g:=hw'.li.iAll (i:=(j:Int)) Om hlt
  have hmem:=Yb (l:=l) (i:=(j:Int)) Om hlt
  have hrj:=hr _ hmem
  have hws:=wj (j:=j) (len:=l.length) hlt' Om
  have hdr:l.drop j=gi l (j:Int) :: l.drop (j+1):=by rw[Yq hlt'];exact List.drop_eq_getElem_cons hlt'
  rw[hdr,Wi]at hall
  refine W0 (Xq e1 e8 e9 hlen hlt g) ?_
  refine Wp.rtm3 (k150 hp (Goes.expr p p.length) (fun y y0 y1=>k171 hp p.length y y0 y1 y1) (hDC.mv Om rfl rfl rfl) h0 (hv'.mv Om (fun _ _ _ _=>rfl) (.inl rfl)) hvd' _ hrj.1 hrj.2 Om) ?_
  rintro H2 n2 q2 s2 ⟨A,wA,ul2,il2,ud2,idd2,i2,j2,h2⟩
  have hDt:=cTop_D (Goes.expr p p.length) p (gi l (j:Int)) s
  generalize hS:cTop (Xr p p.length) p (gi l (j:Int)) s=S at *
  have hc2:=h2.cc.hc
  have hr2:=h2.cc.hr
  rw[wA.1]at hc2 hr2
  have hb2:H2 b=some (.row [nilS,nilS,nilS] 0 true):=by rw[s2 b Om hbc Om Om];exact hbH
  have hk2:∀ i,i < n0->i≠c->i≠il0->i≠idd0->H2 i=H0 i:=fun i a b c d=>by rw[s2 i Om b Om Om];exact s1 i a b c d
  by_cases hS0:S.how=0
  ·rw[if_pos hS0]at hall
   have hA:=wA.2 hS0
   subst hA
   refine W1 (Yj e1 e4 e8 e9 hc2 hS0 (show¬ (0:Int)=3 by decide) hws) ?_
   exact Wp.pure (Nxt.go (d - 1) Om ⟨j+1,ul2,il2,ud2,idd2,A,by omega,by omega,hk2,by omega,by omega,h2.mv Om rfl rfl rfl,hS0,by omega,hall,Pp e1,Pp e4,Pp e8,Po⟩)
  ·rw[if_neg hS0]at hall
   have hst:st true 3 (ptr b 0) (.agg ⟨[nilS,nilS,nilS]⟩) H2=some (H2.set b (some (.row [nilS,nilS,nilS] 0 true))):=by
    rw[st_agg,stv_box hb2];rfl
   have hfr:∀ i,i < n0->i≠c->i≠il0->i≠idd0->i≠b->(H2.set b (some (.row [nilS,nilS,nilS] 0 true))) i=H0 i:=fun i a b c d e=>by rw[Zf _ _ e];exact hk2 i a b c d
   have hcb:(H2.set b (some (.row [nilS,nilS,nilS] 0 true))) c=some (.row [v,ul2,ud2,.int .i64 S.how] 0 true):=(Zf _ _ (Ne.symm hbc)).trans hc2
   by_cases hS3:S.how=3
   ·refine W1 (Yj e1 e4 e8 e9 hc2 hS3 @bld_3n hst) ?_
    exact Wp.pure (Nxt.ret ⟨So,hfr,Ze _ _ _,Pp e4,.inr ⟨rfl,by rw[hall];exact hS0,by rw[hall];simp[Zn,hS3],by rw[hall];simp[Zn,hS3]⟩⟩)
   ·refine W1 (Yj e1 e4 e8 e9 hc2 hS0 hS3 (Ye @bld_3n hst hcb)) ?_
    exact Wp.pure (Nxt.ret ⟨So,hfr,Ze _ _ _,Pp e4,.inr ⟨rfl,by rw[hall];exact hS0,by rw[hall];simp[Zn],by rw[hall];simp[Zn,hS3,e9]⟩⟩)
 ·refine W0 (Yv e1 e9 hlen hlt) ?_
  rw[List.drop_eq_nil_of_le Om,Wi]at hall
  exact Wp.pure (Nxt.exit ⟨So,fun i a b c d _=>s1 i a b c d,hbH,Pp e4,.inl ⟨rfl,Pp e1,Pp e8,by rw[hall];exact h0,ul,il,ud,idd,hil,hidd,by rw[hall];exact hDC.mv So rfl rfl rfl⟩⟩)
theorem bld_41 (u:Value):Xf [nilS,nilS,nilS,.int .i64 0] [(0,1,.agg ⟨[u]⟩)]=some (.agg ⟨[u,nilS,nilS,.int .i64 0]⟩):=rfl
theorem k131 {n:Nat}{H:Hp}{v w:Value}{p:List Nd}{l:List Int}(hv:Li eNode n H v p)(hs:∀ x∈p,x.s.size<=1048576)(hpl:p.length<=1048576)(hw:Li eInt n H w l)(hl:l.length<=1048576):RtN Tryz.prog 131 [.agg ⟨[v]⟩,w] H n (fun r H' n'=>CompRes n n' H' r (Yo p l)):=by
 apply RtN.mk
 rw[c131];unfold S131
 refine W1 trivial ?_
 refine Zv (k45 (hv.mv Om Mo) hs hpl) ?_
 intro H1 n1 q1 s1
 by_cases hp:PoolOk p
 case neg=>
  refine W1 (Xm hp s1 @bld_3n @ldA_r @rowAgg_row) ?_
  exact Wp.pure ⟨So,(Mm s1),by rw[compAns_bad (fun h=>hp h.1)];exact CompRes.none So 3 0⟩
 have hp2:=hp.2
 refine W1 (Zu hp s1) ?_
 have hb1:H1 (n+1)=some (.row [nilS,nilS,nilS] 0 true):=by simp(disch:=omega) only[s1,Ze]
 have hp1:H1 n=some (.row [v] 0 true):=by simp(disch:=omega) only[s1,Zf,Ze]
 have hk1:∀ i,i < n->H1 i=H i:=(Mm s1)
 refine Wp.bind (Zt (fun d T H' n'=>∃ j:Nat,j+d=l.length/\n1+1<=n'/\(∀ i,i < n1->H' i=H1 i)/\T 1=w/\T 2=ptr n 0/\T 4=ptr (n+1) 0/\T 7=.int .i64 j/\∀ y∈l.take j,0<=y/\y < (p.length:Int)) (fun o=>n1+1<=o.n/\o.t 4=ptr (n+1) 0/\((o.e=.exit 0/\(∀ i,i < n1->o.H i=H1 i)/\o.t 1=w/\o.t 2=ptr n 0/\inPool p l)∨(o.e=.ret/\(∀ i,i < n->o.H i=H i)/\o.H (n+1)=some (.row [nilS,nilS,nilS] 0 true)/\¬ inPool p l/\o.t 5=.int .i64 3/\o.t 6=.int .i64 0))) ?_ l.length _ _ _ ⟨0,by omega,by omega,fun _ _=>rfl,Pa,Po,Po,Po,by simp⟩) ?_
 ·rintro d T H' n' ⟨j,hj,hn,t1,e1,e2,e4,e7,hin⟩
  unfold S131L0
  have hw':Li eInt n H' w l:=hw.mv (Nat.le_refl _) (fun i hi=>(t1 i Om).trans (hk1 i hi))
  have hp':H' n=some (.row [v] 0 true):=(t1 n Om).trans hp1
  have hb':H' (n+1)=some (.row [nilS,nilS,nilS] 0 true):=(t1 _ Om).trans hb1
  have hlen:=hw'.len
  by_cases hlt:(j:Int) < l.length
  ·have hlt':j < l.length:=by omega
   have g:=hw'.iAll (i:=(j:Int)) Om hlt
   have hws:=wj (j:=j) (len:=l.length) hlt' Om
   refine W1 (Yj e1 e2 e4 e7 hlen hlt hp' g) ?_
   refine Zv (k46 (hv.mv Om (fun i hi=>(t1 i Om).trans (hk1 i hi))) hpl _) ?_
   intro H2 n2 q2 t2
   have hb2:H2 (n+1)=some (.row [nilS,nilS,nilS] 0 true):=(t2 _ Om).trans hb'
   by_cases hx:0<=gi l (j:Int)/\gi l (j:Int) < (p.length:Int)
   ·refine W1 (Yv hx.1 hx.2 e7 hws) ?_
    refine Wp.pure (Nxt.go (d - 1) Om ⟨j+1,by omega,by omega,fun i hi=>(t2 i Om).trans (t1 i hi),Pp e1,Pp e2,Pp e4,Po,fun y hy=>?_⟩)
    rcases mem_take_next hlt' hy with h|h
    ·exact hin y h
    ·rw[h];exact hx
   ·have hst:st true 3 (ptr (n+1) 0) (.agg ⟨[nilS,nilS,nilS]⟩) H2=some (H2.set (n+1) (some (.row [nilS,nilS,nilS] 0 true))):=by
     rw[st_agg,stv_box hb2];rfl
    refine W1 (Yv hx @bld_3n e4 hst) ?_
    exact Wp.pure (Nxt.ret ⟨So,Pp e4,.inr ⟨rfl,fun i hi=>by show(H2.set _ _) i=H i;rw[Zf _ _ Om,t2 i Om,t1 i Om];exact hk1 i hi,Ze _ _ _,fun h=>hx (h _ (Yb Om hlt)),Po,Po⟩⟩)
  ·refine W0 (Yv e1 e7 hlen hlt) ?_
   rw[List.take_of_length_le Om]at hin
   exact Wp.pure (Nxt.exit ⟨So,Pp e4,.inl ⟨rfl,t1,Pp e1,Pp e2,hin⟩⟩)
 rintro⟨oe,ot,oH,on⟩ ⟨f1,f4,f5⟩
 simp only at f1 f4 f5
 rcases f5 with⟨rfl,f5,e1,e2,hr⟩|⟨rfl,f5,f6,hr,e5,e6⟩
 case inr=>
  simp(disch:=omega)only[↓reduceIte,Zr,↓X0,X1,Nat.reduceEqDiff,Int.reduceEq,Nat.reduceAdd,Nat.reduceSub,f4,e5,e6,ldA_r,f6,rowAgg_row,List.length_cons,List.length_nil,Nat.reduceLeDiff,List.drop_zero,List.take_succ_cons,List.take_zero]
  exact Wp.pure ⟨So,f5,by rw[compAns_bad (fun h=>hr h.2)];exact CompRes.none So 3 0⟩
 have hpo:oH n=some (.row [v] 0 true):=(f5 n Om).trans hp1
 have hbo:oH (n+1)=some (.row [nilS,nilS,nilS] 0 true):=(f5 _ Om).trans hb1
 have hko:∀ i,i < n->oH i=H i:=fun i hi=>(f5 i Om).trans (hk1 i hi)
 refine W1 (Zu e2 hpo) ?_
 refine Ya (k51 (hv.mv Om hko) Om) ?_
 rintro _ H3 n3 q3 s3 ⟨u,rfl,id,i1,i2,i3⟩
 refine W1 @bld_41 ?_
 generalize hG:H3.set (on+3) _=G
 have hGs:∀ i,i≠on+3->G i=H3 i:=fun i hi=>by rw[← hG];exact Zf _ _ hi
 have hk:∀ i,i < on+3->G i=oH i:=fun i hi=>by rw[hGs i Om];exact s3 i Om
 have hid:At eNode id G u p:=i3.mv (hGs id Om)
 have hb:G (n+1)=some (.row [nilS,nilS,nilS] 0 true):=by rw[hk _ Om];exact hbo
 have hDC:DC (on+3) (on+4) (on+2) (n3+1) G u nilS nilS ⟨0,[],[]⟩:=⟨⟨by rw[← hG];exact Ze _ _ _,At.nil,by omega,by omega,by omega,by simp,⟨Int.le_refl 0,by show(0:Int)<=3;decide⟩⟩,At.nil,by omega,by omega,by omega⟩
 have hwG:Li eInt n G w l:=hw.mv (Nat.le_refl _) (fun i hi=>by rw[hk i Om];exact hko i hi)
 refine Wp.bind (l1131 hp hr hl (b:=n+1) (w:=w) hDC (hid.lo Om Om Om) (fun i o a k e=>by rcases hid with⟨h,_⟩|⟨h,_⟩ <;> rw[h]at e <;> cases e;omega) ⟨hwG.mv Om (fun _ _=>rfl),hwG.off Om,hwG.off Om⟩ (hwG.off Om) Om Om Om Om _ _ (Nat.le_refl _) (Pp f4) Po Po (Pp e1) hb) ?_
 rintro⟨pe,pt,pH,pn⟩ ⟨f1',f2,f3,f4',f5'⟩
 simp only at f1' f2 f3 f4' f5'
 have hkn:∀ i,i < n->pH i=H i:=fun i hi=>by
  rw[f2 i Om Om Om Om Om,hk i Om];exact hko i hi
 have hD:=cAll_D p l 0 ⟨0,[],[]⟩
 have hSm:=cAll_small hp l 0 ⟨0,[],[]⟩ hr ⟨fun x hx=>by simp at hx,fun x hx=>by simp at hx⟩
 have hyes:=fun h0 h3=>compAns_y (p:=p) (l:=l) ⟨hp,hr⟩ h0 h3
 have hno:=fun h0 h3=>compAns_n (p:=p) (l:=l) ⟨hp,hr⟩ h0 h3
 have hthree:=fun h0=>compAns_3 (p:=p) (l:=l) ⟨hp,hr⟩ h0
 have herr:=fun h0 h3=>compAns_e (p:=p) (l:=l) ⟨hp,hr⟩ h0 h3
 generalize hQ:Wi p l 0 ⟨0,[],[]⟩=Q at *
 obtain⟨S,at_⟩:=Q
 simp only at f5' hD hSm hyes hno hthree herr
 rcases f5' with⟨rfl,e1',e8,h0,ul,il,ud,idd,j1,j2,hdc⟩|⟨rfl,h0,e5,e6⟩
 ·have hc:=hdc.cc.hc
  have hcn:=hdc.cc.cn
  have hil:=hdc.cc.iln
  have hdn:=hdc.dn
  have hpid:At eNode id pH u p:=hid.mv (f2 id Om Om Om Om Om)
  have hLl:=hdc.cc.len
  have v1:=vcells1 hdc.cc.al.cell
  have v2:=vcells1 hdc.ad.cell
  refine W1 (Yv e8 hc v1 v2) ?_
  refine Zv (k44 ((hpid.lst (n:=pn) Om).mv Om Mo) ((hdc.cc.al.lst hil).mv Om Mo) ((hdc.ad.lst hdn).mv Om Mo) hs hSm.1 hSm.2 hpl Om (by simp at hD;omega)) ?_
  intro H5 n5 q5 s5
  have hb5:H5 (n+1)=some (.row [nilS,nilS,nilS] 0 true):=by rw[s5 _ Om,Zf _ _ Om];exact f3
  have hx5:H5 (pn+13)=some (.row [u,ul,ud] 0 true):=by rw[s5 _ Om];exact Ze _ _ _
  have hk5:∀ i,i < pn->H5 i=pH i:=fun i hi=>(s5 i Om).trans (Zf _ _ Om)
  by_cases hco:Xd p S.L S.D
  ·rw[hyes h0 hco]
   have hst:st true 3 (ptr (n+1) 0) (.agg ⟨[u,ul,ud]⟩) H5=some (H5.set (n+1) (some (.row [u,ul,ud] 0 true))):=by
    rw[st_agg,stv_box hb5];rfl
   refine W1 (Xq hco e1' f4' hx5 hst hwG.len) ?_
   refine Wp.pure ⟨So,(Mm (Zu hk5 hkn)),u,ul,ud,rfl,id,il,idd,?_,?_,?_,by omega,So,?_,So,?_,So,?_,?_,?_⟩
   ·omega
   ·omega
   ·exact Ne.symm hdc.ni
   ·omega
   ·omega
   ·exact hpid.mv ((Zf _ _ Om).trans (hk5 _ Om))
   ·exact hdc.cc.al.mv ((Zf _ _ Om).trans (hk5 _ Om))
   ·exact hdc.ad.mv ((Zf _ _ Om).trans (hk5 _ Om))
  ·rw[hno h0 hco]
   refine W1 (Xq hco f4' @bld_3n hb5 @ldA_r @rowAgg_row) ?_
   exact Wp.pure ⟨So,(Mm (Zu hk5 hkn)),CompRes.none So 3 0⟩
 ·simp(disch:=omega)only[↓reduceIte,Zr,↓X0,X1,Nat.reduceEqDiff,Int.reduceEq,Nat.reduceAdd,Nat.reduceSub,f4',e5,e6,ldA_r,f3,rowAgg_row,List.length_cons,List.length_nil,Nat.reduceLeDiff,List.drop_zero,List.take_succ_cons,List.take_zero]
  by_cases h3:S.how=3
  ·rw[hthree h3]
   rw[h3,if_pos rfl]
   exact Wp.pure ⟨So,hkn,CompRes.none So 3 0⟩
  ·rw[herr h0 h3,if_neg h3]
   exact Wp.pure ⟨So,hkn,CompRes.none So _ _⟩
def RightC (lo n:Nat)(H:Hp)(u ul ud:Value):Prop:=∃ l li ld,New3 lo n H u ul ud l li ld/\Xd l li ld/\0 < li.length
theorem New3.mv {lo n m:Nat}{H H':Hp}{u ul ud:Value}{l:List Nd}{li:List Ins}{ld:List Df}(h:New3 lo n H u ul ud l li ld)(hm:n<=m)(hs:∀ i,lo<=i->i < n->H' i=H i):New3 lo m H' u ul ud l li ld:=by
 obtain⟨i,j,k,h1,h2,h3,a1,a2,b1,b2,c1,c2,o1,o2,o3⟩:=h
 exact⟨i,j,k,h1,h2,h3,a1,by omega,b1,by omega,c1,by omega,o1.mv (hs _ a1 a2),o2.mv (hs _ b1 b2),o3.mv (hs _ c1 c2)⟩
theorem New3.lo {lo lo' n:Nat}{H:Hp}{u ul ud:Value}{l:List Nd}{li:List Ins}{ld:List Df}(h:New3 lo n H u ul ud l li ld)(hm:lo'<=lo):New3 lo' n H u ul ud l li ld:=by
 obtain⟨i,j,k,h1,h2,h3,a1,a2,b1,b2,c1,c2,o⟩:=h
 exact⟨i,j,k,h1,h2,h3,by omega,a2,by omega,b2,by omega,c2,o⟩
theorem RightC.mv {lo lo' n m:Nat}{H H':Hp}{u ul ud:Value}(h:RightC lo n H u ul ud)(hl:lo'<=lo)(hm:n<=m)(hs:∀ i,lo<=i->i < n->H' i=H i):RightC lo' m H' u ul ud:=by
 obtain⟨l,li,ld,h1,h2⟩:=h
 exact⟨l,li,ld,(h1.mv hm hs).lo hl,h2⟩
theorem rd_small {w:ByteArray}(h:PoolOk (Vx w).pool):(∀ x∈(Vx w).pool,x.s.size<=1048576)/\(Vx w).pool.length<=1048576:=by
 refine⟨fun x hx=>?_,by have:=h.2;omega⟩
 obtain⟨k,hk,rfl⟩:=List.mem_iff_getElem.1 hx
 have:=node_sz h (v:=(k:Int)) Om Om
 rw[Yq hk]at this
 exact this
theorem comp_right {lo n:Nat}{H:Hp}{u ul ud:Value}{p:List Nd}{l:List Int}(h:New3 lo n H u ul ud (Yo p l).p (Yo p l).L (Yo p l).D) (h0:(Yo p l).how=0) (hl:l≠[]):RightC lo n H u ul ud:=by
 rcases compAns_two p l with h1|⟨-,h2,-⟩
 ·exact absurd h0 h1.1
 ·exact⟨_,_,_,h,h2,comp_len hl h0⟩
theorem k103 {c n:Nat}{H:Hp}(hc:Cu c n H):RtD Tryz.prog 103 [ptr c 0] c H n (fun r H' n'=>∃ u ul ud,r=.agg ⟨[u,ul,ud]⟩/\RightC n n' H' u ul ud):=by
 apply RtD.mk
 rw[c103];unfold S103
 have hcn:=hc.1
 refine Wp.bind (R:=fun(o:Out)=>n+2<=o.n/\(∀ i,i < n->i≠c->o.H i=H i)/\Cu c o.n o.H/\o.t 2=ptr n 0/\((o.e=.exit 0/\o.H n=some (.row [nilS,nilS,nilS] 0 true))∨(o.e=.ret/\∃ u ul ud,o.H n=some (.row [u,ul,ud] 0 true)/\RightC (n+2) o.n o.H u ul ud))) (Zt (fun d T H' n'=>∃ k:Nat,k+d=4/\n+2<=n'/\(∀ i,i < n->i≠c->H' i=H i)/\H' n=some (.row [nilS,nilS,nilS] 0 true)/\Cu c n' H'/\T 0=ptr c 0/\T 2=ptr n 0/\T 3=.int .i64 (k:Int)) _ ?_ 4 _ _ _ ⟨0,by omega,by omega,fun i hi _=>Zf _ _ Om,Ze _ _ _,hc.mv Om (fun i hi=>Zf _ _ Om),Pa,Po,Po⟩) ?_
 ·rintro d T H' n' ⟨k,hk,hn',hs,hp,hc',t0,t2,t3⟩
  unfold S103L0
  by_cases h4:(k:Int) < 4
  ·have w1:=wn (j:=k) Om
   refine W1 (Ye t0 t3 h4) ?_
   refine Zy (k130 (hc'.up Om)) ?_
   rintro _ H1 n1 q1 s1 c1 ⟨x,rfl,hx,hxb⟩
   refine W1 trivial ?_
   refine Ya (k129 x _ _) ?_
   rintro _ H2 n2 q2 s2 ⟨u,w,rfl,⟨i,j,i1,i2,j1,j2,hij,hu,hw⟩,hok,hxs⟩
   obtain⟨z1,z2⟩:=rd_small hok
   have hc1:=c1.1
   refine W1 s2 ?_
   refine Ya (k131 ((hu.mv Mo).lst Om) z1 z2 ((hw.mv Mo).lst Om) Om) ?_
   rintro _ H3 n3 q3 s3 ⟨a,al,ad,rfl,hN⟩
   have hcH3:Cu c (n3+6) (H3.set (n2+7) (some (.row [a,al,ad] 0 true))):=c1.mv Om (fun i hi=>by rw[Zf _ _ Om,s3 _ Om,Zf _ _ Om,s2 _ Om])
   have hlo3:∀ i,i < n->i≠c->H3 i=H i:=fun i hi hne=>by rw[s3 _ Om,Zf _ _ Om,s2 _ Om,s1 _ Om hne];exact hs i hi hne
   have hp3:H3 n=some (.row [nilS,nilS,nilS] 0 true):=by rw[s3 _ Om,Zf _ _ Om,s2 _ Om,s1 _ Om Om];exact hp
   by_cases hr:(Vx x).how=0
   ·by_cases hf:(Yo (Vx x).pool (Vx x).list).how=0
    ·have hR:=comp_right hN hf (rdAns_some hx hr)
     refine W1 (Yv hr hf t2 hp3) ?_
     refine Wp.pure (Nxt.ret ⟨So,(Mm hlo3),hcH3.mv So (fun i hi=>Zf _ _ Om),Pp t2,.inr ⟨rfl,a,al,ad,Ze _ _ _,hR.mv Om So (fun i hi hi2=>by simp(disch:=omega) only[Zf])⟩⟩)
    ·refine W1 (Yv hr hf t3 w1) ?_
     exact Wp.pure (Nxt.go (d - 1) Om ⟨k+1,by omega,by omega,(Mm hlo3),(Mm hp3),hcH3.up Om,Pp t0,Pp t2,Po⟩)
   ·refine W1 (Ye hr t3 w1) ?_
    exact Wp.pure (Nxt.go (d - 1) Om ⟨k+1,by omega,by omega,(Mm hlo3),(Mm hp3),hcH3.up Om,Pp t0,Pp t2,Po⟩)
  ·refine W0 (Zu t3 h4) ?_
   exact Wp.pure (Nxt.exit ⟨So,hs,hc'.up So,Pp t2,.inl ⟨rfl,hp⟩⟩)
 ·rintro⟨oe,oT,oH,on⟩ ⟨f1,f2,f3,t2,⟨rfl,f4⟩|⟨rfl,a,al,ad,f4,f5⟩⟩
  ·simp only at f1 f2 f3 t2 f4
   have hc3:=f3.1
   rw[show(⟨#[40,112,114,105,110,116,32,49,41]⟩:ByteArray)=wP1 from rfl]
   refine W1 trivial ?_
   refine Ya (k129 wP1 _ _) ?_
   rintro _ H2 n2 q2 s2 ⟨u,w,rfl,⟨i,j,i1,i2,j1,j2,hij,hu,hw⟩,hok,hxs⟩
   obtain⟨z1,z2⟩:=rd_small hok
   refine W1 s2 ?_
   refine Ya (k131 ((hu.mv Mo).lst Om) z1 z2 ((hw.mv Mo).lst Om) Om) ?_
   rintro _ H3 n3 q3 s3 ⟨a,al,ad,rfl,hN⟩
   have hR:=comp_right hN aP1 (by rw[rP1];simp)
   have hp3:H3 n=some (.row [nilS,nilS,nilS] 0 true):=by rw[s3 _ Om,Zf _ _ Om,s2 _ Om];exact f4
   refine W1 (Zu t2 hp3) ?_
   exact Wp.pure ⟨So,fun i hi hne=>by simp(disch:=omega) only[Zf,s3,s2,f2 i hi hne],f3.mv So (fun i hi=>by simp(disch:=omega) only[Zf,s3,s2]),a,al,ad,rfl,hR.mv Om So (fun i hi hi2=>by simp(disch:=omega) only[Zf])⟩
  ·simp only at f1 f2 f3 t2 f4 f5
   simp(disch:=omega)only[↓reduceIte,Zr,↓X0,X1,Nat.reduceEqDiff,Int.reduceEq,Nat.reduceAdd,Nat.reduceSub]
   refine W1 (Zu t2 f4) ?_
   exact Wp.pure ⟨So,f2,f3,a,al,ad,rfl,f5.mv Om So (fun _ _ _=>rfl)⟩
theorem k16 {n:Nat}{H:Hp}{v:Value}{l:List Int}(hv:Li eByte n H v l):Call Tryz.prog 16 [v] H n=some (.bool (decide (1048576 < l.length)),H,n+5):=by
 rw[c16];unfold S16
 simp(disch:=omega)only[↓reduceIte,Zr,↓X0,X1,Nat.reduceEqDiff,Int.reduceEq,Nat.reduceAdd,Nat.reduceSub,hv.len]
 simp only[nats_lt (j:=1048576),show((1048576:Int)=((1048576:Nat):Int))from rfl]
theorem Cu.hi {c n:Nat}{H:Hp}(h:Cu c n H):c < n:=h.1
structure BndC (l:List Nd)(li:List Ins)(ld:List Df):Prop where
 a1:∀ x∈l,x.s.size<=1048576
 a2:∀ x∈li,x.s.size<=1048576
 a3:∀ x∈ld,x.s.size<=1048576
 b1:l.length<=4000
 b2:li.length<=400
 b3:ld.length<=30
def DrawnC (lo n:Nat)(H:Hp)(u ul ud:Value):Prop:=∃ l li ld,New3 lo n H u ul ud l li ld/\BndC l li ld
theorem BndC.set {l:List Nd}{li:List Ins}{ld:List Df}(h:BndC l li ld)(j:Nat){y:Ins}(hy:y.s.size<=1048576):BndC l (li.set j y) ld :=
 ⟨h.a1,fun x hx=>by
  rcases List.mem_or_eq_of_mem_set hx with hx|rfl
  ·exact h.a2 x hx
  ·exact hy,h.a3,h.b1,by rw[List.length_set];exact h.b2,h.b3⟩
theorem RightC.bnd {lo n:Nat}{H:Hp}{u ul ud:Value}(h:RightC lo n H u ul ud):∃ l li ld,New3 lo n H u ul ud l li ld/\BndC l li ld/\0 < li.length/\Xd l li ld:=by
 obtain⟨l,li,ld,h1,h2,h3⟩:=h
 obtain⟨z1,z2,z3⟩:=code_sz h2
 obtain⟨k1,k2,k3,-,-⟩:=id h2
 have:=k1.2
 exact⟨l,li,ld,h1,⟨z1,z2,z3,by omega,by omega,by omega⟩,h3,h2⟩
theorem At.row {α:Type}{E:Enc α}{id:Nat}{H:Hp}{v:Value}{l:List α}(h:At E id H v l)(hl:0 < l.length):v=sl id 0 l.length/\H id=some (.row (l.flatMap E.cells) E.sz true):=by
 rcases h with⟨-,rfl⟩|h
 ·simp at hl
 ·exact h
theorem New3.edit {lo n:Nat}{H:Hp}{u ul ud:Value}{l:List Nd}{li:List Ins}{ld:List Df}{i il id:Nat}(d1:i≠il)(d2:i≠id)(d3:il≠id)(a1:lo<=i)(a2:i < n)(b1:lo<=il)(b2:il < n)(c1:lo<=id)(c2:id < n)(o1:At eNode i H u l)(o3:At eDef id H ud ld)(j:Nat)(y:Ins)(hul:ul=sl il 0 li.length):New3 lo n (H.set il (some (.row ((li.set j y).flatMap eIns.cells) 4 true))) u ul ud l (li.set j y) ld :=
 ⟨i,il,id,d1,d2,d3,a1,a2,b1,b2,c1,c2,o1.mv (Zf _ _ d1),.inr ⟨by rw[hul,List.length_set],Ze _ _ _⟩,o3.mv (Zf _ _ (Ne.symm d3))⟩
theorem k72 {c n:Nat}{H:Hp}(hc:Cu c n H):RtD Tryz.prog 72 [ptr c 0] c H n (fun r H' n'=>∃ u ul ud,r=.agg ⟨[u,ul,ud]⟩/\DrawnC n n' H' u ul ud):=by
 apply RtD.mk
 rw[c72];unfold S72
 have hcn:=hc.1
 refine W0 trivial ?_
 refine Zy (k103 (hc.mv Om (fun i hi=>Zf _ _ Om))) ?_
 rintro _ H1 n1 q1 s1 c1 ⟨u,ul,ud,rfl,hR⟩
 obtain⟨l,li,dl,⟨i,il,id,d1,d2,d3,a1,a2,b1,b2,e1,e2,o1,o2,o3⟩,hB,hpos,hok⟩:=hR.bnd
 have hB3:dl.length<=20:=hok.2.2.1
 obtain⟨hul,hrow⟩:=o2.row hpos
 have hlen:∀ H':Hp,H' il=H1 il->Zx false ul=some (.int .i64 li.length):=fun H' h=>((o2.mv (H':=H1) rfl).lst b2).len
 have hlen:=hlen H1 rfl
 refine W1 hlen ?_
 refine Zy (k69 (c1.mv Om (fun i hi=>Zf _ _ Om)) _) ?_
 rintro _ H2 n2 q2 s2 c2 ⟨jj,rfl,-,hj⟩
 have hj:=hj Om
 obtain⟨j,rfl⟩:∃ j:Nat,jj=(j:Int):=⟨jj.toNat,by omega⟩
 have hjl:j < li.length:=by omega
 refine W0 trivial ?_
 refine Zy (k69 (c2.up Om) 25) ?_
 rintro _ H3 n3 q3 s3 c3 ⟨r,rfl,-,hr⟩
 refine W0 trivial ?_
 have hM:∀ i,i < n1->i≠c->i≠n+3->H3 i=H1 i:=fun i h1 h2 h3=>by rw[s3 _ Om h2,s2 _ Om h2,Zf _ _ h3]
 have hp3:H3 (n+3)=some (.row [u,ul,ud] 0 true):=by rw[s3 _ Om Om,s2 _ Om Om,Ze]
 have hp0:H3 n=some (.row [nilS,nilS,nilS] 0 true):=by rw[hM _ Om Om Om,s1 _ Om Om,Ze]
 have hlo:∀ i,i < n->i≠c->H3 i=H i:=fun i h1 h2=>by rw[hM _ Om h2 Om,s1 _ Om h2,Zf _ _ Om]
 have p1:=o1.mv (H':=H3) (hM _ Om Om Om)
 have p3:=o3.mv (H':=H3) (hM _ Om Om Om)
 have prow:H3 il=some (.row (li.flatMap eIns.cells) 4 true):=by rw[hM _ Om Om Om];exact hrow
 have hx:Zo 4 ul (.int .i64 (j:Int))=some (ptr il (j * 4)):=by rw[hul];exact idx_sl hjl
 have hg:∀ y:Ins,∀ f:Nat,f < 4->∀ cv,cell1 cv=true->eIns.cells y=Yz (eIns.cells li[j]) f [cv]->∀ H':Hp,H' il=H3 il->st false 1 (ptr il (j * 4+f)) cv H'=some (H'.set il (some (.row ((li.set j y).flatMap eIns.cells) 4 true))):=fun y f hf cv hcv hy H' hH=>st_fcD (E:=eIns) (by rw[hH];exact prow) hjl hf hcv hy
 refine Wp.bind (R:=fun(o:Out)=>n3<=o.n/\(∀ i,i < n->i≠c->o.H i=H i)/\Cu c o.n o.H/\o.t 2=ptr n 0/\o.t 3=ptr (n+3) 0/\o.H n=some (.row [nilS,nilS,nilS] 0 true)/\∃ u ul ud,o.H (n+3)=some (.row [u,ul,ud] 0 true)/\DrawnC (n+5) o.n o.H u ul ud) ?_ ?_
 ·by_cases r0:r=0
  ·rw[decide_eq_true r0]
   have hld:ld false 1 (ptr (n+3) 1) H3=some ul:=Uf hp3 rfl
   refine W0 hld ?_
   refine Zy (k69 (c3.up Om) 11) ?_
   rintro _ H4 n4 q4 s4 c4 ⟨a,rfl,-,-⟩
   have hld4:ld false 1 (ptr (n+3) 1) H4=some ul:=Uf (by rw[s4 _ Om Om];exact hp3) rfl
   have hst:=hg ⟨a,li[j].n,li[j].i,li[j].s⟩ 0 Om (.int .i64 a) rfl rfl H4 (s4 _ Om Om)
   rw[Nat.add_zero]at hst
   refine W0 (Ye hld4 hx hst) ?_
   exact Wp.pure ⟨So,fun i h1 h2=>by simp(disch:=omega) only[Zf,s4,hlo],c4.mv So (fun i hi=>Zf _ _ Om),Po,Po,by simp(disch:=omega) only[Zf,s4,hp0],u,ul,ud,by simp(disch:=omega) only[Zf,s4,hp3],l,_,dl,New3.edit d1 d2 d3 a1 So b1 So e1 So (p1.mv (s4 _ Om Om)) (p3.mv (s4 _ Om Om)) _ _ hul,hB.set _ (hB.a2 li[j] (List.getElem_mem hjl))⟩
  rw[decide_eq_false r0]
  refine W0 trivial ?_
  by_cases r1:r=1
  ·rw[decide_eq_true r1]
   have hld:ld false 1 (ptr (n+3) 1) H3=some ul:=Uf hp3 rfl
   have w1:IntKind.i64.wrap ((j:Int)+1)=(j:Int)+1:=Wo (by have:=hB.b2;omega)
   have w2:IntKind.i64.wrap ((li.length:Int)+1)=(li.length:Int)+1:=Wo (by have:=hB.b2;omega)
   have hlen3:Zx false ul=some (.int .i64 li.length):=hlen
   refine W0 (Yv hld hlen3 w1 w2) ?_
   refine Uc eInt [-1,0,(j:Int),(j:Int)+1,(li.length:Int),(li.length:Int)+1] (by decide) rfl rfl ?_
   refine W0 trivial ?_
   refine Zy (k70 (c3.mv Om (fun i hi=>Zf _ _ Om)) ((At.of rfl (Ze _ _ _)).lst Om) (Off.sl Om) (by simp)) ?_
   rintro _ H4 n4 q4 s4 c4 ⟨a,rfl,-⟩
   have hld4:ld false 1 (ptr (n+3) 1) H4=some ul:=Uf (by rw[s4 _ Om Om,Zf _ _ Om];exact hp3) rfl
   have hst:=hg ⟨li[j].op,a,li[j].i,li[j].s⟩ 1 Om (.int .i64 a) rfl rfl H4 (by rw[s4 _ Om Om,Zf _ _ Om])
   refine W0 (Ye hld4 hx hst) ?_
   exact Wp.pure ⟨So,fun i h1 h2=>by simp(disch:=omega) only[Zf,s4,hlo],c4.mv So (fun i hi=>Zf _ _ Om),Po,Po,by simp(disch:=omega) only[Zf,s4,hp0],u,ul,ud,by simp(disch:=omega) only[Zf,s4,hp3],l,_,dl,New3.edit d1 d2 d3 a1 So b1 So e1 So (p1.mv (by rw[s4 _ Om Om,Zf _ _ Om])) (p3.mv (by rw[s4 _ Om Om,Zf _ _ Om])) _ _ hul,hB.set _ (hB.a2 li[j] (List.getElem_mem hjl))⟩
  rw[decide_eq_false r1]
  refine W0 trivial ?_
  by_cases r2:r=2
  ·rw[decide_eq_true r2]
   have hld:ld false 1 (ptr (n+3) 1) H3=some ul:=Uf hp3 rfl
   refine W0 hld ?_
   refine Zy (k69 (c3.up Om) 7) ?_
   rintro _ H4 n4 q4 s4 c4 ⟨a,rfl,-,ha⟩
   have ha:=ha Om
   have w1:IntKind.i64.wrap (a - 1)=a - 1:=Wo Om
   have hld4:ld false 1 (ptr (n+3) 1) H4=some ul:=Uf (by rw[s4 _ Om Om];exact hp3) rfl
   have hst:=hg ⟨li[j].op,li[j].n,a - 1,li[j].s⟩ 2 Om (.int .i64 (a - 1)) rfl rfl H4 (by rw[s4 _ Om Om])
   refine W0 (Yv hld4 hx hst w1) ?_
   exact Wp.pure ⟨So,fun i h1 h2=>by simp(disch:=omega) only[Zf,s4,hlo],c4.mv So (fun i hi=>Zf _ _ Om),Po,Po,by simp(disch:=omega) only[Zf,s4,hp0],u,ul,ud,by simp(disch:=omega) only[Zf,s4,hp3],l,_,dl,New3.edit d1 d2 d3 a1 So b1 So e1 So (p1.mv (by rw[s4 _ Om Om])) (p3.mv (by rw[s4 _ Om Om])) _ _ hul,hB.set _ (hB.a2 li[j] (List.getElem_mem hjl))⟩
  rw[decide_eq_false r2]
  refine W0 trivial ?_
  by_cases r3:r=3
  ·rw[decide_eq_true r3]
   have hld:ld false 1 (ptr (n+3) 1) H3=some ul:=Uf hp3 rfl
   refine W0 hld ?_
   refine Wp.bslS sz12 (by decide +kernel) (by decide +kernel) (by decide) (by decide +kernel) (by simp[Vu]) ?_
   intro xs H5 z1 z2 s5 z3
   refine W0 trivial ?_
   refine Zy (k110 (c3.mv Om (fun i hi=>s5 _ Om)) (z3.lst Om) (z3.off Om) z1) ?_
   rintro _ H4 n4 q4 s4 c4 ⟨a,rfl,ha⟩
   have ha:=z2 a ha
   simp only[sz12,decide_eq_true_eq]at ha
   have hld4:ld false 1 (ptr (n+3) 1) H4=some ul:=Uf (by rw[s4 _ Om Om,s5 _ Om];exact hp3) rfl
   have hst:=hg ⟨li[j].op,li[j].n,li[j].i,a⟩ 3 Om (.string a) rfl rfl H4 (by rw[s4 _ Om Om,s5 _ Om])
   refine W0 (Ye hld4 hx hst) ?_
   exact Wp.pure ⟨So,fun i h1 h2=>by simp(disch:=omega) only[Zf,s4,s5,hlo],c4.mv So (fun i hi=>Zf _ _ Om),Po,Po,by simp(disch:=omega) only[Zf,s4,s5,hp0],u,ul,ud,by simp(disch:=omega) only[Zf,s4,s5,hp3],l,_,dl,New3.edit d1 d2 d3 a1 So b1 So e1 So (p1.mv (by rw[s4 _ Om Om,s5 _ Om])) (p3.mv (by rw[s4 _ Om Om,s5 _ Om])) _ _ hul,hB.set _ So⟩
  rw[decide_eq_false r3]
  refine W0 trivial ?_
  by_cases r4:r=4
  ·rw[decide_eq_true r4]
   have hld:ld false 1 (ptr (n+3) 2) H3=some ud:=Uf hp3 rfl
   refine W0 hld ?_
   refine Wp.bslS sz12 (by decide +kernel) (by decide +kernel) (by decide) (by decide +kernel) (by simp[Vu]) ?_
   intro xs H4 z1 z2 s4 z3
   refine W0 trivial ?_
   refine Zy (k110 (c3.mv Om (fun i hi=>s4 _ Om)) (z3.lst Om) (z3.off Om) z1) ?_
   rintro _ H5 n5 q5 s5 c5 ⟨x,rfl,hx5⟩
   have hx5:=z2 x hx5
   simp only[sz12,decide_eq_true_eq]at hx5
   have hp5:H5 (n+3)=some (.row [u,ul,ud] 0 true):=by rw[s5 _ Om Om,s4 _ Om];exact hp3
   have hld5:ld false 1 (ptr (n+3) 2) H5=some ud:=Uf hp5 rfl
   refine W0 hld5 ?_
   refine Zy (k69 (c5.up Om) 60) ?_
   rintro _ H6 n6 q6 s6 c6 ⟨a,rfl,-,-⟩
   have hp6:H6 (n+3)=some (.row [u,ul,ud] 0 true):=by rw[s6 _ Om Om];exact hp5
   have hld6:ld false 1 (ptr (n+3) 2) H6=some ud:=Uf hp6 rfl
   refine W0 hld6 ?_
   refine Zy (k69 (c6.up Om) 6) ?_
   rintro _ H7 n7 q7 s7 c7 ⟨b,rfl,-,-⟩
   have hp7:H7 (n+3)=some (.row [u,ul,ud] 0 true):=by rw[s7 _ Om Om];exact hp6
   have hM7:∀ i,i < n3->i≠c->H7 i=H3 i:=fun i h1 h2=>by rw[s7 _ Om h2,s6 _ Om h2,s5 _ Om h2,s4 _ Om]
   have hbl:Xx (n3+20) 3 1 [.string ⟨#[]⟩,.int .i64 0,.int .i64 0] [(0,3,.agg ⟨[.string x,.int .i64 a,.int .i64 b]⟩)] H7=some (sl (n3+20) 0 1,H7.set (n3+20) (some (.row [.string x,.int .i64 a,.int .i64 b] 3 true))):=bsl_one eDef ⟨x,a,b⟩ _ _ _ _ rfl rfl (by decide)
   refine W1 (Zu hp7 hbl) ?_
   refine Ub (E:=eDef) ⟨x,a,b⟩ (p3.mv (hM7 _ Om Om)) Om (by decide) (by have:=hB.b3;omega) ?_
   intro H8 z4 z5
   have hp8:H8 (n+3)=some (.row [u,ul,ud] 0 true):=by rw[z5 _ Om Om Om];exact hp7
   refine W1 hp8 ?_
   refine Wp.pure ⟨So,fun i h1 h2=>by simp(disch:=omega) only[Zf,z5,hM7,hlo],c7.mv So (fun i hi=>by simp(disch:=omega) only[Zf,z5]),Po,Po,by simp(disch:=omega) only[Zf,z5,hM7,hp0],u,ul,_,Ze _ _ _,l,li,dl++[⟨x,a,b⟩],⟨i,il,n3+21,d1,by omega,by omega,a1,So,b1,So,by omega,So,p1.mv (by simp(disch:=omega) only[Zf,z5,hM7]),.inr ⟨hul,by simp(disch:=omega) only[Zf,z5,hM7,prow]⟩,.inr ⟨rfl,(Zf _ _ Om).trans z4⟩⟩,hB.a1,hB.a2,?_,hB.b1,hB.b2,?_⟩
   ·intro y hy
    rcases List.mem_append.1 hy with hy|hy
    ·exact hB.a3 y hy
    ·simp only[List.mem_cons,List.not_mem_nil,or_false]at hy
     rw[hy];simp only;omega
   ·have h30:dl.length<=20:=hB3
    rw[List.length_append]
    show dl.length+1<=30
    omega
  rw[decide_eq_false r4]
  refine W0 trivial ?_
  by_cases r5:r=5
  ·rw[decide_eq_true r5]
   refine W0 trivial ?_
   refine Zy (k73 (c3.up Om)) ?_
   rintro _ H4 n4 q4 s4 c4 ⟨u2,l2,rfl,hsh,hl2,k,k1,k2,k3⟩
   have hp4:H4 (n+3)=some (.row [u,ul,ud] 0 true):=by rw[s4 _ Om Om];exact hp3
   refine W1 hp4 ?_
   exact Wp.pure ⟨So,fun i h1 h2=>by simp(disch:=omega) only[Zf,s4,hlo],c4.mv So (fun i hi=>Zf _ _ Om),Po,Po,by simp(disch:=omega) only[Zf,s4,hp0],u2,ul,ud,Ze _ _ _,l2,li,dl,⟨k,il,id,by omega,by omega,d3,by omega,So,b1,So,e1,So,k3.mv (Zf _ _ Om),.inr ⟨hul,by simp(disch:=omega) only[Zf,s4,prow]⟩,p3.mv (by simp(disch:=omega) only[Zf,s4])⟩,fun x hx=>by have:=hsh x hx;omega,hB.a2,hB.a3,by omega,hB.b2,hB.b3⟩
  ·rw[decide_eq_false r5]
   refine W0 trivial ?_
   exact Wp.pure ⟨So,hlo,c3.up So,Po,Po,hp0,u,ul,ud,hp3,l,li,dl,⟨i,il,id,d1,d2,d3,a1,So,b1,So,e1,So,p1,.inr ⟨hul,prow⟩,p3⟩,hB⟩
 ·rintro⟨oe,oT,oH,on⟩ ⟨f1,f2,f3,t2,t3,f4,a,al,ad,f5,l',li',ld',f6,f7⟩
  simp only at f1 f2 f3 t2 t3 f4 f5 f6
  refine W1 (Yv t2 t3 f5 f4) ?_
  exact Wp.pure ⟨So,fun i h1 h2=>(Zf _ _ Om).trans (f2 i h1 h2),f3.mv So (fun i hi=>Zf _ _ Om),a,al,ad,rfl,l',li',ld',(f6.mv So (fun i h1 h2=>Zf _ _ Om)).lo Om,f7⟩
theorem DrawnC.mv {lo lo' n m:Nat}{H H':Hp}{u ul ud:Value}(h:DrawnC lo n H u ul ud)(hl:lo'<=lo)(hm:n<=m)(hs:∀ i,lo<=i->i < n->H' i=H i):DrawnC lo' m H' u ul ud:=by
 obtain⟨l,li,ld,h1,h2⟩:=h
 exact⟨l,li,ld,(h1.mv hm hs).lo hl,h2⟩
def NewOk (l:List Nd)(li:List Ins)(ld:List Df)(s:ByteArray):Prop:=Xd l li ld/\0<=Xb ld s/\(gi ld (Xb ld s)).args=0
instance (l:List Nd) (li:List Ins) (ld:List Df) (s:ByteArray):Decidable (NewOk l li ld s):=by unfold NewOk; infer_instance
def ndPair0:Nd:=⟨5,0,⟨#[]⟩,0,0⟩
def ndOne:Nd:=⟨1,0,⟨#[]⟩,0,0⟩
def newM (l:List Nd)(li:List Ins)(ld:List Df)(s:ByteArray):List Nd:=if NewOk l li ld s then[ndOne,ndPair0]else[]
def newA (l:List Nd)(li:List Ins)(ld:List Df)(s:ByteArray):Int:=if NewOk l li ld s then(gi ld (Xb ld s)).at_ else 0
def newE (l:List Nd)(li:List Ins)(ld:List Df)(s:ByteArray):Int:=if NewOk l li ld s then 1 else 0
theorem newM_len (l:List Nd)(li:List Ins)(ld:List Df)(s:ByteArray):(newM l li ld s).length<=2:=by
 unfold newM;split <;> simp
theorem k104 {n:Nat}{H:Hp}{v vl vd:Value}{l:List Nd}{li:List Ins}{ld:List Df}(hv:Li eNode n H v l)(hvl:Li eIns n H vl li)(hvd:Li eDef n H vd ld)(hs:∀ x∈l,x.s.size<=1048576)(hsl:∀ x∈li,x.s.size<=1048576)(hsd:∀ x∈ld,x.s.size<=1048576)(hl:l.length<=1048576)(hll:li.length<=1048576)(hld:ld.length<=1048576)(s:ByteArray) :
  RtN Tryz.prog 104 [.agg ⟨[v,vl,vd]⟩,.string s] H n (fun r H' n'=>∃ u,r=.tuple ⟨[.agg ⟨[u,.int .i64 (newA l li ld s),.int .i64 0,.int .i64 (newE l li ld s),.int .i64 0,.int .i64 0,.int .i64 0,.int .i64 0]⟩,.bool (decide (NewOk l li ld s))]⟩/\New eNode n n' H' u (newM l li ld s)):=by
 apply RtN.mk
 rw[c104];unfold S104
 have fin:∀ (H':Hp) (n':Nat),n+1<=n'->(∀ i,i < n->H' i=H i)->¬ NewOk l li ld s->Wp (some (Value.tuple ⟨[.agg ⟨[nilS,.int .i64 0,.int .i64 0,.int .i64 0,.int .i64 0,.int .i64 0,.int .i64 0,.int .i64 0]⟩,.bool false]⟩,H',n')) (fun q=>n<=q.2.2/\(∀ i,i < n->q.2.1 i=H i)/\∃ u,q.1=.tuple ⟨[.agg ⟨[u,.int .i64 (newA l li ld s),.int .i64 0,.int .i64 (newE l li ld s),.int .i64 0,.int .i64 0,.int .i64 0,.int .i64 0]⟩,.bool (decide (NewOk l li ld s))]⟩/\New eNode n q.2.2 q.2.1 u (newM l li ld s)):=by
  intro H' n' h1 h2 h3
  refine Wp.pure ⟨So,h2,nilS,?_,?_⟩
  ·simp only[newA,newE,if_neg h3,decide_eq_false h3]
  ·simp only[newM,if_neg h3];exact⟨n,by omega,by omega,At.nil⟩
 have hr:=defOf_rng ld s
 refine W1 trivial ?_
 refine Zv (k80 (hvd.mv Om Mo) hld s) ?_
 intro H1 n1 q1 s1
 refine W1 s1 ?_
 refine Zv (k44 (hv.mv Om (Mm s1)) (hvl.mv Om (Mm s1)) (hvd.mv Om (Mm s1)) hs hsl hsd hl hll hld) ?_
 intro H2 n2 q2 s2
 by_cases hc:Xd l li ld
 case neg=>
  refine W1 (Ye s2 s1 hc) ?_
  exact fin _ _ Om ((Mm (Zu s2 s1))) (fun h=>hc h.1)
 by_cases h0:Xb ld s < 0
 ·refine W1 (Yv s2 s1 hc h0) ?_
  exact fin _ _ Om ((Mm (Zu s2 s1))) (fun h=>absurd h.2.1 Om)
 have g:=(hvd.mv (H':=H2) (Nat.le_refl _) (Mm (Zu s2 s1))).dAll (i:=Xb ld s) Om hr.2
 by_cases ha:(gi ld (Xb ld s)).args=0
 case neg=>
  refine W1 (Xq s2 s1 hc h0 g ha) ?_
  exact fin _ _ Om ((Mm (Zu s2 s1))) (fun h=>ha h.2.2)
 have hN:NewOk l li ld s:=⟨hc,by omega,ha⟩
 refine W1 (Xq s2 s1 hc h0 g ha) ?_
 refine Uc eNode [ndOne,ndPair0] (by decide) rfl rfl ?_
 generalize hH3:H2.set (n2+2) (some (Obj.row (List.flatMap eNode.cells [ndOne,ndPair0]) eNode.sz true))=H3
 have s3:∀ i,i < n2+2->H3 i=H2 i:=by rw[← hH3];exact Mo
 have o3:At eNode (n2+2) H3 (sl (n2+2) 0 2) [ndOne,ndPair0]:=.inr ⟨rfl,by rw[← hH3];exact Ze _ _ _⟩
 have g3:=(hvd.mv (H':=H3) (Nat.le_refl _) (Mm (Ye s3 s2 s1))).dAll (i:=Xb ld s) Om hr.2
 have g4:=(hvd.mv (H':=H3.set (n2+4) (some (.row [sl (n2+2) 0 2] 0 true))) (Nat.le_refl _) (Mm (Ye s3 s2 s1))).dAll (i:=Xb ld s) Om hr.2
 have hsl2:notTup (sl (n2+2) 0 2)=true:=rfl
 refine W1 (Wt s3 s2 s1 g3 g4 @List.length_cons.{0} @List.length_nil.{0}) ?_
 refine Wp.pure ⟨So,(Mm (Ye s3 s2 s1)),sl (n2+2) 0 2,?_,?_⟩
 ·simp only[newA,newE,if_pos hN,decide_eq_true hN]
 ·simp only[newM,if_pos hN];exact⟨n2+2,by omega,by omega,o3.mv Mo⟩
def OfOk (l:List Nd)(li:List Ins)(ld:List Df)(p:List Nd)(x:Int):Prop :=
 Xd l li ld/\PoolOk p/\(0<=x/\x < (p.length:Int))/\(gi p x).k=6/\(gi p x).n % 8=0/\(gi p x).n / 8 < (li.length:Int)/\p.length+2<=3000
instance (l:List Nd) (li:List Ins) (ld:List Df) (p:List Nd) (x:Int):Decidable (OfOk l li ld p x):=by unfold OfOk; infer_instance
def ofP (l:List Nd)(li:List Ins)(ld:List Df)(p:List Nd)(x:Int):List Nd:=if OfOk l li ld p x then p++[⟨1,0,⟨#[]⟩,0,0⟩]++[⟨5,0,⟨#[]⟩,(p.length:Int),(gi p x).a⟩]else[]
def ofA (l:List Nd)(li:List Ins)(ld:List Df)(p:List Nd)(x:Int):Int:=if OfOk l li ld p x then(gi p x).n / 8 else 0
def ofS (l:List Nd)(li:List Ins)(ld:List Df)(p:List Nd)(x:Int):Int:=if OfOk l li ld p x then(p.length:Int)else 0
def ofE (l:List Nd)(li:List Ins)(ld:List Df)(p:List Nd)(x:Int):Int:=if OfOk l li ld p x then(p.length:Int)+1 else 0
theorem ofP_len (l:List Nd)(li:List Ins)(ld:List Df)(p:List Nd)(x:Int):(ofP l li ld p x).length<=3000:=by
 unfold ofP
 split
 ·rename_i h
  have:=h.2.2.2.2.2.2
  simp;omega
 ·simp
theorem NodeOk.six {x:Nd}{m:Int}(h:NodeOk x m)(hk:x.k=6):0<=x.n/\x.n<=1000000000:=by
 rcases h with h|h|h|h|h|h|h|h|h <;> obtain⟨h1,h2⟩:=h <;> omega
theorem k105 {n:Nat}{H:Hp}{v vl vd vp:Value}{l p:List Nd}{li:List Ins}{ld:List Df}(hv:Li eNode n H v l)(hvl:Li eIns n H vl li)(hvd:Li eDef n H vd ld)(hs:∀ x∈l,x.s.size<=1048576)(hsl:∀ x∈li,x.s.size<=1048576)(hsd:∀ x∈ld,x.s.size<=1048576)(hl:l.length<=1048576)(hll:li.length<=1048576)(hld:ld.length<=1048576)(hp:Li eNode n H vp p)(hsp:∀ x∈p,x.s.size<=1048576)(hlp:p.length<=1048576)(x:Int) :
  RtN Tryz.prog 105 [.agg ⟨[v,vl,vd]⟩,.agg ⟨[vp]⟩,.int .i64 x] H n (fun r H' n'=>∃ u,r=.tuple ⟨[.agg ⟨[u,.int .i64 (ofA l li ld p x),.int .i64 (ofS l li ld p x),.int .i64 (ofE l li ld p x),.int .i64 (ofS l li ld p x),.int .i64 0,.int .i64 0,.int .i64 0]⟩,.bool (decide (OfOk l li ld p x))]⟩/\New eNode n n' H' u (ofP l li ld p x)):=by
 apply RtN.mk
 rw[c105];unfold S105
 have fin:∀ (H':Hp) (n':Nat),n+1<=n'->(∀ i,i < n->H' i=H i)->¬ OfOk l li ld p x->Wp (some (Value.tuple ⟨[.agg ⟨[nilS,.int .i64 0,.int .i64 0,.int .i64 0,.int .i64 0,.int .i64 0,.int .i64 0,.int .i64 0]⟩,.bool false]⟩,H',n')) (fun q=>n<=q.2.2/\(∀ i,i < n->q.2.1 i=H i)/\∃ u,q.1=.tuple ⟨[.agg ⟨[u,.int .i64 (ofA l li ld p x),.int .i64 (ofS l li ld p x),.int .i64 (ofE l li ld p x),.int .i64 (ofS l li ld p x),.int .i64 0,.int .i64 0,.int .i64 0]⟩,.bool (decide (OfOk l li ld p x))]⟩/\New eNode n q.2.2 q.2.1 u (ofP l li ld p x)):=by
  intro H' n' h1 h2 h3
  refine Wp.pure ⟨So,h2,nilS,?_,?_⟩
  ·simp only[ofA,ofS,ofE,if_neg h3,decide_eq_false h3]
  ·simp only[ofP,if_neg h3];exact⟨n,by omega,by omega,At.nil⟩
 refine W1 trivial ?_
 refine Zv (k44 (hv.mv Om Mo) (hvl.mv Om Mo) (hvd.mv Om Mo) hs hsl hsd hl hll hld) ?_
 intro H1 n1 q1 s1
 by_cases hc:Xd l li ld
 case neg=>
  refine W1 (Zu s1 hc) ?_
  exact fin _ _ Om (Mm s1) (fun h=>hc h.1)
 refine W1 (Zu s1 hc) ?_
 refine Zv (k45 (hp.mv Om (Mm s1)) hsp hlp) ?_
 intro H2 n2 q2 s2
 by_cases hpp:PoolOk p
 case neg=>
  refine W1 (Ye s2 s1 hpp) ?_
  exact fin _ _ Om (Mm (Zu s2 s1)) (fun h=>hpp h.2.1)
 refine W1 (Ye s2 s1 hpp) ?_
 refine Zv (k46 (hp.mv Om (Mm (Zu s2 s1))) hlp x) ?_
 intro H3 n3 q3 s3
 by_cases hx:0<=x/\x < (p.length:Int)
 case neg=>
  refine W1 (Yv s3 s2 s1 hx) ?_
  exact fin _ _ Om (Mm (Ye s3 s2 s1)) (fun h=>hx h.2.2.1)
 have hw2:IntKind.i64.wrap ((p.length:Int)+2)=(p.length:Int)+2:=Wo Om
 by_cases h3:p.length+2<=3000
 case neg=>
  refine W1 (Yj s3 s2 s1 hx @and_self hp.len hw2 (show(3000:Int) < (p.length:Int)+2 by omega)) ?_
  exact fin _ _ Om (Mm (Ye s3 s2 s1)) (fun h=>h3 h.2.2.2.2.2.2)
 have g3:=(hp.mv (H':=H3) (Nat.le_refl _) (Mm (Ye s3 s2 s1))).nAll hx.1 hx.2
 have hok:=hpp.at hx.1 hx.2
 have hofx:∀ y,gi p x=y->gi p x=y:=fun _ h=>h
 generalize hy:gi p x=y at g3 hok
 obtain⟨yk,yn,ys,ya,yb⟩:=y
 simp only[Nd.cells]at g3
 by_cases h6:yk=6
 case neg=>
  refine W1 (Yj s3 s2 s1 hx @and_self hp.len hw2 (Ye (show¬ (3000:Int) < (p.length:Int)+2 by omega) g3 h6)) ?_
  exact fin _ _ Om (Mm (Ye s3 s2 s1)) (fun h=>h6 (by have:=h.2.2.2.1;rw[hy]at this;exact this))
 subst h6
 have hn:=hok.six rfl
 simp only at hn
 have hrem:yn.tmod 8=yn % 8:=Int.tmod_eq_emod_of_nonneg hn.1
 have hquo:IntKind.i64.wrap (yn.tdiv 8)=yn / 8:=by rw[Int.tdiv_eq_ediv_of_nonneg hn.1,Wo Om]
 by_cases h8:yn % 8=0
 case neg=>
  refine W1 (Yj s3 s2 s1 hx @and_self hp.len hw2 (Yv (show¬ (3000:Int) < (p.length:Int)+2 by omega) g3 hrem h8)) ?_
  exact fin _ _ Om (Mm (Ye s3 s2 s1)) (fun h=>h8 (by have:=h.2.2.2.2.1;rw[hy]at this;exact this))
 by_cases h9:yn / 8 < (li.length:Int)
 case neg=>
  refine W1 (Yj s3 s2 s1 hx @and_self hp.len hw2 (Wt (show¬ (3000:Int) < (p.length:Int)+2 by omega) g3 hrem h8 hquo hvl.len (show(li.length:Int)<=yn / 8 by omega))) ?_
  exact fin _ _ Om (Mm (Ye s3 s2 s1)) (fun h=>h9 (by have:=h.2.2.2.2.2.1;rw[hy]at this;exact this))
 have hN:OfOk l li ld p x:=⟨hc,hpp,hx,by rw[hy],by rw[hy];exact h8,by rw[hy];exact h9,h3⟩
 refine W1 (Yj s3 s2 s1 hx @and_self hp.len hw2 (Wt (show¬ (3000:Int) < (p.length:Int)+2 by omega) g3 hrem h8 hquo hvl.len (show¬ (li.length:Int)<=yn / 8 by omega))) ?_
 refine Ya (k51 (hp.mv Om (Mm (Ye s3 s2 s1))) Om) ?_
 rintro _ H5 n5 q5 s5 ⟨u,rfl,id,i1,i2,i3⟩
 refine W1 (Yv s5 s3 s2 s1) ?_
 refine Zj (k88 (c:=n3+25+2) (o:=0) (id:=id) (e:=0) (cs:=[u]) (v:=u) (l:=p) ⟨Mo,rfl,i3.mv Mo,by omega,by omega,by omega⟩ Om ⟨1,0,⟨#[]⟩,0,0⟩) ?_
 rintro _ H6 n6 q6 s6 ⟨rfl,v6,id6,i6,hPC⟩
 have d6:H6 (n3+5)=some (.row [.int .i64 6,.int .i64 yn,.string ys,.int .i64 ya,.int .i64 yb] 0 true):=by simp(disch:=omega) only[s6,s5,Zf,Ze]
 refine W1 d6 ?_
 refine Zj (k88 (hPC.mv Om rfl rfl) (by simp;omega) ⟨5,0,⟨#[]⟩,p.length,ya⟩) ?_
 rintro _ H8 n8 q8 s8 ⟨rfl,v8,id8,i8,hPC8⟩
 have c8:H8 (n3+25+2)=some (.row [v8] 0 true):=hPC8.hc
 have d8:H8 (n3+5)=some (.row [.int .i64 6,.int .i64 yn,.string ys,.int .i64 ya,.int .i64 yb] 0 true):=by simp(disch:=omega) only[s8,d6]
 have m8:H8 (n+2)=some (.row [nilS,.int .i64 0,.int .i64 0,.int .i64 0,.int .i64 0,.int .i64 0,.int .i64 0,.int .i64 0] 0 true):=by simp(disch:=omega) only[s8,s6,s5,s3,s2,s1,Zf,Ze]
 have s8n:∀ i,i < n->H8 i=H i:=(Mm (Xq s8 s6 s5 s3 s2 s1))
 have hl1:((p++[(⟨1,0,⟨#[]⟩,0,0⟩:Nd)]).length:Int)=(p.length:Int)+1:=by simp
 refine W1 (Xm c8 d8 m8 hl1 hquo) ?_
 refine Wp.pure ⟨So,(Mm s8n),v8,?_,?_⟩
 ·simp only[ofA,ofS,ofE,if_pos hN,decide_eq_true hN,hy]
 ·simp only[ofP,if_pos hN,hy];exact⟨id8,by omega,by have:=hPC8.idn;omega,hPC8.at_.mv Mo⟩
theorem MachOk.new {l:List Nd}{li:List Ins}{ld:List Df}{s:ByteArray}(h:NewOk l li ld s):MachOk l li ld (newM l li ld s) (newA l li ld s) 0 (newE l li ld s) 0 0 0 0:=by
 unfold newM newA newE
 rw[if_pos h,if_pos h,if_pos h]
 obtain⟨h1,h2,h3⟩:=h
 have hr:=defOf_rng ld s
 obtain⟨-,-,-,-,h5⟩:=id h1
 have hd:=h5 (Xb ld s).toNat Om
 rw[DfOk,show(((Xb ld s).toNat:Nat):Int)=Xb ld s by omega]at hd
 obtain⟨-,-,d3,-⟩:=hd
 exact⟨h1,by decide +kernel,by decide,by decide,by decide,.inl ⟨rfl,d3,rfl,rfl⟩⟩
theorem MachOk.of {l:List Nd}{li:List Ins}{ld:List Df}{p:List Nd}{x:Int}(h:OfOk l li ld p x):MachOk l li ld (ofP l li ld p x) (ofA l li ld p x) (ofS l li ld p x) (ofE l li ld p x) (ofS l li ld p x) 0 0 0:=by
 unfold ofP ofA ofS ofE
 rw[if_pos h,if_pos h,if_pos h,if_pos h]
 obtain⟨h1,h2,h3,h4,h5,h6,h7⟩:=h
 have hx:=h2.at h3.1 h3.2
 have hn:=hx.six h4
 have ha:=hx.one (.inl h4)
 have hlen:((p++[(⟨1,0,⟨#[]⟩,0,0⟩:Nd)]++[(⟨5,0,⟨#[]⟩,(p.length:Int),(gi p x).a⟩:Nd)]).length:Int)=p.length+2:=by simp
 refine⟨h1,⟨?_,by omega⟩,by omega,by omega,by omega,.inl ⟨rfl,by omega,rfl,rfl⟩⟩
 rw[Wl,Wl]
 refine⟨⟨h2.1,?_,trivial⟩,?_,trivial⟩
 ·exact .inl ⟨rfl,rfl,rfl,rfl,rfl⟩
 ·refine .inr (.inr (.inr (.inr (.inl ⟨rfl,rfl,rfl,?_,?_⟩))))
  ·simp
  ·simp;omega
def DrawnM (lo n:Nat)(H:Hp)(r:Value):Prop:=∃ u m,r=mcV u m/\New eNode lo n H u m.p/\(∀ x∈m.p,x.s.size<=1048576)/\m.p.length<=1048576
theorem answerM_len' (l:List Nd)(li:List Ins)(ld:List Df)(m:Mc)(q:List Nd)(x:Int)(h:m.p.length<=1048576):(Yx l li ld m q x).p.length<=1048576:=answerM_len l li ld m q x h
theorem New3.li {lo n:Nat}{H:Hp}{u ul ud:Value}{l:List Nd}{li:List Ins}{ld:List Df}(h:New3 lo n H u ul ud l li ld):Li eNode n H u l/\Li eIns n H ul li/\Li eDef n H ud ld:=by
 obtain⟨i,j,k,h1,h2,h3,a1,a2,b1,b2,c1,c2,o1,o2,o3⟩:=h
 exact⟨o1.lst a2,o2.lst b2,o3.lst c2⟩
def MSt (lo e n:Nat)(H:Hp):Prop:=∃ (r:Value)(m:Mc)(id:Nat),H e=some (.row [r,.int .i64 m.a,.int .i64 m.s,.int .i64 m.e,.int .i64 m.d,.int .i64 m.t,.int .i64 m.k,.int .i64 m.r] 0 true)/\lo<=id/\id < n/\(id < e∨e+1 < id)/\At eNode id H r m.p/\(∀ x∈m.p,x.s.size<=1048576)/\m.p.length<=1048576
theorem MSt.up {lo e n n':Nat}{H:Hp}(h:MSt lo e n H)(hn:n<=n'):MSt lo e n' H:=by
 obtain⟨r,m,id,h1,h2,h3,h4⟩:=h
 exact⟨r,m,id,h1,h2,by omega,h4⟩
theorem l106 {c b lo n0:Nat}{H0:Hp}{u ul ud:Value}{l:List Nd}{li:List Ins}{ld:List Df}(hcl:c < lo)(hlo:lo<=b)(hbn:b+3<=n0)(hN:New3 lo b H0 u ul ud l li ld)(hB:BndC l li ld)(hb0:H0 b=some (.row [u,ul,ud] 0 true)) (k:Int)(hk:k<=1000):∀ t H n,n0<=n->Cu c n H->(∀ i,i < n0->i≠c->i≠b+1->H i=H0 i)->MSt lo (b+1) n H->t 0=ptr c 0->t 3=.int .i64 k->t 5=ptr b 0->t 6=ptr (b+1) 0->t 8=ptr (b+2) 0->t 9=.int .i64 0 ->
  Wp (Zm (S106L0 (Call Tryz.prog) Zm) t H n) (fun out=>n<=out.n/\Cu c out.n out.H/\(∀ i,i < n0->i≠c->i≠b+1->out.H i=H0 i)/\out.t 6=ptr (b+1) 0/\out.t 8=ptr (b+2) 0/\MSt lo (b+1) out.n out.H):=by
 intro t H n hn0 hc0 hsm0 hm0 e0 e3 e5 e6 e8 e9
 refine Zt (fun d T H' n'=>∃ i:Nat,d=(k - i).toNat/\n<=n'/\Cu c n' H'/\(∀ i,i < n0->i≠c->i≠b+1->H' i=H0 i)/\MSt lo (b+1) n' H'/\T 0=ptr c 0/\T 3=.int .i64 k/\T 5=ptr b 0/\T 6=ptr (b+1) 0/\T 8=ptr (b+2) 0/\T 9=.int .i64 (i:Int)) _ ?_ (k - (0:Nat)).toNat t H n ⟨0,rfl,by omega,hc0,hsm0,hm0,e0,e3,e5,e6,e8,e9⟩
 rintro d T H' n' ⟨i,hd,hn,hc,hsm,hR,e0,e3,e5,e6,e8,e9⟩
 unfold S106L0
 have hcn:=hc.1
 by_cases hlt:(i:Int) < k
 case neg=>
  refine W0 (Ye e3 e9 hlt) ?_
  exact Wp.pure (Nxt.exit ⟨So,hc.up So,hsm,Pp e6,Pp e8,hR.up So⟩)
 have w1:IntKind.i64.wrap ((i:Int)+1)=((i+1:Nat):Int):=wn Om
 have hbb:H' b=some (.row [u,ul,ud] 0 true):=by rw[hsm _ Om Om Om];exact hb0
 have hLi:∀ (Hx:Hp) (nx:Nat),n'<=nx->(∀ i,lo<=i->i < b->Hx i=H' i)->Li eNode nx Hx u l/\Li eIns nx Hx ul li/\Li eDef nx Hx ud ld:=fun Hx nx h1 h2=>by
  have:=(hN.mv (m:=b) (H':=Hx) (Nat.le_refl _) (fun i a1 a2=>by rw[h2 i a1 a2];exact hsm i Om Om Om)).li
  exact⟨this.1.up Om,this.2.1.up Om,this.2.2.up Om⟩
 obtain⟨r,m,id,hb1,i1,i2,i4,i3,hz,hlm⟩:=hR
 have b1:=hB.b1
 have b2:=hB.b2
 have b3:=hB.b3
 by_cases ht:m.t=1
 ·obtain⟨mp,ma,ms,me,md,mt,mk,mr⟩:=m
  simp only at hb1 i3 hz hlm ht
  subst ht
  refine W1 (Yj e3 e9 hlt e0 e5 e6 hbb hb1) ?_
  refine Zy (k133 (hc.up Om)) ?_
  rintro _ H1 n1 q1 s1 c1 ⟨x,rfl,hx⟩
  have hb1':H1 (b+1)=_:=(s1 _ Om Om).trans hb1
  have hbb':H1 b=_:=(s1 _ Om Om).trans hbb
  refine W1 (Xq e0 e5 e6 hb1' hbb' @bsl_nc) ?_
  generalize hM:H1.set (n'+10) (some (.row x.cells 5 true))=M
  have sM:∀ i,i < n'->i≠c->M i=H' i:=fun i h1 h2=>by rw[← hM,Zf _ _ Om,s1 _ Om h2]
  have hq:At eNode (n'+10) M (sl (n'+10) 0 1) [x]:=.inr ⟨rfl,by rw[← hM];simp only[List.flatMap_cons,List.flatMap_nil,List.append_nil];exact Ze _ _ _⟩
  obtain⟨v1,v2,v3⟩:=hLi M n1 Om (fun i h1 h2=>sM i Om Om)
  refine Ya (k132 v1 v2 v3 hB.a1 hB.a2 hB.a3 Om Om Om ((i3.mv (sM _ Om Om)).lst Om) hz hlm ma ms me md 1 mk mr (hq.lst Om) (fun y hy=>by rw[List.mem_singleton]at hy;rw[hy];exact Nat.le_trans hx (by decide)) (by simp) 0) ?_
  rintro _ H2 n2 q2 s2 ⟨u2,rfl,j,j1,j2,j3⟩
  have hz2:=answer_sz (l:=l) (li:=li) (ld:=ld) (m:=⟨mp,ma,ms,me,md,1,mk,mr⟩) (q:=[x]) (v:=0) hz
  have hl2:=answerM_len' l li ld ⟨mp,ma,ms,me,md,1,mk,mr⟩ [x] 0 hlm
  generalize Yx l li ld ⟨mp,ma,ms,me,md,1,mk,mr⟩ [x] 0=m2 at j3 hz2 hl2 ⊢
  have s2':∀ i,i < n'->i≠c->H2 i=H' i:=fun i h1 h2=>by rw[s2 _ Om];exact sM i h1 h2
  have hb2:H2 (b+1)=_:=(s2' _ Om Om).trans hb1
  refine W1 (Yv e6 hb2 e9 w1) ?_
  refine Wp.pure (Nxt.go (k - ((i+1:Nat):Int)).toNat Om ⟨i+1,rfl,by omega,c1.low (fun i hi=>?_) Om,fun i h1 h2 h3=>?_,⟨u2,m2,j,Ze _ _ _,by omega,by omega,by omega,j3.mv (Zf _ _ Om),hz2,hl2⟩,Pp e0,Pp e3,Pp e5,Pp e6,Pp e8,Po⟩)
  ·rw[Zf _ _ Om,s2 _ Om,← hM,Zf _ _ Om]
  ·rw[Zf _ _ h3,s2' _ Om h2];exact hsm i h1 h2 h3
 ·refine W1 (Yj e3 e9 hlt e0 e5 e6 hbb (Zu hb1 ht)) ?_
  obtain⟨v1,v2,v3⟩:=hLi H' (n'+10) Om (fun i h1 h2=>rfl)
  refine Ya (k7 v1 v2 v3 hB.a1 hB.a2 hB.a3 Om Om Om (i3.lst Om) hz hlm m.a m.s m.e m.d m.t m.k m.r) ?_
  rintro _ H2 n2 q2 s2 ⟨u2,rfl,j,j1,j2,j3⟩
  have hz2:=step_sz (l:=l) (li:=li) (ld:=ld) hz
  have hl2:=stepM_len l li ld m hlm
  have em:(⟨m.p,m.a,m.s,m.e,m.d,m.t,m.k,m.r⟩:Mc)=m:=rfl
  rw[em]at j3 ⊢
  generalize Wv l li ld m=m2 at j3 hz2 hl2 ⊢
  have hb2:H2 (b+1)=_:=(s2 _ Om).trans hb1
  refine W1 (Yv e6 hb2 e9 w1) ?_
  refine Wp.pure (Nxt.go (k - ((i+1:Nat):Int)).toNat Om ⟨i+1,rfl,by omega,hc.low (fun i hi=>?_) Om,fun i h1 h2 h3=>?_,⟨u2,m2,j,Ze _ _ _,by omega,by omega,by omega,j3.mv (Zf _ _ Om),hz2,hl2⟩,Pp e0,Pp e3,Pp e5,Pp e6,Pp e8,Po⟩)
  ·rw[Zf _ _ Om,s2 _ Om]
  ·rw[Zf _ _ h3,s2 _ Om];exact hsm i h1 h2 h3
theorem k106 {c lo n:Nat}{H:Hp}{u ul ud v:Value}{l:List Nd}{li:List Ins}{ld:List Df}{m:Mc}(hc:Cu c n H)(hcl:c < lo)(hlo:lo<=n)(hN:New3 lo n H u ul ud l li ld)(hB:BndC l li ld)(hm:New eNode lo n H v m.p)(hz:∀ x∈m.p,x.s.size<=1048576)(hlm:m.p.length<=1048576)(k:Int)(hk:k<=1000) :
  RtD Tryz.prog 106 [ptr c 0,.agg ⟨[u,ul,ud]⟩,mcV v m,.int .i64 k] c H n (fun r H' n'=>DrawnM lo n' H' r):=by
 apply RtD.mk
 rw[c106];unfold S106 mcV
 have hcn:=hc.1
 obtain⟨id,i1,i2,i3⟩:=hm
 refine W1 trivial ?_
 generalize hM:((H.set n (some (.row [u,ul,ud] 0 true))).set (n+1) (some (.row [v,.int .i64 m.a,.int .i64 m.s,.int .i64 m.e,.int .i64 m.d,.int .i64 m.t,.int .i64 m.k,.int .i64 m.r] 0 true))).set (n+2) (some (.row [nilS,.int .i64 0,.int .i64 0,.int .i64 0,.int .i64 0,.int .i64 0,.int .i64 0,.int .i64 0] 0 true))=M
 have sM:∀ i,i < n->M i=H i:=fun i h1=>by rw[← hM];simp(disch:=omega) only[Zf]
 refine Wp.bind (l106 (b:=n) (n0:=n+3) (H0:=M) hcl hlo Om (hN.mv (Nat.le_refl _) (fun i h1 h2=>sM i h2)) hB (by rw[← hM];simp(disch:=omega) only[Zf,Ze]) k hk _ _ _ Om (hc.low (fun i hi=>sM i Om) Om) (fun _ _ _ _=>rfl) ⟨v,m,id,by rw[← hM];simp(disch:=omega) only[Zf,Ze],i1,by omega,by omega,i3.mv (sM _ i2),hz,hlm⟩ Pa Pa Po Po Po Po) ?_
 rintro⟨oe,ot,oH,on⟩ ⟨f1,f2,f3,f4,f5,r,m2,j,j1,j2,j3,j4,j5,j6,j7⟩
 simp only at f1 f2 f3 f4 f5 j1 j3 j5
 have hb2:oH (n+2)=some (.row [nilS,.int .i64 0,.int .i64 0,.int .i64 0,.int .i64 0,.int .i64 0,.int .i64 0,.int .i64 0] 0 true):=by rw[f3 _ Om Om Om,← hM];exact Ze _ _ _
 have hj:j≠n+2:=by omega
 refine W1 (Yv f4 f5 j1 hb2) ?_
 exact Wp.pure ⟨So,fun i h1 h2=>by simp only;rw[Zf _ _ Om,f3 _ Om h2 Om,sM _ h1],f2.low (fun i hi=>by simp only;rw[Zf _ _ Om]) So,r,m2,rfl,⟨j,j2,So,j5.mv (Zf _ _ hj)⟩,j6,j7⟩
theorem Wp.cut4 {α β γ δ ε:Type}{A:Option α}{f:α->Option β}{g:α->β->Option γ}{h:α->β->γ->Option δ}{F:δ->Option ε}{R:δ->Prop}{Q:ε->Prop}(k1:Wp (A.bind fun a=>(f a).bind fun b=>(g a b).bind fun c=>h a b c) R) (k2:∀ o,R o->Wp (F o) Q):Wp (A.bind fun a=>(f a).bind fun b=>(g a b).bind fun c=>(h a b c).bind F) Q:=by
 obtain⟨o,h1,h2⟩:=k1
 obtain⟨q,h3,h4⟩:=k2 o h2
 refine⟨q,?_,h4⟩
 cases A with
 | none=>cases h1
 | some a=>
  simp only[Option.bind_some]at h1 ⊢
  cases hb:f a with
  | none=>rw[hb]at h1;cases h1
  | some b=>
   rw[hb]at h1
   simp only[Option.bind_some]at h1 ⊢
   cases hc:g a b with
   | none=>rw[hc]at h1;cases h1
   | some c=>
    rw[hc]at h1
    simp only[Option.bind_some]at h1 ⊢
    rw[h1]
    exact h3
theorem new_sz (l:List Nd)(li:List Ins)(ld:List Df)(s:ByteArray):∀ x∈newM l li ld s,x.s.size<=1048576:=by
 intro x hx
 unfold newM at hx
 split at hx
 ·simp only[List.mem_cons,List.not_mem_nil,or_false]at hx
  rcases hx with rfl|rfl <;> exact Nat.zero_le _
 ·cases hx
theorem of_sz (l:List Nd)(li:List Ins)(ld:List Df)(p:List Nd)(y:Int)(hs:∀ x∈p,x.s.size<=1048576):∀ x∈ofP l li ld p y,x.s.size<=1048576:=by
 intro x hx
 unfold ofP at hx
 split at hx
 ·simp only[List.mem_append,List.mem_cons,List.not_mem_nil,or_false]at hx
  rcases hx with(hx|rfl)|rfl
  ·exact hs x hx
  ·exact Nat.zero_le _
  ·exact Nat.zero_le _
 ·cases hx
theorem k68 {c n:Nat}{H:Hp}(hc:Cu c n H):RtD Tryz.prog 68 [ptr c 0] c H n (fun r H' n'=>∃ u ul ud w,r=.tuple ⟨[.agg ⟨[u,ul,ud]⟩,w]⟩/\DrawnC n n' H' u ul ud/\DrawnM n n' H' w):=by
 apply RtD.mk
 rw[c68];unfold S68
 have hcn:=hc.1
 refine W1 trivial ?_
 refine Zy (k103 (hc.low (m:=n+6) (fun i hi=>by simp(disch:=omega) only[Zf]) Om)) ?_
 rintro _ H1 n1 q1 s1 c1 ⟨u,ul,ud,rfl,hR⟩
 obtain⟨l,li,ld,hN,hB,hpos,hk⟩:=hR.bnd
 have hb2:=hB.b2
 have hb3:=hB.b3
 have hb1:=hB.b1
 refine W1 trivial ?_
 generalize hM:H1.set (n+4) (some (.row [u,ul,ud] 0 true))=M
 have sM:∀ i,i < n->i≠c->M i=H i:=fun i h1 h2=>by rw[← hM,Zf _ _ Om,s1 _ Om h2];simp(disch:=omega) only[Zf]
 have rM0:M n=some (.row [nilS,nilS,nilS] 0 true):=by rw[← hM,Zf _ _ Om,s1 _ Om Om];simp(disch:=omega) only[Zf,Ze]
 have rM1:M (n+1)=some (.row [nilS,.int .i64 0,.int .i64 0,.int .i64 0,.int .i64 0,.int .i64 0,.int .i64 0,.int .i64 0] 0 true):=by rw[← hM,Zf _ _ Om,s1 _ Om Om];simp(disch:=omega) only[Zf,Ze]
 have rM4:M (n+4)=some (.row [u,ul,ud] 0 true):=by rw[← hM];exact Ze _ _ _
 have cM:Cu c n1 M:=c1.low (fun i hi=>by rw[← hM];exact Zf _ _ Om) c1.1
 have hNM:New3 (n+6) n1 M u ul ud l li ld:=hN.mv (Nat.le_refl _) (fun i h1 h2=>by rw[← hM];exact Zf _ _ Om)
 clear hM
 obtain⟨vn,vl,vd⟩:=hNM.li
 refine Zv (k80 (vd.up Om) Om _) ?_
 intro H2 n2 q2 s2
 have s2n:∀ i,i < n1->H2 i=M i:=fun i hi=>s2 i Om
 have vd2:=(vd.mv (H':=H2) (m:=n2) Om s2n)
 refine Wp.cut4 (R:=fun(o:Out)=>o.H=H2/\n2<=o.n/\o.t 0=ptr c 0/\o.t 2=ptr n 0/\o.t 3=ptr (n+1) 0/\o.t 4=ptr (n+4) 0/\∃ s,o.t 5=.string s) ?_ ?_
 ·have rM4':H2 (n+4)=_:=(s2n _ Om).trans rM4
  by_cases hd:Xb ld ⟨#[109,97,105,110]⟩ < 0
  ·by_cases h0:0 < ld.length
   ·have h0i:(0:Int) < (ld.length:Int):=by omega
    have g:=vd2.dAll (i:=0) (by decide) h0i
    refine W1 (Xm hd rM4' vd2.len h0i g) ?_
    exact Wp.pure ⟨rfl,So,Pa,Po,Po,Po,(gi ld 0).s,Po⟩
   ·have h0i:¬ (0:Int) < (ld.length:Int):=by omega
    refine W1 (Yv hd rM4' vd2.len h0i) ?_
    exact Wp.pure ⟨rfl,So,Pa,Po,Po,Po,⟨#[109,97,105,110]⟩,Po⟩
  ·refine W1 hd ?_
   exact Wp.pure ⟨rfl,So,Pa,Po,Po,Po,⟨#[109,97,105,110]⟩,Po⟩
 rintro⟨oe,ot,oH,on⟩ ⟨f1,f2,g0,g2,g3,g4,s,g5⟩
 simp only at f1 f2 g0 g2 g3 g4 g5
 subst f1
 have rM4':oH (n+4)=_:=(s2n _ Om).trans rM4
 refine W1 (Ye g4 g5 rM4') ?_
 refine Ya (k104 (vn.mv Om s2n) (vl.mv Om s2n) (vd.mv Om s2n) hB.a1 hB.a2 hB.a3 Om Om Om s) ?_
 rintro _ H3 n3 q3 s3 ⟨mu,rfl,im,im1,im2,om⟩
 have s3n:∀ i,i < n1->H3 i=M i:=fun i hi=>by rw[s3 _ Om];exact s2n i hi
 refine W1 trivial ?_
 refine Wp.bind (R:=fun(o:Out)=>n3<=o.n/\(∀ i,i < n1->o.H i=M i)/\o.t 0=ptr c 0/\o.t 2=ptr n 0/\o.t 3=ptr (n+1) 0/\o.t 4=ptr (n+4) 0/\o.t 6=ptr (on+6) 0/\MSt n1 (on+6) o.n o.H) ?_ ?_
 ·by_cases hN:NewOk l li ld s
  ·rw[decide_eq_true hN,Bool.not_true]
   refine W0 trivial ?_
   refine Wp.pure ⟨So,fun i hi=>by simp only;rw[Zf _ _ Om];exact s3n i hi,Pp g0,Pp g2,Pp g3,Pp g4,Po,mu,⟨newM l li ld s,newA l li ld s,0,newE l li ld s,0,0,0,0⟩,im,Ze _ _ _,by omega,So,by omega,om.mv (Zf _ _ Om),new_sz l li ld s,by have:=newM_len l li ld s;simp only;omega⟩
  ·rw[decide_eq_false hN,Bool.not_false]
   have rM4'':H3 (n+4)=_:=(s3n _ Om).trans rM4
   refine W1 (Zu g4 rM4'') ?_
   refine Uc eNode [⟨1,0,⟨#[]⟩,0,0⟩,⟨6,0,⟨#[]⟩,0,0⟩] (by decide) rfl rfl ?_
   refine W1 trivial ?_
   generalize hM5:Hp.set _ (n3+5) _=M5
   have s5:∀ i,i < n1->M5 i=M i:=fun i hi=>by rw[← hM5,Zf _ _ Om,Zf _ _ Om];exact s3n i hi
   have r5:M5 (on+6)=some (.row [mu,.int .i64 (newA l li ld s),.int .i64 0,.int .i64 (newE l li ld s),.int .i64 0,.int .i64 0,.int .i64 0,.int .i64 0] 0 true):=by rw[← hM5,Zf _ _ Om];exact Ze _ _ _
   have p5:At eNode (n3+5) M5 (sl (n3+5) 0 2) [⟨1,0,⟨#[]⟩,0,0⟩,⟨6,0,⟨#[]⟩,0,0⟩]:=.inr ⟨rfl,by rw[← hM5];exact Ze _ _ _⟩
   clear hM5
   have z5:∀ x∈([⟨1,0,⟨#[]⟩,0,0⟩,⟨6,0,⟨#[]⟩,0,0⟩]:List Nd),x.s.size<=1048576:=by
    intro x hx
    simp only[List.mem_cons,List.not_mem_nil,or_false]at hx
    rcases hx with rfl|rfl <;> exact Nat.zero_le _
   refine Ya (k105 (vn.mv Om s5) (vl.mv Om s5) (vd.mv Om s5) hB.a1 hB.a2 hB.a3 Om Om Om (p5.lst Om) z5 (by simp) 1) ?_
   rintro _ H6 n6 q6 s6 ⟨xu,rfl,ix,ix1,ix2,ox⟩
   have s6n:∀ i,i < n1->H6 i=M i:=fun i hi=>by rw[s6 _ Om];exact s5 i hi
   have r6:H6 (on+6)=_:=(s6 _ Om).trans r5
   refine W1 r6 ?_
   refine Wp.pure ⟨So,fun i hi=>by simp only;rw[Zf _ _ Om];exact s6n i hi,Pp g0,Pp g2,Pp g3,Pp g4,Po,xu,⟨ofP l li ld _ 1,ofA l li ld _ 1,ofS l li ld _ 1,ofE l li ld _ 1,ofS l li ld _ 1,0,0,0⟩,ix,Ze _ _ _,by omega,So,by omega,ox.mv (Zf _ _ Om),of_sz l li ld _ 1 z5,by have:=ofP_len l li ld [⟨1,0,⟨#[]⟩,0,0⟩,⟨6,0,⟨#[]⟩,0,0⟩] 1;simp only;omega⟩
 rintro⟨oe',ot',H7,n7⟩ ⟨w1,w2,e0,e2,e3,e4,e6,mv,m,im',y1,y2,y3,y4,y5,y6,y7⟩
 simp only at w1 w2 e0 e2 e3 e4 e6 y1 y3 y5
 have t4:H7 (n+4)=_:=(w2 _ Om).trans rM4
 refine W1 (Xm e0 e4 e6 t4 y1) ?_
 refine Zy (k69 (cM.low (m:=n7+9) (fun i hi=>w2 i Om) Om) 60) ?_
 rintro _ H8 n8 q8 s8 c8 ⟨k,rfl,-,hkk⟩
 have hkb:=(hkk (by decide)).2
 have t4':H8 (n+4)=_:=(s8 _ Om Om).trans t4
 have y1':H8 (on+6)=_:=(s8 _ Om Om).trans y1
 have hN8:New3 (n+6) n8 H8 u ul ud l li ld:=(hNM.mv (m:=n1) (Nat.le_refl _) (fun i h1 h2=>by rw[s8 _ Om Om];exact w2 i h2)).mv Om (fun _ _ _=>rfl)
 refine W1 (Xm e0 e4 e6 t4' y1') ?_
 refine Zy (k106 (lo:=n+6) (m:=m) c8 Om Om hN8 hB ⟨im',by omega,by omega,y5.mv (s8 _ Om Om)⟩ y6 y7 k Om) ?_
 rintro _ H9 n9 q9 s9 c9 ⟨ru,rm,rfl,⟨ir,ir1,ir2,ir3⟩,rz,rl⟩
 have t4'':H9 (n+4)=_:=(s9 _ Om Om).trans t4'
 have s9n:∀ i,i < n1->i≠c->H9 i=M i:=fun i h1 h2=>by rw[s9 _ Om h2,s8 _ Om h2];exact w2 i h1
 have t0:H9 n=_:=(s9n _ Om Om).trans rM0
 have t1:H9 (n+1)=_:=(s9n _ Om Om).trans rM1
 have hN9:New3 (n+6) n9 H9 u ul ud l li ld:=hN8.mv Om (fun i h1 h2=>s9 i Om Om)
 refine W1 (Xq e2 e3 e4 t4'' t0 t1) ?_
 refine Wp.pure ⟨So,fun i h1 h2=>by simp only;rw[Zf _ _ Om,Zf _ _ Om,s9n _ Om h2];exact sM i h1 h2,c9.low (fun i hi=>by simp only;rw[Zf _ _ Om,Zf _ _ Om]) (by have:=c9.1;simp only;omega),u,ul,ud,_,rfl,⟨l,li,ld,(hN9.mv So (fun i h1 h2=>by simp only;rw[Zf _ _ Om,Zf _ _ Om])).lo Om,hB⟩,ru,rm,rfl,⟨ir,by omega,So,ir3.mv (by simp only;rw[Zf _ _ Om,Zf _ _ Om])⟩,rz,rl⟩
theorem Wp.cut2 {α δ ε:Type}{A:Option α}{g:α->Option δ}{F:δ->Option ε}{R:δ->Prop}{Q:ε->Prop}(k1:Wp (A.bind g) R) (k2:∀ o,R o->Wp (F o) Q):Wp (A.bind fun a=>(g a).bind F) Q:=by
 obtain⟨o,h1,h2⟩:=k1
 obtain⟨q,h3,h4⟩:=k2 o h2
 refine⟨q,?_,h4⟩
 cases A with
 | none=>cases h1
 | some a=>
  simp only[Option.bind_some]at h1 ⊢
  rw[h1]
  exact h3
def DrR (c n:Nat)(H:Hp)(o:Out):Prop :=
 n+11<=o.n/\(∀ i,i < n->i≠c->o.H i=H i)/\Cu c o.n o.H/\o.t 2=ptr n 0/\o.t 3=ptr (n+1) 0/\o.t 4=ptr (n+7) 0/\o.t 5=ptr (n+8) 0/\o.H n=some (.row [nilS,nilS,nilS] 0 true)/\o.H (n+1)=some (.row [nilS,.int .i64 0,.int .i64 0,.int .i64 0,.int .i64 0,.int .i64 0,.int .i64 0,.int .i64 0] 0 true) /\
  (∃ u ul ud,o.H (n+7)=some (.row [u,ul,ud] 0 true)/\DrawnC (n+11) o.n o.H u ul ud)/\∃ (r:Value) (m:Mc) (id:Nat),o.H (n+8)=some (.row [r,.int .i64 m.a,.int .i64 m.s,.int .i64 m.e,.int .i64 m.d,.int .i64 m.t,.int .i64 m.k,.int .i64 m.r] 0 true)/\n+11<=id/\id < o.n/\At eNode id o.H r m.p/\(∀ x∈m.p,x.s.size<=1048576)/\m.p.length<=1048576
theorem k37 {c n:Nat}{H:Hp}(hc:Cu c n H):RtD Tryz.prog 37 [ptr c 0] c H n (fun r H' n'=>∃ u ul ud w,r=.tuple ⟨[.agg ⟨[u,ul,ud]⟩,w]⟩/\DrawnC n n' H' u ul ud/\DrawnM n n' H' w):=by
 apply RtD.mk
 rw[c37];unfold S37
 have hcn:=hc.1
 refine W1 trivial ?_
 refine Zy (k68 (hc.low (m:=n+11) (fun i hi=>by simp(disch:=omega) only[Zf]) Om)) ?_
 rintro _ H1 n1 q1 s1 c1 ⟨u,ul,ud,_,rfl,hD,mv,m,rfl,⟨im,im1,im2,im3⟩,mz,ml⟩
 obtain⟨pa,aa,sa,ea,da,ta,ka,ra⟩:=m
 simp only at im3 mz ml
 refine W1 trivial ?_
 generalize hM:Hp.set _ (n+8) _=M
 have rM8:M (n+8)=some (.row [mv,.int .i64 aa,.int .i64 sa,.int .i64 ea,.int .i64 da,.int .i64 ta,.int .i64 ka,.int .i64 ra] 0 true):=by rw[← hM];exact Ze _ _ _
 have hMo:∀ i,i≠n+7->i≠n+8->M i=H1 i:=fun i h1 h2=>by rw[← hM];simp(disch:=omega) only[Zf]
 have rM7:M (n+7)=some (.row [u,ul,ud] 0 true):=by rw[← hM];simp(disch:=omega) only[Zf,Ze]
 clear hM
 refine Zy (k69 (c1.low (m:=n1+2) (fun i hi=>hMo i Om Om) Om) 30) ?_
 rintro _ H2 n2 q2 s2 c2 ⟨k,rfl,-,hk⟩
 have hk:=hk (by decide)
 have hS:∀ i,i < n->i≠c->H2 i=H i:=fun i h1 h2=>by rw[s2 _ Om h2,hMo _ Om Om,s1 _ Om h2];simp(disch:=omega) only[Zf]
 have r0:H2 n=some (.row [nilS,nilS,nilS] 0 true):=by rw[s2 _ Om Om,hMo _ Om Om,s1 _ Om Om];simp(disch:=omega) only[Zf,Ze]
 have r1:H2 (n+1)=some (.row [nilS,.int .i64 0,.int .i64 0,.int .i64 0,.int .i64 0,.int .i64 0,.int .i64 0,.int .i64 0] 0 true):=by rw[s2 _ Om Om,hMo _ Om Om,s1 _ Om Om];simp(disch:=omega) only[Zf,Ze]
 have r7:H2 (n+7)=some (.row [u,ul,ud] 0 true):=(s2 _ Om Om).trans rM7
 have r8:H2 (n+8)=some (.row [mv,.int .i64 aa,.int .i64 sa,.int .i64 ea,.int .i64 da,.int .i64 ta,.int .i64 ka,.int .i64 ra] 0 true):=(s2 _ Om Om).trans rM8
 have hD2:DrawnC (n+11) n2 H2 u ul ud:=hD.mv (Nat.le_refl _) Om (fun i h1 h2=>by rw[s2 _ Om Om,hMo _ Om Om])
 have hA2:At eNode im H2 mv pa:=im3.mv (by rw[s2 _ Om Om,hMo _ Om Om])
 clear s2 s1 hMo rM7 rM8 hD im3
 have hfin:∀ (T:Tm) (Hf:Hp) (nf:Nat) (a s e d t k r:Int),n2<=nf->(∀ i,i < n2->i≠c->i≠n+8->Hf i=H2 i)->Cu c nf Hf->Hf (n+8)=some (.row [mv,.int .i64 a,.int .i64 s,.int .i64 e,.int .i64 d,.int .i64 t,.int .i64 k,.int .i64 r] 0 true)->T 2=ptr n 0->T 3=ptr (n+1) 0->T 4=ptr (n+7) 0->T 5=ptr (n+8) 0->DrR c n H ⟨.normal,T,Hf,nf⟩:=by
  intro T Hf nf a s e d t k r h1 h2 h3 h4 h5 h6 h7 h8
  exact⟨So,fun i a1 a2=>by simp only;rw[h2 _ Om a2 Om];exact hS i a1 a2,h3,h5,h6,h7,h8,by simp only;rw[h2 _ Om Om Om];exact r0,by simp only;rw[h2 _ Om Om Om];exact r1,⟨u,ul,ud,by simp only;rw[h2 _ Om Om Om];exact r7,hD2.mv (Nat.le_refl _) h1 (fun i a1 a2=>h2 i a2 Om Om)⟩,mv,⟨pa,a,s,e,d,t,k,r⟩,im,h4,im1,So,hA2.mv (h2 _ Om Om Om),mz,ml⟩
 have hul:∃ nl:Nat,Zx false ul=some (.int .i64 (nl:Int))/\nl<=400:=by
  obtain⟨l,li,ld,hN,hB⟩:=hD2
  exact⟨li.length,hN.li.2.1.len,hB.b2⟩
 obtain⟨nl,hul,hnl⟩:=hul
 have wl:IntKind.i64.wrap ((nl:Int) - 1)=(nl:Int) - 1:=Wo Om
 refine Wp.cut2 (R:=DrR c n H) ?_ ?_
 ·by_cases k0:k=0
  ·refine W1 (Yv (eq_true k0) r7 hul wl) ?_
   refine Zy (k69 (c2.up Om) 50) ?_
   rintro _ H3 n3 q3 s3 c3 ⟨y,rfl,-,-⟩
   have r7':H3 (n+7)=_:=(s3 _ Om Om).trans r7
   have r8':H3 (n+8)=_:=(s3 _ Om Om).trans r8
   refine W1 r7' ?_
   refine Uc eInt [-1,0,(nl:Int) - 1,(nl:Int),y] (by decide) rfl rfl ?_
   refine W0 trivial ?_
   refine Zy (k70 (c3.mv Om (fun i hi=>Zf _ _ Om)) ((At.of rfl (Ze _ _ _)).lst Om) (Off.sl Om) (by simp)) ?_
   rintro _ H4 n4 q4 s4 c4 ⟨a,rfl,-⟩
   have r8'':H4 (n+8)=_:=((s4 _ Om Om).trans (Zf _ _ Om)).trans r8'
   refine W1 r8'' ?_
   exact Wp.pure (hfin _ _ _ a sa ea da ta ka ra Om (fun i h1 h2 h3=>by rw[Zf _ _ h3,s4 _ Om h2,Zf _ _ Om,s3 _ Om h2]) (c4.low (fun i hi=>Zf _ _ Om) c4.1) (Ze _ _ _) Pa Pa Pa Pa)
  by_cases k1:k=1
  ·refine W1 (Zu @k0 (eq_true k1)) ?_
   refine Zy (k69 (c2.up Om) 5) ?_
   rintro _ H3 n3 q3 s3 c3 ⟨y,rfl,-,-⟩
   have r8':H3 (n+8)=_:=(s3 _ Om Om).trans r8
   refine W1 r8' ?_
   exact Wp.pure (hfin _ _ _ aa sa ea da y ka ra Om (fun i h1 h2 h3=>by rw[Zf _ _ h3,s3 _ Om h2]) (c3.low (fun i hi=>Zf _ _ Om) c3.1) (Ze _ _ _) Pa Pa Pa Pa)
  by_cases k2:k=2
  ·refine W1 (Ye @k0 @k1 (eq_true k2)) ?_
   refine Zy (k69 (c2.up Om) 21) ?_
   rintro _ H3 n3 q3 s3 c3 ⟨y,rfl,-,-⟩
   have r8':H3 (n+8)=_:=(s3 _ Om Om).trans r8
   refine W1 r8' ?_
   exact Wp.pure (hfin _ _ _ aa sa ea da ta y ra Om (fun i h1 h2 h3=>by rw[Zf _ _ h3,s3 _ Om h2]) (c3.low (fun i hi=>Zf _ _ Om) c3.1) (Ze _ _ _) Pa Pa Pa Pa)
  by_cases k3:k=3
  ·refine W1 (Xm @k0 @k1 @k2 (eq_true k3) r8) ?_
   refine Zy (k71 (c2.up Om) ((hA2.lst Om).up Om) (hA2.off Om) Om) ?_
   rintro _ H3 n3 q3 s3 c3 ⟨y,rfl⟩
   have r8':H3 (n+8)=_:=(s3 _ Om Om).trans r8
   refine W1 r8' ?_
   exact Wp.pure (hfin _ _ _ aa sa ea da ta ka y Om (fun i h1 h2 h3=>by rw[Zf _ _ h3,s3 _ Om h2]) (c3.low (fun i hi=>Zf _ _ Om) c3.1) (Ze _ _ _) Pa Pa Pa Pa)
  by_cases k4:k=4
  ·refine W1 (Xq @k0 @k1 @k2 @k3 (eq_true k4) r8) ?_
   refine Zy (k71 (c2.up Om) ((hA2.lst Om).up Om) (hA2.off Om) Om) ?_
   rintro _ H3 n3 q3 s3 c3 ⟨y,rfl⟩
   have r8':H3 (n+8)=_:=(s3 _ Om Om).trans r8
   refine W1 r8' ?_
   exact Wp.pure (hfin _ _ _ aa y ea da ta ka ra Om (fun i h1 h2 h3=>by rw[Zf _ _ h3,s3 _ Om h2]) (c3.low (fun i hi=>Zf _ _ Om) c3.1) (Ze _ _ _) Pa Pa Pa Pa)
  by_cases k5:k=5
  ·refine W1 (Wt @k0 @k1 @k2 @k3 @k4 (eq_true k5) r8) ?_
   refine Zy (k71 (c2.up Om) ((hA2.lst Om).up Om) (hA2.off Om) Om) ?_
   rintro _ H3 n3 q3 s3 c3 ⟨y,rfl⟩
   have r8':H3 (n+8)=_:=(s3 _ Om Om).trans r8
   refine W1 r8' ?_
   exact Wp.pure (hfin _ _ _ aa sa y da ta ka ra Om (fun i h1 h2 h3=>by rw[Zf _ _ h3,s3 _ Om h2]) (c3.low (fun i hi=>Zf _ _ Om) c3.1) (Ze _ _ _) Pa Pa Pa Pa)
  by_cases k6:k=6
  ·refine W1 (Yj @k0 @k1 @k2 @k3 @k4 @k5 (eq_true k6) r8) ?_
   refine Zy (k71 (c2.up Om) ((hA2.lst Om).up Om) (hA2.off Om) Om) ?_
   rintro _ H3 n3 q3 s3 c3 ⟨y,rfl⟩
   have r8':H3 (n+8)=_:=(s3 _ Om Om).trans r8
   refine W1 r8' ?_
   exact Wp.pure (hfin _ _ _ aa sa ea y ta ka ra Om (fun i h1 h2 h3=>by rw[Zf _ _ h3,s3 _ Om h2]) (c3.low (fun i hi=>Zf _ _ Om) c3.1) (Ze _ _ _) Pa Pa Pa Pa)
  by_cases k7:k=7
  ·refine W1 (Yj @k0 @k1 @k2 @k3 @k4 @k5 @k6 (eq_true k7)) ?_
   refine Zy (k72 (c2.up Om)) ?_
   rintro _ H3 n3 q3 s3 c3 ⟨u3,ul3,ud3,rfl,hD3⟩
   have r7':H3 (n+7)=_:=(s3 _ Om Om).trans r7
   refine W1 r7' ?_
   exact Wp.pure ⟨So,fun i a1 a2=>by simp only;rw[Zf _ _ Om,s3 _ Om a2];exact hS i a1 a2,c3.low (fun i hi=>Zf _ _ Om) c3.1,Pa,Pa,Pa,Pa,by simp only;rw[Zf _ _ Om,s3 _ Om Om];exact r0,by simp only;rw[Zf _ _ Om,s3 _ Om Om];exact r1,⟨u3,ul3,ud3,Ze _ _ _,hD3.mv Om (Nat.le_refl _) (fun i a1 a2=>by simp only;rw[Zf _ _ Om])⟩,mv,⟨pa,aa,sa,ea,da,ta,ka,ra⟩,im,by simp only;rw[Zf _ _ Om,s3 _ Om Om];exact r8,im1,So,hA2.mv (by simp only;rw[Zf _ _ Om,s3 _ Om Om]),mz,ml⟩
  by_cases k8:k=8
  ·refine W1 (Yj @k0 @k1 @k2 @k3 @k4 @k5 @k6 (Zu @k7 (eq_true k8))) ?_
   refine Zy (k73 (c2.up Om)) ?_
   rintro _ H3 n3 q3 s3 c3 ⟨u3,l3,rfl,z3,l3l,j,j1,j2,j3⟩
   have r8':H3 (n+8)=_:=(s3 _ Om Om).trans r8
   refine W1 r8' ?_
   exact Wp.pure ⟨So,fun i a1 a2=>by simp only;rw[Zf _ _ Om,s3 _ Om a2];exact hS i a1 a2,c3.low (fun i hi=>Zf _ _ Om) c3.1,Pa,Pa,Pa,Pa,by simp only;rw[Zf _ _ Om,s3 _ Om Om];exact r0,by simp only;rw[Zf _ _ Om,s3 _ Om Om];exact r1,⟨u,ul,ud,by simp only;rw[Zf _ _ Om,s3 _ Om Om];exact r7,hD2.mv (Nat.le_refl _) So (fun i a1 a2=>by simp only;rw[Zf _ _ Om,s3 _ Om Om])⟩,u3,⟨l3,aa,sa,ea,da,ta,ka,ra⟩,j,Ze _ _ _,by omega,So,j3.mv (Zf _ _ Om),fun x hx=>Nat.le_trans (z3 x hx) (by decide),So⟩
  refine W1 (Yj @k0 @k1 @k2 @k3 @k4 @k5 @k6 (Zu @k7 @k8)) ?_
  exact Wp.pure (hfin _ _ _ aa sa ea da ta ka ra Om (fun i h1 h2 h3=>rfl) (c2.up Om) r8 Pa Pa Pa Pa)
 rintro⟨oe,ot,oH,on⟩ ⟨g1,g2,g3,g4,g5,g6,g7,g8,g9,⟨x1,x2,x3,x4,x5⟩,r,m,id,y1,y2,y3,y4,y5,y6⟩
 simp only at g1 g2 g3 g4 g5 g6 g7 g8 g9 x4 x5 y1 y3 y4
 refine W1 (Yj g4 g5 g6 g7 x4 y1 g8 g9) ?_
 exact Wp.pure ⟨So,fun i a1 a2=>by simp only;rw[Zf _ _ Om,Zf _ _ Om];exact g2 i a1 a2,g3.low (fun i hi=>by simp only;rw[Zf _ _ Om,Zf _ _ Om]) (by have:=g3.1;simp only;omega),x1,x2,x3,_,rfl,x5.mv Om So (fun i a1 a2=>by simp only;rw[Zf _ _ Om,Zf _ _ Om]),r,m,rfl,⟨id,by omega,So,y4.mv (by simp only;rw[Zf _ _ Om,Zf _ _ Om])⟩,y5,y6⟩
theorem k17 {n:Nat}{H:Hp}{v:Value}{code:List Int}(hv:Li eByte n H v code)(hb:∀ x∈code,0<=x/\x<=255)(hl:code.length<=1048576):RtN Tryz.prog 17 [v] H n (fun r H' n'=>∃ u ul ud w,r=.tuple ⟨[.agg ⟨[u,ul,ud]⟩,w]⟩/\DrawnC n n' H' u ul ud/\DrawnM n n' H' w):=by
 apply RtN.mk
 rw[c17];unfold S17
 refine W1 trivial ?_
 obtain⟨c,H1,n1,a1,a2,a3,a4⟩:=k38 (hv.mv (H':=(H.set n (some (.row [nilS,nilS,nilS] 0 true))).set (n+1) (some (.row [nilS,.int .i64 0,.int .i64 0,.int .i64 0,.int .i64 0,.int .i64 0,.int .i64 0,.int .i64 0] 0 true))) (m:=n+12) Om Mo) hb hl
 have hcn:=a3.1
 refine W0 a4 ?_
 refine Zy (k37 a3) ?_
 rintro _ H2 n2 q2 s2 c2 ⟨u,ul,ud,_,rfl,hD,mv,m,rfl,⟨im,im1,im2,im3⟩,mz,ml⟩
 have lo:∀ i,i < n+12->H2 i=_:=fun i hi=>(s2 i (by have:=a3.1;omega) Om).trans (a2 i hi)
 have r0:H2 n=some (.row [nilS,nilS,nilS] 0 true):=by rw[lo _ Om];simp(disch:=omega) only[Zf,Ze]
 have r1:H2 (n+1)=some (.row [nilS,.int .i64 0,.int .i64 0,.int .i64 0,.int .i64 0,.int .i64 0,.int .i64 0,.int .i64 0] 0 true):=by rw[lo _ Om];simp(disch:=omega) only[Zf,Ze]
 have rl:∀ i,i < n->H2 i=H i:=fun i hi=>by rw[lo _ Om];simp(disch:=omega) only[Zf]
 refine W1 (Zu r0 r1) ?_
 exact Wp.pure ⟨So,fun i hi=>by simp(disch:=omega) only[Zf,rl],u,ul,ud,_,rfl,hD.mv Om So (fun i h1 h2=>by simp(disch:=omega) only[Zf]),mv,m,rfl,⟨im,by omega,So,im3.mv (by simp(disch:=omega) only[Zf])⟩,mz,ml⟩
theorem node_binS (x y:Nd):Zd (.agg nfs) .neq (.agg ⟨x.cells⟩) (.agg ⟨y.cells⟩)=some (.bool (!decide (x=y))):=by
 show eqV .neq (aggEq nfs (.agg ⟨x.cells⟩) (.agg ⟨y.cells⟩))=_
 rw[node_agg];rfl
theorem Wp.gvS {α β:Type}{v:Value}{l:Array Value}{w:Bool}{A B:Option α}{f:α->Option β}{Q:β->Prop}(h:v=.tuple l)(k:Wp (B.bind f) Q):Wp ((gsel v w A B).bind f) Q:=by subst h;exact k
theorem l4 {em en n0:Nat}{H0:Hp}{mv nv:Value}{lp np:List Nd}(hlm:Ax.ld false 1 (ptr em 0) H0=some mv) (hln:Ax.ld false 1 (ptr en 0) H0=some nv) (hm:Li eNode n0 H0 mv lp)(hn:Li eNode n0 H0 nv np)(hpre:∃ r,np=lp++r)(hl:lp.length<=10000000):∀ t n,n0<=n->t 4=ptr em 0->t 5=ptr en 0->t 7=.int .i64 0 ->
  Wp (Zm (S4L0 (Call Tryz.prog) Zm) t H0 n) (fun out=>n<=out.n/\out.H=H0/\out.e=.exit 0/\out.t 3=t 3/\out.t 4=ptr em 0/\out.t 5=ptr en 0):=by
 intro t n hn0 e4 e5 e7
 obtain⟨r,rfl⟩:=hpre
 refine Zt (fun d T H' n'=>∃ j:Nat,j+d=lp.length/\n<=n'/\H'=H0/\T 3=t 3/\T 4=ptr em 0/\T 5=ptr en 0/\T 7=.int .i64 (j:Int)) _ ?_ lp.length t H0 n ⟨0,by omega,by omega,rfl,rfl,e4,e5,e7⟩
 rintro d T H' n' ⟨j,hj,hnn,rfl,e3,e4,e5,e7⟩
 unfold S4L0
 have hlen:=hm.len
 by_cases hlt:j < lp.length
 ·have hlti:(j:Int) < lp.length:=by omega
  have gm:=hm.nAll (i:=(j:Int)) Om hlti
  have gn:=hn.nAll (i:=(j:Int)) Om (by rw[List.length_append];omega)
  rw[gi_app hlti Om]at gn
  have hw:=wj (j:=j) (len:=lp.length) hlt Om
  have hnn2:=node_binS (gi lp (j:Int)) (gi lp (j:Int))
  rw[decide_eq_true rfl]at hnn2
  refine W0 (Yj e4 e5 e7 hlm hln hlen hlti (Xq gm.1 gm.2.1 gn.1 gn.2.1 hnn2 hw)) ?_
  exact Wp.pure (Nxt.go (d - 1) Om ⟨j+1,by omega,by omega,rfl,Pp e3,Pp e4,Pp e5,Po⟩)
 ·have hlti:¬ (j:Int) < lp.length:=by omega
  refine W0 (Wt e4 e5 e7 hlm hln hlen hlti) ?_
  exact Wp.pure (Nxt.exit ⟨So,rfl,rfl,Pp e3,Pp e4,Pp e5⟩)
theorem law4 {v:Value}{code:List Int}{H:Hp}{n:Nat}(hv:Li eByte n H v code)(hb:∀ x∈code,0<=x/\x<=255):∃ H' n',Call Tryz.prog 4 [v] H n=some (.bool true,H',n'):=by
 rw[c4];unfold S4
 apply Wp.val
 by_cases hbig:1048576 < code.length
 ·refine W0 (Zu (k16 (hv.up (show n<=n+3 by omega))) hbig) ?_
  exact Wp.pure rfl
 have hl:code.length<=1048576:=by omega
 refine W0 (Zu (k16 (hv.up (show n<=n+3 by omega))) hbig) ?_
 refine Ya (k17 (hv.mv Om Mo) hb hl) ?_
 rintro _ H1 n1 q1 s1 ⟨u,ul,ud,_,rfl,⟨l,li,ld,hN,hB⟩,mv,m,rfl,⟨im,im1,im2,im3⟩,mz,ml⟩
 have b1:=hB.b1
 have b2:=hB.b2
 have b3:=hB.b3
 refine W1 s1 ?_
 generalize hM:Hp.set _ (n+3+5+6) _=M
 have hMo:∀ i,n+3+5+7<=i->M i=H1 i:=fun i h1=>by rw[← hM];simp(disch:=omega) only[Zf]
 have r5:M (n+3+5+5)=some (.row [u,ul,ud] 0 true):=by rw[← hM];simp(disch:=omega) only[Zf,Ze]
 have r6:M (n+3+5+6)=some (.row [mv,.int .i64 m.a,.int .i64 m.s,.int .i64 m.e,.int .i64 m.d,.int .i64 m.t,.int .i64 m.k,.int .i64 m.r] 0 true):=by rw[← hM];simp(disch:=omega) only[Zf,Ze]
 have hNM:New3 (n+3+5+9) n1 M u ul ud l li ld:=hN.mv (Nat.le_refl _) (fun i h1 h2=>hMo i Om)
 have hmM:At eNode im M mv m.p:=im3.mv (hMo _ Om)
 clear hM hMo
 obtain⟨vn,vl,vd⟩:=hNM.li
 have vm:=hmM.lst im2
 refine Ya (k10 (vn.up Om) (vl.up Om) (vd.up Om) hB.a1 hB.a2 hB.a3 Om Om Om (vm.up Om) mz ml m.a m.s m.e m.d m.t m.k m.r) ?_
 rintro _ H2 n2 q2 s2 ⟨nu,rfl,inn,in1,in2,ono⟩
 have em:(⟨m.p,m.a,m.s,m.e,m.d,m.t,m.k,m.r⟩:Mc)=m:=rfl
 rw[em]at ono ⊢
 refine W1 (Ye s2 r5 r6) ?_
 refine Ya (k7 (vn.mv Om (Mm s2)) (vl.mv Om (Mm s2)) (vd.mv Om (Mm s2)) hB.a1 hB.a2 hB.a3 Om Om Om (vm.mv Om (Mm s2)) mz ml m.a m.s m.e m.d m.t m.k m.r) ?_
 rintro _ H3 n3 q3 s3 ⟨wu,rfl,iw,iw1,iw2,ow⟩
 rw[em]at ow ⊢
 have hz2:=step_sz (l:=l) (li:=li) (ld:=ld) mz
 have hl2:=stepM_len l li ld m ml
 have hbad:=step_bad (m:=m) (l:=l) (li:=li) (ld:=ld)
 have hlaw:=step_law (m:=m) (l:=l) (li:=li) (ld:=ld)
 generalize Wv l li ld m=M2 at ono ow hz2 hl2 hbad hlaw s3 ⊢
 have lnu:Zx false nu=some (.int .i64 M2.p.length):=(ono.lst in2).len
 have lwu:Zx false wu=some (.int .i64 M2.p.length):=(ow.lst iw2).len
 refine W1 (Xq s3 s2 r5 r6 lnu lwu) ?_
 generalize hM4:Hp.set _ (n2+3) _=M4
 have k1:∀ i,i < n1->M4 i=M i:=fun i hi=>by rw[← hM4];simp(disch:=omega) only[Zf,s3,s2]
 have kn:M4 (n1+3)=some (.row [nu,.int .i64 M2.a,.int .i64 M2.s,.int .i64 M2.e,.int .i64 M2.d,.int .i64 M2.t,.int .i64 M2.k,.int .i64 M2.r] 0 true):=by rw[← hM4];simp(disch:=omega) only[Zf,Ze,s3]
 have kw:M4 (n2+3)=some (.row [wu,.int .i64 M2.a,.int .i64 M2.s,.int .i64 M2.e,.int .i64 M2.d,.int .i64 M2.t,.int .i64 M2.k,.int .i64 M2.r] 0 true):=by rw[← hM4];simp(disch:=omega) only[Zf,Ze]
 have kon:At eNode inn M4 nu M2.p:=ono.mv (by rw[← hM4];simp(disch:=omega) only[Zf,s3])
 clear hM4
 refine Zv (k18 (vn.mv Om k1) (vl.mv Om k1) (vd.mv Om k1) hB.a1 hB.a2 hB.a3 Om Om Om (vm.mv Om k1) mz ml m.a m.s m.e m.d m.t m.k m.r) ?_
 intro H5 n5 q5 s5
 have k5:∀ i,i < n3->H5 i=M4 i:=fun i hi=>s5 i Om
 refine W1 (Xq k5 k1 r5 r6 kn kw) ?_
 refine Zv (k19 (vn.mv Om (fun i hi=>by rw[k5 _ Om];exact k1 i hi)) (vl.mv Om (fun i hi=>by rw[k5 _ Om];exact k1 i hi)) (vd.mv Om (fun i hi=>by rw[k5 _ Om];exact k1 i hi)) hB.a1 hB.a2 hB.a3 Om Om Om (vm.mv Om (fun i hi=>by rw[k5 _ Om];exact k1 i hi)) mz ml m.a m.s m.e m.d m.t m.k m.r) ?_
 intro H6 n6 q6 s6
 have k6:∀ i,i < n3->H6 i=M4 i:=fun i hi=>by rw[s6 _ Om];exact k5 i hi
 by_cases hok:MachOk l li ld m.p m.a m.s m.e m.d m.t m.k m.r
 case neg=>
  have hb2:=hbad hok
  subst hb2
  have lnu0:Zx false nu=some (.int .i64 0):=lnu
  refine W1 (Yj hok k6 k5 k1 r5 r6 kn kw) ?_
  refine Zv (k19 (vn.mv Om (fun i hi=>by rw[k6 _ Om];exact k1 i hi)) (vl.mv Om (fun i hi=>by rw[k6 _ Om];exact k1 i hi)) (vd.mv Om (fun i hi=>by rw[k6 _ Om];exact k1 i hi)) hB.a1 hB.a2 hB.a3 Om Om Om (vm.mv Om (fun i hi=>by rw[k6 _ Om];exact k1 i hi)) mz ml m.a m.s m.e m.d m.t m.k m.r) ?_
  intro H7 n7 q7 s7
  have k7:∀ i,i < n3->H7 i=M4 i:=fun i hi=>by rw[s7 _ Om];exact k6 i hi
  refine W1 (Yv hok k7 kn lnu0) ?_
  exact Wp.pure rfl
 obtain⟨hm2,he2,ht2⟩:=hlaw hok
 have hm2:MachOk l li ld M2.p M2.a M2.s M2.e M2.d M2.t M2.k M2.r:=hm2
 refine W1 (Yj hok k6 k5 k1 r5 r6 kn kw) ?_
 refine Zv (k19 (vn.mv Om (fun i hi=>by rw[k6 _ Om];exact k1 i hi)) (vl.mv Om (fun i hi=>by rw[k6 _ Om];exact k1 i hi)) (vd.mv Om (fun i hi=>by rw[k6 _ Om];exact k1 i hi)) hB.a1 hB.a2 hB.a3 Om Om Om (vm.mv Om (fun i hi=>by rw[k6 _ Om];exact k1 i hi)) mz ml m.a m.s m.e m.d m.t m.k m.r) ?_
 intro H7 n7 q7 s7
 have k7:∀ i,i < n3->H7 i=M4 i:=fun i hi=>by rw[s7 _ Om];exact k6 i hi
 have k71:∀ i,i < n1->H7 i=M i:=fun i hi=>by rw[k7 _ Om];exact k1 i hi
 have r5':H7 (n+3+5+5)=_:=(k71 _ Om).trans r5
 have r6':H7 (n+3+5+6)=_:=(k71 _ Om).trans r6
 have rn':H7 (n1+3)=_:=(k7 _ Om).trans kn
 have vm7:=vm.mv (H':=H7) (m:=n7) Om k71
 have vn7:Li eNode n7 H7 nu M2.p:=(kon.mv (k7 _ Om)).lst Om
 refine W1 hok ?_
 refine Wp.bind (l4 (em:=n+3+5+6) (en:=n1+3) (n0:=n7) (H0:=H7) (mv:=mv) (nv:=nu) (by rw[ld_r,r6',Yc];rfl) (by rw[ld_r,rn',Yc];rfl) vm7 vn7 he2 Om _ _ Om Po Po Po) ?_
 rintro⟨oe,ot,oH,on⟩ ⟨f1,f2,f3,f4,f5,f6⟩
 simp only at f1 f2 f3 f4 f5 f6
 have f2:=f2.symm
 subst f2
 subst f3
 have f4:ot 3=ptr (n+3+5+5) 0:=by rw[f4];simp[Zn]
 by_cases ht:m.t=0
 ·refine W1 (Wt f4 f5 f6 r5' r6' rn' ht) ?_
  (repeat((with_reducible apply Wp.gvS;case h=>(simp(disch:=omega)only[↓reduceIte,Zr,↓X0,X1,Nat.reduceEqDiff,Int.reduceEq,Nat.reduceAdd,Nat.reduceSub];exact rfl));refine W1 (Wt f4 f5 f6 r5' r6' rn' ht) ?_))
  refine Zv (k18 ((vn.mv (H':=H7) (m:=n7) Om k71).up Om) ((vl.mv (H':=H7) (m:=n7) Om k71).up Om) ((vd.mv (H':=H7) (m:=n7) Om k71).up Om) hB.a1 hB.a2 hB.a3 Om Om Om (vn7.up Om) hz2 hl2 M2.a M2.s M2.e M2.d M2.t M2.k M2.r) ?_
  intro H8 n8 q8 s8
  rw[decide_eq_true hm2]
  refine W0 trivial ?_
  exact Wp.pure rfl
 ·have e2:=ht2 ht
  subst e2
  refine W1 (Wt f4 f5 f6 r5' r6' rn' ht) ?_
  refine Zv (k18 ((vn.mv (H':=H7) (m:=n7) Om k71).up Om) ((vl.mv (H':=H7) (m:=n7) Om k71).up Om) ((vd.mv (H':=H7) (m:=n7) Om k71).up Om) hB.a1 hB.a2 hB.a3 Om Om Om (vn7.up Om) hz2 hl2 M2.a M2.s M2.e M2.d M2.t M2.k M2.r) ?_
  intro H8 n8 q8 s8
  rw[decide_eq_true hm2]
  refine W0 trivial ?_
  exact Wp.pure rfl
end Go.Proofs.YtcffcnipmgkjfaaGreat.Ax
