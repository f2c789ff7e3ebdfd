/- What the law needs: laws of the abstract machine, and contracts of functions. -/
import Derived.Test.YtcffcnipmgkjfaaGreatM2
import Derived.Test.YtcffcnipmgkjfaaGreatM11
set_option linter.unusedVariables false
set_option linter.unusedSimpArgs false
set_option maxHeartbeats 8000000
namespace Go.Proofs.YtcffcnipmgkjfaaGreat.Ax
open Go
def Wk (a b:CS):Prop:=a.how=b.how/\(b.how=0->a=b)
theorem Wk.refl (a:CS):Wk a a:=⟨rfl,fun _=>rfl⟩
theorem Wk.step {a b a':CS}{g:CS->CS}(h:Wk a b)(hg:Goes g)(h2:Wk a' (g a)):Wk a' (g b):=by
 by_cases hb:b.how=0
 ·rw[← h.2 hb];exact h2
 ·have e1:=(hg b).1 hb
  have e2:=(hg a).1 (by rw[h.1];exact hb)
  rw[e1];rw[e2]at h2
  exact⟨h2.1.trans h.1,fun h0=>absurd h0 hb⟩
abbrev NextW (c il n n':Nat)(H':Hp)(v ud:Value)(b:CS):Prop:=∃ a,Wk a b/\Next c il n n' H' v ud a
theorem k168 {c il n:Nat}{H:Hp}{v ul ud:Value}{s:CS}(h:CC c il n H v ul ud s)(x:Ins):RtA Tryz.prog 168 [ptr c 0,.agg ⟨x.cells⟩] c il H n (fun r H' n'=>r=.int .i64 (if(Yu x s).how=0 then(s.L.length:Int)else 0)/\∃ ul' il',(il'=il∨n<=il')/\CC c il' n' H' v ul' ud (Yu x s)):=by
 apply RtA.of
 rw[c168];unfold S168
 have hcn:=h.cn
 have hil:=h.iln
 have hne:=h.ne
 have hc:=h.hc
 have hal:=h.al
 have hlen:=h.len
 have hr:=h.hr
 have hlv:Zx false ul=some (.int .i64 s.L.length):=(hal.lst hil).len
 by_cases h0:s.how=0
 case neg=>
  have e:Yu x s=s:=cPut_how h0
  refine W1 (Ye @Ins.cells.eq_1 hc h0) ?_
  exact Wp.pure ⟨So,Mo,by rw[e,if_neg h0],ul,il,.inl rfl,by rw[e];exact h.mv So Mo Mo⟩
 by_cases h4:(s.L.length:Int)=400
 ·have h4':s.L.length=400:=by omega
  have e:Yu x s=⟨3,s.L,s.D⟩:=by unfold Yu;rw[if_pos h0,if_pos h4']
  have hc':(H.set n (some (.row x.cells 0 true))) c=some (.row [v,ul,ud,.int .i64 s.how] 0 true):=(Zf _ _ Om).trans hc
  have hst:=st_cset (o:=3) (v:=.int .i64 3) hc' (by simp) rfl
  simp only[List.set_cons_succ,List.set_cons_zero,Ins.cells]at hst
  refine W1 (Xq @Ins.cells.eq_1 hc hlv h0 h4 hst) ?_
  refine Wp.pure ⟨So,Mo,by rw[e];rfl,ul,il,.inl rfl,?_⟩
  rw[e]
  exact⟨Ze _ _ _,hal.mv Mo,So,So,hne,hlen,⟨by show(0:Int)<=3;decide,Int.le_refl 3⟩⟩
 ·have h4':¬ s.L.length=400:=by omega
  have e:Yu x s=⟨0,s.L++[x],s.D⟩:=by unfold Yu;rw[if_pos h0,if_neg h4']
  have hb:=fun id=>bsl_ic id x
  simp only[Ins.cells]at hb
  refine W1 (Xq @Ins.cells.eq_1 hc hlv h4 h0 hb) ?_
  refine Ub (E:=eIns) x (hal.mv Mo) Om (by decide) Om ?_
  intro H4 r1 r2
  have hc4:H4 c=some (.row [v,ul,ud,.int .i64 s.how] 0 true):=by simp(disch:=omega) only[r2,Zf,hc]
  have hst:=fun u (hu:cell1 u=true)=>st_cset (o:=1) (v:=u) hc4 (by simp) hu
  have hst:=hst (sl (n+15+12) 0 (s.L++[x]).length) rfl
  simp only[List.set_cons_succ,List.set_cons_zero]at hst
  have hw:IntKind.i64.wrap (((s.L++[x]).length:Int) - 1)=(s.L.length:Int):=by rw[List.length_append];exact sub1 Om
  refine W1 (Zu hst hw) ?_
  refine Wp.pure ⟨So,(Mm r2),by rw[e];simp,sl (n+15+12) 0 (s.L++[x]).length,n+15+12,.inr Om,?_⟩
  rw[e]
  exact⟨by rw[← h0];exact Ze _ _ _,.inr ⟨rfl,(Zf _ _ Om).trans r1⟩,So,So,by omega,by simp;omega,⟨Int.le_refl 0,by show(0:Int)<=3;decide⟩⟩
theorem k174 {c il n:Nat}{H:Hp}{v ul ud:Value}{s:CS}(h:CC c il n H v ul ud s)(a:Int)(b:Nat)(ha:s.how=0->a=b/\b < s.L.length):RtA Tryz.prog 174 [ptr c 0,.int .i64 a] c il H n (fun r H' n'=>r=.tuple ⟨[]⟩/\CC c il n' H' v ul ud (cTo b s)):=by
 apply RtA.of
 rw[c174];unfold S174
 have hcn:=h.cn
 have hil:=h.iln
 have hne:=h.ne
 have hc:=h.hc
 have hal:=h.al
 have hlv:Zx false ul=some (.int .i64 s.L.length):=(hal.lst hil).len
 by_cases h0:s.how=0
 ·obtain⟨rfl,hb⟩:=ha h0
  have e:cTo b s=⟨0,setN s.L b,s.D⟩:=by unfold cTo;rw[if_pos h0]
  have hul:ul=sl il 0 s.L.length/\H il=some (.row (s.L.flatMap eIns.cells) eIns.sz true):=by
   rcases hal with⟨_,h2⟩|h
   ·rw[h2]at hb;simp at hb
   ·exact h
  obtain⟨rfl,hrow⟩:=hul
  have hix:=idx_sl (sz:=4) (id:=il) (k:=.i64) hb
  have hst:st false 1 (ptr il (b * 4+1)) (.int .i64 s.L.length) H=some (H.set il (some (.row ((setN s.L b).flatMap eIns.cells) eIns.sz true))):=by
   rw[st_c rfl]
   refine st_fld (E:=eIns) hrow hb (by decide) ?_
   rw[Yq hb];rfl
  refine W1 (Xm hc hlv h0 hix hst) ?_
  refine Wp.pure ⟨So,Mo,rfl,?_⟩
  rw[e]
  exact⟨by show(H.set il _) c=_;rw[Zf _ _ Om,hc,h0],.inr ⟨by rw[setN_len],Ze _ _ _⟩,So,So,hne,by rw[setN_len];exact h.len,⟨Int.le_refl 0,by show(0:Int)<=3;decide⟩⟩
 ·rw[cTo_how h0]
  refine W1 (Zu hc h0) ?_
  exact Wp.pure ⟨So,Mo,rfl,h.mv So rfl rfl⟩
theorem k169 (s:ByteArray)(H:Hp)(n:Nat):Rt Tryz.prog 169 [.string s] H n (.bool (Vq s)):=by
 apply Rt.mk
 rw[c169];unfold S169
 rw[show(⟨#[113,117,111,116,101]⟩:ByteArray)=Vf from rfl,show(⟨#[105,102]⟩:ByteArray)=wIf from rfl,show(⟨#[100,111]⟩:ByteArray)=wDo from rfl,show(⟨#[102,110]⟩:ByteArray)=wFn from rfl,show(⟨#[108,101,116]⟩:ByteArray)=wLet from rfl,show(⟨#[100,101,102,105,110,101]⟩:ByteArray)=Ud from rfl]
 unfold Vq
 by_cases h1:s=Vf
 ·refine W0 h1 ?_;exact Wp.pure ⟨So,Mo,by simp[h1]⟩
 by_cases h2:s=wIf
 ·refine W0 (Ye h1 h2 (show¬ wIf=Vf by decide)) ?_;exact Wp.pure ⟨So,Mo,by simp[h2]⟩
 by_cases h3:s=wFn
 ·refine W0 (Ye h3 (show¬ wFn=Vf by decide) (show¬ wFn=wIf by decide)) ?_;exact Wp.pure ⟨So,Mo,by simp[h3]⟩
 by_cases h4:s=wDo
 ·refine W0 (Yv h4 (show¬ wDo=Vf by decide) (show¬ wDo=wIf by decide) (show¬ wDo=wFn by decide)) ?_;exact Wp.pure ⟨So,Mo,by simp[h4]⟩
 by_cases h5:s=wLet
 ·refine W0 (Xm h5 (show¬ wLet=Vf by decide) (show¬ wLet=wIf by decide) (show¬ wLet=wFn by decide) (show¬ wLet=wDo by decide)) ?_;exact Wp.pure ⟨So,Mo,by simp[h5]⟩
 by_cases h6:s=Ud
 ·refine W0 (Xq h6 (show¬ Ud=Vf by decide) (show¬ Ud=wIf by decide) (show¬ Ud=wFn by decide) (show¬ Ud=wDo by decide) (show¬ Ud=wLet by decide)) ?_;exact Wp.pure ⟨So,Mo,by simp[h6]⟩
 refine W0 (Xq h1 h2 h3 h4 h5 h6) ?_;exact Wp.pure ⟨So,Mo,by simp[h1,h2,h3,h4,h5,h6]⟩
theorem k158 {c n:Nat}{H:Hp}{v:Value}{cs:List Value}{p:List Nd}(hv:Li eNode n H v p)(hc:H c=some (.row (v :: cs) 0 true)) (hcn:c < n)(x:Int)(h0:0<=x)(h1:x < (p.length:Int)):Rt Tryz.prog 158 [ptr c 0,.int .i64 x] H n (.tuple ⟨[.string (gi p x).s,.bool (isVar (gi p x))]⟩):=by
 apply Rt.mk
 rw[c158];unfold S158
 have g:=hv.nAll h0 h1
 have hcl:(gi p x).cells=[.int .i64 (gi p x).k,.int .i64 (gi p x).n,.string (gi p x).s,.int .i64 (gi p x).a,.int .i64 (gi p x).b]:=rfl
 rw[hcl]at g
 by_cases k4:(gi p x).k=4
 ·refine W1 (Ye hc g @k4) ?_
  refine Zv (k169 _ _ _) ?_
  intro H1 n1 q1 s1
  refine W1 s1 ?_
  exact Wp.pure ⟨So,(Mm s1),by rw[isVar_eq,k4];rfl⟩
 ·refine W1 (Ye hc g @k4) ?_
  exact Wp.pure ⟨So,Mo,by rw[isVar_eq,decide_eq_false k4];rfl⟩
theorem l1172 {n:Nat}{H:Hp}{ew fw:Value}{ws:List Value}{f:List ByteArray}(s:ByteArray)(hw:Li eVl n H ew ws)(k:Nat)(hk:k < ws.length)(hkw:ws[k]=fw)(hf:Li eStr n H fw f)(hfl:f.length<=1000000):∀ t n',n<=n'->t 0=ew->t 1=.string s->t 6=.int .i64 k->t 7=.int .i64 0 ->
  Wp (Zm (S172L1 (Call Tryz.prog) Zm) t H n') (fun o=>n'<=o.n/\o.H=H/\((o.e=.exit 2/\Ua s f 0=none/\o.t 0=ew/\o.t 1=.string s/\o.t 6=.int .i64 k)∨(o.e=.ret/\∃ i:Nat,Ua s f 0=some i/\o.t 4=.int .i64 k/\o.t 5=.int .i64 i))):=by
 intro t n' hn e0 e1 e6 e7
 refine Zt (fun d T H' m=>∃ j:Nat,j+d=f.length/\n'<=m/\H'=H/\T 0=ew/\T 1=.string s/\T 6=.int .i64 k/\T 7=.int .i64 j/\Ua s f 0=Ua s (f.drop j) j) _ ?_ f.length t H n' ⟨0,by omega,by omega,rfl,e0,e1,e6,e7,by simp⟩
 rintro d T H' m ⟨j,hj,hn',rfl,e0,e1,e6,e7,hfx⟩
 unfold S172L1
 have g:=hw.vAll (i:=(k:Int)) Om Om
 simp only[Int.toNat_natCast,hkw]at g
 by_cases hlt:(j:Int) < f.length
 ·have hlt':j < f.length:=by omega
  have gf:=hf.tAll (i:=(j:Int)) Om hlt
  have hd:f.drop j=gi f (j:Int) :: f.drop (j+1):=by rw[Yq hlt'];exact List.drop_eq_getElem_cons hlt'
  rw[hd,Ua]at hfx
  have hws:=wj (j:=j) (len:=f.length) hlt' Om
  by_cases hs:gi f (j:Int)=s
  ·rw[if_pos hs.symm]at hfx
   refine W0 (Yj e0 e1 e6 e7 g hf.len hlt (Zu gf hs)) ?_
   exact Wp.pure (Nxt.ret ⟨So,rfl,.inr ⟨rfl,j,hfx,Pp e6,Pp e7⟩⟩)
  ·rw[if_neg (Ne.symm hs)]at hfx
   refine W0 (Yj e0 e1 e6 e7 g hf.len hlt (Ye gf hs hws)) ?_
   exact Wp.pure (Nxt.go (d - 1) Om ⟨j+1,by omega,by omega,rfl,Pp e0,Pp e1,Pp e6,Po,hfx⟩)
 ·refine W0 (Wt e0 e1 e6 e7 g hf.len hlt) ?_
  rw[List.drop_eq_nil_of_le Om]at hfx
  exact Wp.pure (Nxt.exit ⟨So,rfl,.inl ⟨rfl,hfx,Pp e0,Pp e1,Pp e6⟩⟩)
def varV (s:ByteArray)(e:Env):Value:=match cVar s e 0 with
 | some (n,i)=>.tuple ⟨[.int .i64 n,.int .i64 i]⟩
 | none=>.tuple ⟨[.int .i64 (-1),.int .i64 0]⟩
theorem k172 {c il n:Nat}{H:Hp}{ew:Value}(s:ByteArray){e:Env}(he:EnvOk e)(hev:EV c il n H ew e):Rt Tryz.prog 172 [ew,.string s] H n (varV s e):=by
 apply Rt.mk
 rw[c172];unfold S172
 obtain⟨ws,hw1,hw2,hw3⟩:=hev.ex
 have hel:=he.1
 refine W0 trivial ?_
 refine Wp.bind (Zt (fun d T H' n'=>∃ m:Nat,m+d=e.length/\n<=n'/\H'=H/\T 0=ew/\T 1=.string s/\T 6=.int .i64 m/\cVar s e 0=cVar s (e.drop m) m) (fun o=>n<=o.n/\o.H=H/\((o.e=.exit 0/\cVar s e 0=none)∨(o.e=.ret/\∃ a b:Nat,cVar s e 0=some (a,b)/\o.t 4=.int .i64 a/\o.t 5=.int .i64 b))) ?_ e.length _ _ _ ⟨0,by omega,by omega,rfl,Pa,Pa,Po,by simp⟩) ?_
 ·rintro d T H' n' ⟨m,hm,hn,rfl,e0,e1,e6,hcv⟩
  unfold S172L0
  have hlw:Zx false ew=some (.int .i64 (e.length:Int)):=by have:=hw1.li.len;rw[hw2]at this;exact this
  by_cases hlt:(m:Int) < (e.length:Int)
  ·have hlt':m < e.length:=by omega
   obtain⟨hf,hcell⟩:=hw3 m Om hlt'
   have hfl:=he.2 _ (List.getElem_mem hlt')
   rw[cVar_drop hlt']at hcv
   have hws:=wj (j:=m) (len:=e.length) hlt' Om
   refine W0 (Xm e0 e1 e6 hlw hlt) ?_
   refine Wp.bind (l1172 s hw1.li m Om rfl hf.li Om _ _ Om (Pp e0) (Pp e1) (Pp e6) Po) ?_
   rintro⟨oe,ot,oH,on⟩ ⟨f1,rfl,f3⟩
   simp only at f1 f3
   rcases f3 with⟨rfl,f3,e0',e1',e6'⟩|⟨rfl,i,f3,f4,f5⟩
   ·rw[f3]at hcv
    refine W0 (Zu e6' hws) ?_
    exact Wp.pure (Nxt.go (d - 1) Om ⟨m+1,by omega,by omega,rfl,Pp e0',Pp e1',Po,hcv⟩)
   ·rw[f3]at hcv
    simp(disch:=omega)only[↓reduceIte,Zr,↓X0,X1,Nat.reduceEqDiff,Int.reduceEq,Nat.reduceAdd,Nat.reduceSub]
    exact Wp.pure (Nxt.ret ⟨So,rfl,.inr ⟨rfl,m,i,hcv,f4,f5⟩⟩)
  ·refine W0 (Yv e0 e6 hlw hlt) ?_
   rw[List.drop_eq_nil_of_le Om]at hcv
   exact Wp.pure (Nxt.exit ⟨So,rfl,.inl ⟨rfl,hcv⟩⟩)
 ·rintro⟨oe,ot,oH,on⟩ ⟨f1,rfl,f3⟩
  simp only at f1 f3
  unfold varV
  rcases f3 with⟨rfl,f3⟩|⟨rfl,a,b,f3,f4,f5⟩
  ·rw[f3]
   refine W0 trivial ?_
   exact Wp.pure ⟨So,Mo,rfl⟩
  ·rw[f3]
   simp(disch:=omega)only[↓reduceIte,Zr,↓X0,X1,Nat.reduceEqDiff,Int.reduceEq,Nat.reduceAdd,Nat.reduceSub,f4,f5]
   exact Wp.pure ⟨So,Mo,rfl⟩
theorem fIdx_snoc (s x:ByteArray):∀ (l:List ByteArray)(j:Nat),(Ua s (l++[x]) j).isSome=((Ua s l j).isSome || decide (s=x))
 | [],j=>by
  by_cases h:s=x <;> simp[Ua,h]
 | y :: l,j=>by
  rw[List.cons_append,Ua,Ua]
  by_cases h:s=y
  ·simp[h]
  ·rw[if_neg h,if_neg h];exact fIdx_snoc s x l (j+1)
theorem CC.how {c il n:Nat}{H:Hp}{v ul ud:Value}{s:CS}(h:CC c il n H v ul ud s)(x:Int)(hx:0<=x/\x<=3){n':Nat}{H':Hp}(hn:n<=n')(hc:H' c=some (.row [v,ul,ud,.int .i64 x] 0 true)) (hi:H' il=H il):CC c il n' H' v ul ud ⟨x,s.L,s.D⟩ :=
 ⟨hc,h.al.mv hi,by have:=h.cn;omega,by have:=h.iln;omega,h.ne,h.len,hx⟩
theorem CC.st {c il n:Nat}{H:Hp}{v ul ud:Value}{s:CS}(h:CC c il n H v ul ud s)(x:Int){H':Hp}(hc:H' c=H c):st false 1 (ptr c 3) (.int .i64 x) H'=some (H'.set c (some (.row [v,ul,ud,.int .i64 x] 0 true))):=by
 have:=st_cset (o:=3) (v:=.int .i64 x) (hc.trans h.hc) (by simp) rfl
 simpa only[List.set_cons_succ,List.set_cons_zero]using this
theorem l0159 {c il n0:Nat}{H0:Hp}{v ul ud w:Value}{s:CS}{p:List Nd}{l:List Int}(h:CC c il n0 H0 v ul ud s)(hv:LO eNode c il n0 H0 v p)(hw:LO eInt c il n0 H0 w l)(hr:∀ x∈l,0<=x/\x < (p.length:Int)) (hl:l.length<=1000000)(x0:Int)(hx0:x0=0/\l.length<=4∨x0=1/\Ys p l=([],1)):∀ t H n id u,n0<=n->(∀ i,i < n0->i≠c->H i=H0 i)->CC c il n H v ul ud ⟨x0,s.L,s.D⟩->n0<=id->id < n->At eStr id H u []->t 0=ptr c 0->t 1=w->t 5=u->t 6=.int .i64 0 ->
  Wp (Zm (S159L0 (Call Tryz.prog) Zm) t H n) (fun o=>n<=o.n/\(∀ i,i < n0->i≠c->o.H i=H0 i)/\o.e=.exit 0/\o.t 0=ptr c 0/\∃ x id u ns,CC c il o.n o.H v ul ud ⟨x,s.L,s.D⟩/\n0<=id/\id < o.n/\o.t 5=u/\At eStr id o.H u ns/\ns.length<=4/\((x=0/\l.length<=4/\(∀ y∈l,isVar (gi p y)=true)/\ns=l.map fun y=>(gi p y).s)∨(x=1/\Ys p l=([],1)))):=by
 intro t H n id u hn0 s0 hcc hid hidn hat e0 e1 e5 e6
 have hcn:=h.cn
 have hil:=h.iln
 have hne:=h.ne
 refine Zt (fun d T H' n'=>∃ (j id:Nat) (u:Value) (x:Int) (ns:List ByteArray),j+d=l.length+1/\1<=d/\n<=n'/\(∀ i,i < n0->i≠c->H' i=H0 i)/\CC c il n' H' v ul ud ⟨x,s.L,s.D⟩/\T 0=ptr c 0/\T 1=w/\T 5=u/\T 6=.int .i64 j/\n0<=id/\id < n'/\At eStr id H' u ns/\ns.length<=4/\((x=0/\l.length<=4/\(∀ y∈l.take j,isVar (gi p y)=true)/\ns=(l.take j).map fun y=>(gi p y).s)∨(x=1/\Ys p l=([],1)))) _ ?_ (l.length+1) t H n ⟨0,id,u,x0,[],by omega,by omega,by omega,s0,hcc,e0,e1,e5,e6,hid,hidn,hat,by simp,by rcases hx0 with h|h;exact .inl ⟨h.1,h.2,by simp,by simp⟩;exact .inr h⟩
 rintro d T H' n' ⟨j,id,u,x,ns,hj,hd,hn,s1,hcc,e0,e1,e5,e6,hid,hidn,hat,hns,hx⟩
 subst e5
 unfold S159L0
 have hc:=hcc.hc
 simp only at hc
 have hw':=hw.li.keep' (H':=H') fun i o a k e=>s1 i (hw.li.2 i o a k e) (hw.oc i o a k e)
 have hv':=hv.li.keep' (H':=H') fun i o a k e=>s1 i (hv.li.2 i o a k e) (hv.oc i o a k e)
 by_cases hlt:(j:Int) < l.length
 ·have hlt':j < l.length:=by omega
  rcases hx with⟨rfl,hl4,hvar,rfl⟩|⟨rfl,hbad⟩
  ·have g:=hw'.iAll (i:=(j:Int)) Om hlt
   have hmem:=Yb (l:=l) (i:=(j:Int)) Om hlt
   have hrj:=hr _ hmem
   have hws:=wj (j:=j) (len:=l.length) hlt' Om
   refine W1 (Wt e0 e1 e6 hc hw'.len hlt g) ?_
   refine Zv (k158 (hv'.mv Om (fun _ _=>rfl)) hc Om _ hrj.1 hrj.2) ?_
   intro H1 n1 q1 t1
   have hcc1:=hcc.mv (m:=n1) (H':=H1) Om (t1 c Om) (t1 il Om)
   cases hiv:isVar (gi p (gi l (j:Int)))with
   | true=>
    refine W1 @bsl_s ?_
    refine Ub (E:=eStr) (gi p (gi l (j:Int))).s (l:=(l.take j).map fun x=>(gi p x).s) (id:=id) (H:=H1) (hat.mv (Mm t1)) Om (by decide) (by simp;omega) ?_
    intro H4 r1 r2
    refine W0 (Zu e6 hws) ?_
    rw[← names_take hlt']at r1
    refine Wp.pure (Nxt.go (d - 1) Om ⟨j+1,n1+2+3,sl (n1+2+3) 0 ((l.take (j+1)).map fun x=>(gi p x).s).length,0,_,by omega,by omega,by omega,fun i a b=>by rw[r2 i Om Om Om,t1 i Om];exact s1 i a b,hcc1.mv Om (r2 c Om Om Om) (r2 il Om Om Om),Pp e0,Pp e1,by simp only[Zn,names_take hlt'];simp,Po,by omega,by omega,.inr ⟨rfl,r1⟩,by simp;omega,.inl ⟨rfl,hl4,fun x hx=>?_,rfl⟩⟩)
    rcases mem_take_next hlt' hx with h|h
    ·exact hvar x h
    ·rw[h];exact hiv
   | false=>
    have hst:=hcc1.st 1 rfl
    refine W1 (Ye e0 hst @bsl_s) ?_
    refine Ub (E:=eStr) (gi p (gi l (j:Int))).s (l:=(l.take j).map fun x=>(gi p x).s) (id:=id) (H:=H1.set c (some (.row [v,ul,ud,.int .i64 1] 0 true))) ((hat.mv (H':=H1) (Mm t1)).mv (Zf _ _ Om)) Om (by decide) (by simp;omega) ?_
    intro H4 r1 r2
    refine W0 (Zu e6 hws) ?_
    refine Wp.pure (Nxt.go (d - 1) Om ⟨j+1,n1+6+3,sl (n1+6+3) 0 ((l.take j).map (fun x=>(gi p x).s)++[(gi p (gi l (j:Int))).s]).length,1,_,by omega,by omega,by omega,fun i a b=>by rw[r2 i Om Om Om,Zf _ _ b,t1 i Om];exact s1 i a b,hcc1.how 1 (by decide) Om ?_ ?_,Pp e0,Pp e1,Po,Po,by omega,by omega,.inr ⟨rfl,r1⟩,by simp;omega,.inr ⟨rfl,cNames_bad hmem hiv⟩⟩)
    ·rw[r2 c Om Om Om];exact Ze _ _ _
    ·rw[r2 il Om Om Om];exact Zf _ _ hne
  ·refine W1 (Wt e0 e1 e6 hc hw'.len hlt (show¬ (1:Int)=0 by decide)) ?_
   exact Wp.pure (Nxt.exit ⟨So,s1,rfl,Pp e0,1,id,T 5,ns,hcc.mv So rfl rfl,hid,So,Po,hat,hns,.inr ⟨rfl,hbad⟩⟩)
 ·refine W1 (Xm e0 e1 e6 hw'.len hlt) ?_
  refine Wp.pure (Nxt.exit ⟨So,s1,rfl,Pp e0,x,id,T 5,ns,hcc.mv So rfl rfl,hid,So,Po,hat,hns,?_⟩)
  rw[List.take_of_length_le Om]at hx
  exact hx
theorem l2159 {c il n0:Nat}{H0:Hp}{v ul ud w:Value}{s:CS}{N:List ByteArray}(h:CC c il n0 H0 v ul ud s)(hw:LO eStr c il n0 H0 w N)(hN:N.length<=4)(i:Nat)(hi:i < N.length):∀ t H n,n0<=n->(∀ i,i < n0->i≠c->H i=H0 i)->CC c il n H v ul ud ⟨0,s.L,s.D⟩->t 0=ptr c 0->t 5=w->t 9=.int .i64 i->t 10=.int .i64 0 ->
  Wp (Zm (S159L2 (Call Tryz.prog) Zm) t H n) (fun o=>n<=o.n/\(∀ i,i < n0->i≠c->o.H i=H0 i)/\o.e=.exit 4/\o.t 0=ptr c 0/\o.t 5=w/\o.t 9=.int .i64 i/\CC c il o.n o.H v ul ud ⟨if(Ua (gi N (i:Int)) (N.take i) 0).isSome=true then 2 else 0,s.L,s.D⟩):=by
 intro t H n hn0 s0 hcc e0 e5 e9 e10
 have hcn:=h.cn
 have hil:=h.iln
 have hne:=h.ne
 refine Zt (fun d T H' n'=>∃ (k:Nat),k+d=i/\n<=n'/\(∀ i,i < n0->i≠c->H' i=H0 i)/\CC c il n' H' v ul ud ⟨if(Ua (gi N (i:Int)) (N.take k) 0).isSome=true then 2 else 0,s.L,s.D⟩/\T 0=ptr c 0/\T 5=w/\T 9=.int .i64 i/\T 10=.int .i64 k) _ ?_ i t H n ⟨0,by omega,by omega,s0,by simpa[Ua]using hcc,e0,e5,e9,e10⟩
 rintro d T H' n' ⟨k,hk,hn,s1,hcc,e0,e5,e9,e10⟩
 unfold S159L2
 have hw':=hw.li.keep' (H':=H') fun i o a k e=>s1 i (hw.li.2 i o a k e) (hw.oc i o a k e)
 by_cases hlt:(k:Int) < (i:Int)
 ·have hlt':k < i:=by omega
  have g1:=hw'.tAll (i:=(k:Int)) Om Om
  have g2:=hw'.tAll (i:=(i:Int)) Om Om
  have hws:=wj (j:=k) (len:=i) hlt' Om
  have hsn:=fIdx_snoc (gi N (i:Int)) (gi N (k:Int)) (N.take k) 0
  have htk:N.take (k+1)=N.take k++[gi N (k:Int)]:=by rw[Wa (by omega:k < N.length),Yq]
  rw[← htk]at hsn
  by_cases heq:gi N (k:Int)=gi N (i:Int)
  ·have hst:=hcc.st 2 rfl
   refine W1 (Yj e0 e5 e9 e10 hlt g1 g2 (Ye heq hst hws)) ?_
   refine Wp.pure (Nxt.go (d - 1) Om ⟨k+1,by omega,by omega,fun i a b=>(Zf _ _ b).trans (s1 i a b),?_,Pp e0,Pp e5,Pp e9,Po⟩)
   rw[hsn,heq,decide_eq_true rfl,Bool.or_true,if_pos rfl]
   exact hcc.how 2 (by decide) Om (Ze _ _ _) (Zf _ _ hne)
  ·refine W1 (Yj e0 e5 e9 e10 hlt g1 g2 (Zu heq hws)) ?_
   refine Wp.pure (Nxt.go (d - 1) Om ⟨k+1,by omega,by omega,s1,?_,Pp e0,Pp e5,Pp e9,Po⟩)
   rw[hsn,decide_eq_false (Ne.symm heq),Bool.or_false]
   exact hcc.mv Om rfl rfl
 ·refine W0 (Ye e9 e10 hlt) ?_
  rw[show k=i by omega]at hcc
  exact Wp.pure (Nxt.exit ⟨So,s1,rfl,Pp e0,Pp e5,Pp e9,hcc.mv So rfl rfl⟩)
theorem k159 {c il n:Nat}{H:Hp}{v ul ud w:Value}{s:CS}{p:List Nd}{l:List Int}(h:CC c il n H v ul ud s)(h0:s.how=0)(hv:LO eNode c il n H v p)(hw:LO eInt c il n H w l)(hr:∀ x∈l,0<=x/\x < (p.length:Int)) (hl:l.length<=1000000):RtA Tryz.prog 159 [ptr c 0,w] c il H n (fun r H' n'=>∃ ns,New eStr n n' H' r ns/\ns.length<=4/\((Ys p l).2=0->ns=(Ys p l).1)/\CC c il n' H' v ul ud ⟨(Ys p l).2,s.L,s.D⟩):=by
 apply RtA.of
 rw[c159];unfold S159
 have hbz:∀ (id:Nat) (H:Hp),Xx id 1 0 [.string ⟨#[]⟩] [] H=some (sl id 0 0,H.set id (some (.row [] 1 true))):=fun id H=>bsl_zn id _ 1 H rfl
 have hcn:=h.cn
 have hil:=h.iln
 have hne:=h.ne
 have hs0:s=⟨0,s.L,s.D⟩:=by cases s;simp only at h0;subst h0;rfl
 have key:∀ (T:Tm) (H1:Hp) (n1:Nat) (x0:Int),n+6<=n1->(∀ i,i < n->i≠c->H1 i=H i)->CC c il n1 H1 v ul ud ⟨x0,s.L,s.D⟩->At eStr (n+1) H1 (sl (n+1) 0 0) []->(x0=0/\l.length<=4∨x0=1/\Ys p l=([],1))->T 0=ptr c 0->T 1=w->T 5=sl (n+1) 0 0->T 6=.int .i64 0 ->
   Wp ((Zm (S159L0 (Call Tryz.prog) Zm) T H1 n1).bind fun o9=>(Zm (S159L1 (Call Tryz.prog) Zm) (put o9.t 9 (.int .i64 0)) o9.H (o9.n+1)).bind fun o33=>some (o33.t 5,o33.H,o33.n+2)) (fun q=>n<=q.2.2/\(∀ i,i < n->i≠c->i≠il->q.2.1 i=H i)/\∃ ns,New eStr n q.2.2 q.2.1 q.1 ns/\ns.length<=4/\((Ys p l).2=0->ns=(Ys p l).1)/\CC c il q.2.2 q.2.1 v ul ud ⟨(Ys p l).2,s.L,s.D⟩):=by
  intro T H1 n1 x0 hn1 s1 hcc hat hx0 e0 e1 e5 e6
  refine Wp.bind (l0159 h hv hw hr hl x0 hx0 T H1 n1 (n+1) (sl (n+1) 0 0) Om s1 hcc Om Om hat e0 e1 e5 e6) ?_
  rintro⟨oe,ot,oH,on⟩ ⟨f1,f2,rfl,f4,x,id,u,ns,f5,f6,f7,f8,f9,f10,f11⟩
  simp only at f1 f2 f4 f5 f7 f8 f9
  have hL5:LO eStr c il on oH u ns:=f9.lo f7 Om Om
  refine Wp.bind (Zt (fun d T H' n'=>∃ (j:Nat) (y:Int),j+d=ns.length+1/\1<=d/\on<=n'/\(∀ i,i < on->i≠c->H' i=oH i)/\CC c il n' H' v ul ud ⟨y,s.L,s.D⟩/\T 0=ptr c 0/\T 5=u/\T 9=.int .i64 j/\((y=0/\x=0/\∀ i:Nat,i < j->Ua (gi ns (i:Int)) (ns.take i) 0=none)∨(y=x/\x=1)∨(y=2/\x=0/\noDup ns=false))) (fun o=>on<=o.n/\(∀ i,i < on->i≠c->o.H i=oH i)/\o.e=.exit 2/\o.t 5=u/\∃ y,CC c il o.n o.H v ul ud ⟨y,s.L,s.D⟩/\((y=0/\x=0/\noDup ns=true)∨(y=x/\x=1)∨(y=2/\x=0/\noDup ns=false))) ?_ (ns.length+1) _ _ _ ⟨0,x,by omega,by omega,So,fun _ _ _=>rfl,f5.mv So rfl rfl,Pp f4,Pp f8,Po,?_⟩) ?_
  ·rintro d T H' n' ⟨j,y,hj,hd,hn,t1,hcc',e0,e5,e9,hy⟩
   unfold S159L1
   have hw':=hL5.li.keep' (H':=H') fun i o a k e=>t1 i (hL5.li.2 i o a k e) (hL5.oc i o a k e)
   have hc:=hcc'.hc
   simp only at hc
   by_cases hlt:(j:Int) < ns.length
   ·rcases hy with⟨rfl,hx,hno⟩|⟨rfl,hx⟩|⟨rfl,hx,hdup⟩
    ·have hws:=wj (j:=j) (len:=ns.length) Om Om
     refine W1 (Xq e0 e5 e9 hw'.len hlt hc) ?_
     refine Wp.bind (l2159 hcc' (⟨hw'.mv Om (fun _ _=>rfl),hL5.oc,hL5.oi⟩:LO eStr c il n' H' u ns) f10 j Om _ _ _ Om (fun _ _ _=>rfl) (hcc'.mv Om rfl rfl) (Pp e0) (Pp e5) (Pp e9) Po) ?_
     rintro⟨pe,pt,pH,pn⟩ ⟨g1,g2,rfl,g4,g5,g6,g7⟩
     simp only at g1 g2 g4 g5 g6 g7
     refine W0 (Zu g6 hws) ?_
     cases hf:Ua (gi ns (j:Int)) (ns.take j) 0 with
     | none=>
      rw[hf]at g7
      refine Wp.pure (Nxt.go (d - 1) Om ⟨j+1,0,by omega,by omega,by omega,fun i a b=>(g2 i Om b).trans (t1 i a b),g7.mv Om rfl rfl,Pp g4,Pp g5,Po,.inl ⟨rfl,hx,fun i hi=>?_⟩⟩)
      by_cases hij:i=j
      ·subst hij;exact hf
      ·exact hno i Om
     | some k=>
      rw[hf]at g7
      exact Wp.pure (Nxt.go (d - 1) Om ⟨j+1,2,by omega,by omega,by omega,fun i a b=>(g2 i Om b).trans (t1 i a b),g7.mv Om rfl rfl,Pp g4,Pp g5,Po,.inr (.inr ⟨rfl,hx,noDup_not Om hf⟩)⟩)
    ·refine W1 (Yj e0 e5 e9 hw'.len hlt hc hx (show¬ (1:Int)=0 by decide)) ?_
     exact Wp.pure (Nxt.exit ⟨So,t1,rfl,Pp e5,_,hcc'.mv So rfl rfl,.inr (.inl ⟨rfl,hx⟩)⟩)
    ·refine W1 (Wt e0 e5 e9 hw'.len hlt hc (show¬ (2:Int)=0 by decide)) ?_
     exact Wp.pure (Nxt.exit ⟨So,t1,rfl,Pp e5,_,hcc'.mv So rfl rfl,.inr (.inr ⟨rfl,hx,hdup⟩)⟩)
   ·refine W1 (Xm e0 e5 e9 hw'.len hlt) ?_
    refine Wp.pure (Nxt.exit ⟨So,t1,rfl,Pp e5,_,hcc'.mv So rfl rfl,?_⟩)
    rcases hy with⟨rfl,hx,hno⟩|hy|hy
    ·exact .inl ⟨rfl,hx,noDup_range (fun i hi=>hno i Om)⟩
    ·exact .inr (.inl hy)
    ·exact .inr (.inr hy)
  ·rcases f11 with⟨hx,_⟩|⟨hx,_⟩
   ·exact .inl ⟨hx,hx,by omega⟩
   ·exact .inr (.inl ⟨rfl,hx⟩)
  ·rintro⟨pe,pt,pH,pn⟩ ⟨g1,g2,rfl,g4,y,g5,g6⟩
   simp only at g1 g2 g4 g5
   have hN:(Ys p l).2=y/\(y=0->ns=(Ys p l).1):=by
    rcases g6 with⟨rfl,hx,hd⟩|⟨rfl,hx⟩|⟨rfl,hx,hd⟩
    ·rcases f11 with⟨_,hl4,hvar,rfl⟩|⟨h1,_⟩
     ·rw[cNames_ok hvar hl4 hd];exact⟨rfl,fun _=>rfl⟩
     ·omega
    ·rcases f11 with⟨h1,_⟩|⟨_,hb⟩
     ·omega
     ·rw[hb,hx];exact⟨rfl,fun h=>by omega⟩
    ·rcases f11 with⟨_,hl4,hvar,rfl⟩|⟨h1,_⟩
     ·rw[cNames_dup hvar hl4 hd];exact⟨rfl,fun h=>by omega⟩
     ·omega
   refine Wp.pure ⟨So,fun i a b _=>?_,ns,⟨id,f6,So,?_⟩,f10,fun h=>hN.2 (by rw[← hN.1];exact h),by rw[hN.1];exact g5.mv So rfl rfl⟩
   ·show pH i=H i
    rw[g2 i Om b];exact f2 i a b
   ·show At eStr id pH (pt 5) ns
    rw[g4];exact f9.mv (g2 id f7 Om)
 by_cases h4:(4:Int) < (l.length:Int)
 ·have hst:=h.st 1 (H':=H.set (n+1) (some (.row [] 1 true))) (Zf _ _ Om)
  refine W1 (Yv hbz hw.li.len h4 hst) ?_
  exact key _ _ _ 1 Om (fun i a b=>by simp(disch:=omega) only[Zf]) (h.how 1 (by decide) Om (Ze _ _ _) (by simp(disch:=omega) only[Zf])) (.inr ⟨rfl,by simp(disch:=omega) only[Zf,Ze];rfl⟩) (.inr ⟨rfl,cNames_long Om⟩) Pa Pa Po Po
 ·refine W1 (Ye hbz hw.li.len h4) ?_
  exact key _ _ _ 0 Om (fun i a b=>by simp(disch:=omega) only[Zf]) (by rw[← hs0];exact h.mv Om (Zf _ _ Om) (Zf _ _ Om)) (.inr ⟨rfl,Ze _ _ _⟩) (.inl ⟨rfl,by omega⟩) Pa Pa Po Po
def XR (f:Nat)(v:Value)(p:List Nd)(E:CEx)(x:Int):Prop:=∀ (c il n:Nat)(H:Hp)(ul ud ew:Value)(s:CS)(e:Env),CC c il n H v ul ud s->LO eNode c il n H v p->EnvOk e->e.length+x.toNat<=90000->EV c il n H ew e ->
 RtA Tryz.prog f [ptr c 0,.int .i64 x,ew] c il H n (fun r H' n'=>r=.tuple ⟨[]⟩/\NextW c il n n' H' v ud (E x e s))
theorem body_stop {E:CEx}(hg:∀ v e,Goes (E v e)){e:Env}{l:List Int}{s:CS}:∀ (d j:Nat),j+d=l.length->(Vm E e (l.take j) s).how≠0->Vm E e l s=Vm E e (l.take j) s
 | 0,j,hj,h=>by rw[List.take_of_length_le Om]
 | d+1,j,hj,h=>by
  have hn:=body_next E e l (show j < l.length by omega) s
  have e1:Vm E e (l.take (j+1)) s=Vm E e (l.take j) s:=by
   rw[hn]
   split
   ·rw[cPut_how h,(hg _ _ _).1 h]
   ·rw[(hg _ _ _).1 h]
  rw[← e1]
  exact body_stop hg d (j+1) Om (by rw[e1];exact h)
theorem k167 {v:Value}{p:List Nd}{E:CEx}{l:List Int}(hg:∀ v e,Goes (E v e)) (hE:∀ x∈l,XR 171 v p E x){c il n:Nat}{H:Hp}{ul ud w ew:Value}{s:CS}{e:Env}(h:CC c il n H v ul ud s)(hv:LO eNode c il n H v p)(he:EnvOk e)(hex:∀ x∈l,e.length+x.toNat<=90000)(hev:EV c il n H ew e)(hw:LO eInt c il n H w l)(hl:l.length<=1000000):RtA Tryz.prog 167 [ptr c 0,w,ew] c il H n (fun r H' n'=>r=.tuple ⟨[]⟩/\NextW c il n n' H' v ud (Vm E e l s)):=by
 apply RtA.of
 rw[c167];unfold S167
 have hcn:=h.cn
 have hil:=h.iln
 refine W0 trivial ?_
 refine Wp.bind (Zt (fun d T H' n'=>∃ (j:Nat) (ul':Value) (il':Nat) (a:CS),j+d=l.length+1/\1<=d/\n<=n'/\Kept c il n H H'/\(il'=il∨n<=il')/\CC c il' n' H' v ul' ud a/\Wk a (Vm E e (l.take j) s)/\T 0=ptr c 0/\T 1=w/\T 2=ew/\T 6=.int .i64 j) (fun o=>n<=o.n/\Kept c il n H o.H/\o.e=.exit 0/\NextW c il n o.n o.H v ud (Vm E e l s)) ?_ (l.length+1) _ _ _ ⟨0,ul,il,s,by omega,by omega,by omega,fun _ _ _ _=>rfl,.inl rfl,h.mv Om rfl rfl,Wk.refl _,Pa,Pa,Pa,Po⟩) ?_
 ·rintro d T H' n' ⟨j,ul',il',a,hj,hd,hn,s1,hi',h',hwk,e0,e1,e2,e6⟩
  unfold S167L0
  have hw':=hw.mv hn s1 hi'
  have hev':=hev.mv hn s1 hi'
  have hv':=hv.mv hn s1 hi'
  have hcn':=h'.cn
  have hil':=h'.iln
  have hc':=h'.hc
  by_cases hlt:(j:Int) < l.length
  ·have hlt':j < l.length:=by omega
   have g:=hw'.li.iAll (i:=(j:Int)) Om hlt
   have hmem:=Yb (l:=l) (i:=(j:Int)) Om hlt
   have hws:=wj (j:=j) (len:=l.length) hlt' Om
   have hnx:=body_next E e l hlt' s
   by_cases hh:a.how=0
   ·have ha:=hwk.2 (by rw[← hwk.1];exact hh)
    rw[← ha]at hnx
    by_cases hj0:(0:Int) < (j:Int)
    ·rw[if_pos Om]at hnx
     refine W1 (Yj e0 e1 e2 e6 hw'.li.len hlt hc' (Ye hh hj0 @bld_ins1)) ?_
     refine Zj (k168 (h'.mv Om rfl rfl) (Zw 9 0 0)) ?_
     rintro _ H2 n2 q2 s2 ⟨rfl,ul2,il2,i1,i2⟩
     have g2:=(hw'.mv (m:=n2) (il':=il2) Om (fun i a b c=>s2 i Om b c) Om).li.iAll (i:=(j:Int)) Om hlt
     refine W0 (Xm e0 e1 e2 e6 g2) ?_
     refine Zj (hE _ hmem c il2 _ _ ul2 ud ew _ e (i2.mv Om rfl rfl) (hv'.mv Om (fun i a b c=>s2 i Om b c) Om) he (hex _ hmem) (hev'.mv Om (fun i a b c=>s2 i Om b c) Om)) ?_
     rintro _ H3 n3 q3 s3 ⟨rfl,a3,w3,ul3,il3,j1,j2⟩
     rw[← hnx]at w3
     refine W0 (Zu e6 hws) ?_
     exact Wp.pure (Nxt.go (d - 1) Om ⟨j+1,ul3,il3,a3,by omega,by omega,by omega,fun i a b c=>by rw[s3 i Om b Om,s2 i Om b Om];exact s1 i a b c,by omega,j2.mv Om rfl rfl,w3,Pp e0,Pp e1,Pp e2,Po⟩)
    ·rw[if_neg Om]at hnx
     refine W1 (Yj e0 e1 e2 e6 hw'.li.len hlt hc' (Ye hh hj0 g)) ?_
     refine Zj (hE _ hmem c il' _ _ ul' ud ew _ e (h'.mv Om rfl rfl) (hv'.mv Om (fun _ _ _ _=>rfl) (.inl rfl)) he (hex _ hmem) (hev'.mv Om (fun _ _ _ _=>rfl) (.inl rfl))) ?_
     rintro _ H3 n3 q3 s3 ⟨rfl,a3,w3,ul3,il3,j1,j2⟩
     rw[← hnx]at w3
     refine W0 (Zu e6 hws) ?_
     exact Wp.pure (Nxt.go (d - 1) Om ⟨j+1,ul3,il3,a3,by omega,by omega,by omega,fun i a b c=>by rw[s3 i Om b Om];exact s1 i a b c,by omega,j2.mv Om rfl rfl,w3,Pp e0,Pp e1,Pp e2,Po⟩)
   ·refine W1 (Wt e0 e1 e6 hw'.li.len hlt hc' hh) ?_
    rw[← body_stop hg (l.length - j) j Om (by rw[← hwk.1];exact hh)]at hwk
    exact Wp.pure (Nxt.exit ⟨So,s1,rfl,a,hwk,ul',il',hi',h'.mv So rfl rfl⟩)
  ·refine W1 (Yv e1 e6 hw'.li.len hlt) ?_
   rw[List.take_of_length_le Om]at hwk
   exact Wp.pure (Nxt.exit ⟨So,s1,rfl,a,hwk,ul',il',hi',h'.mv So rfl rfl⟩)
 ·rintro⟨oe,ot,oH,on⟩ ⟨f1,f2,rfl,f3⟩
  simp only at f1 f2 f3
  refine W0 trivial ?_
  exact Wp.pure ⟨So,f2,rfl,f3⟩
theorem fun_head (s:CS)(k:Int):Wk (cTo s.L.length (Yu (Zw 5 0 0) (Yu (Zw 6 0 k) s))) (Yu (Zw 5 0 0) (Yu (Zw 6 (s.L.length+2) k) s))/\(Yu (Zw 6 0 k) s).L.length=(Yu (Zw 6 (s.L.length+2) k) s).L.length:=by
 by_cases h0:s.how=0
 ·by_cases h4:s.L.length=400
  ·have e1:∀ y,Yu (Zw 6 y k) s=⟨3,s.L,s.D⟩:=fun y=>by unfold Yu;rw[if_pos h0,if_pos h4]
   rw[e1,e1,cPut_how (by show(3:Int)≠0;decide),cTo_how (by show(3:Int)≠0;decide)]
   exact⟨Wk.refl _,rfl⟩
  ·have e1:∀ y,Yu (Zw 6 y k) s=⟨0,s.L++[Zw 6 y k],s.D⟩:=fun y=>by unfold Yu;rw[if_pos h0,if_neg h4]
   rw[e1,e1]
   refine⟨?_,by simp⟩
   by_cases h5:s.L.length+1=400
   ·have e2:∀ y,Yu (Zw 5 0 0) ⟨0,s.L++[Zw 6 y k],s.D⟩=⟨3,s.L++[Zw 6 y k],s.D⟩:=fun y=>by unfold Yu;rw[if_pos rfl,if_pos (by simpa using h5)]
    rw[e2,e2,cTo_how (by show(3:Int)≠0;decide)]
    exact⟨rfl,fun h=>by simp at h⟩
   ·have e2:∀ y,Yu (Zw 5 0 0) ⟨0,s.L++[Zw 6 y k],s.D⟩=⟨0,s.L++[Zw 6 y k]++[Zw 5 0 0],s.D⟩:=fun y=>by unfold Yu;rw[if_pos rfl,if_neg (by simpa using h5)]
    rw[e2,e2]
    unfold cTo
    rw[if_pos rfl]
    have:setN (s.L++[Zw 6 0 k]++[Zw 5 0 0]) s.L.length=s.L++[Zw 6 (s.L.length+2) k]++[Zw 5 0 0]:=by
     have hg:gi (s.L++[Zw 6 0 k]++[Zw 5 0 0]) (s.L.length:Int)=Zw 6 0 k:=by
      rw[gi_app (by simp;omega) Om,gi_last]
     unfold setN
     rw[hg,List.append_assoc,List.set_append_right _ _ (Nat.le_refl _),Nat.sub_self,List.append_assoc]
     simp[Zw]
    rw[this]
    exact Wk.refl _
 ·have e:∀ x,Yu x s=s:=fun x=>cPut_how h0
  simp only[e,cTo_how h0]
  exact⟨Wk.refl _,trivial⟩
theorem k175 {v:Value}{p:List Nd}{E:CEx}{l:List Int}(hg:∀ v e,Goes (E v e)) (hE:∀ x∈l,XR 171 v p E x){c il n:Nat}{H:Hp}{ul ud wn w ew:Value}{s:CS}{e:Env}{names:List ByteArray}(h:CC c il n H v ul ud s)(hv:LO eNode c il n H v p)(he:EnvOk e)(hex:∀ x∈l,e.length+1+x.toNat<=90000)(he2:e.length+1<=100000)(hnl:names.length<=4)(hev:EV c il n H ew e)(hwn:LO eStr c il n H wn names)(hw:LO eInt c il n H w l)(hl:l.length<=1000000):RtA Tryz.prog 175 [ptr c 0,wn,w,ew] c il H n (fun r H' n'=>r=.tuple ⟨[]⟩/\NextW c il n n' H' v ud (cFun E names l e s)):=by
 apply RtA.of
 rw[c175];unfold S175
 have hcn:=h.cn
 have hil:=h.iln
 obtain⟨hfh,hfl⟩:=fun_head s names.length
 refine W0 (Zu hwn.li.len @bld_ins3) ?_
 refine Zj (k168 (h.mv Om rfl rfl) (Zw 6 0 names.length)) ?_
 rintro _ H1 n1 q1 s1 ⟨rfl,ul1,il1,i1,h1⟩
 have hT1:=@cPut_len (Zw 6 0 names.length) s
 unfold cFun
 simp only
 generalize Yu (Zw 6 (s.L.length+2) names.length) s=S1 at *
 generalize Yu (Zw 6 0 names.length) s=T1 at *
 have hcn1:=h1.cn
 have hiln1:=h1.iln
 refine W0 @bld_ins1 ?_
 refine Zj (k168 (h1.mv Om rfl rfl) (Zw 5 0 0)) ?_
 rintro _ H2 n2 q2 s2 ⟨rfl,ul2,il2,i2,h2⟩
 have hT2:=@cPut_len (Zw 5 0 0) T1
 have hT20:=fun hh=>(Goes.put (Zw 5 0 0)).how0 (s:=T1) hh
 have hS2:=@cPut_len (Zw 5 0 0) S1
 generalize Yu (Zw 5 0 0) T1=T2 at *
 generalize Yu (Zw 5 0 0) S1=S2 at *
 have hcn2:=h2.cn
 have hiln2:=h2.iln
 refine W0 trivial ?_
 refine Zj (k174 (h2.mv Om rfl rfl) _ s.L.length (fun h0=>by
  have a1:=hT20 h0
  have:=hT1 a1
  have:=hT2 h0
  rw[if_pos a1]
  exact⟨rfl,by omega⟩)) ?_
 rintro _ H3 n3 q3 s3 ⟨rfl,h3⟩
 have hT30:=fun hh=>(Goes.to s.L.length).how0 (s:=T2) hh
 generalize cTo s.L.length T2=T3 at *
 have hk3:∀ i,i < n->i≠c->i≠il->H3 i=H i:=fun i a b d=>by rw[s3 i Om b Om,s2 i Om b Om,s1 i Om b d]
 have hiR:il2=il∨n<=il2:=by omega
 have hev3:=hev.mv (m:=n3) Om hk3 hiR
 have hv3:=hv.mv (m:=n3) Om hk3 hiR
 have hwn3:=hwn.mv (m:=n3) Om hk3 hiR
 have hw3:=hw.mv (m:=n3) Om hk3 hiR
 clear i1 i2
 obtain⟨ws,hws1,hws2,hws3⟩:=hev3.ex
 have hcn3:=h3.cn
 have hiln3:=h3.iln
 have hel:=he.1
 refine W0 (fun u0_=>bsl_v u0_ wn hwn.li.c1) ?_
 refine Wp.appL (E:=eVl) (l:=[wn]) (m:=ws) (id:=n3+3) (.inr ⟨rfl,Ze _ _ _⟩) (hws1.li.mv (m:=n3) (Nat.le_refl _) Mo) (by decide) (by simp;omega) ?_
 intro v4 H4 hat4 r2
 have hk4:∀ i,i < n3->H4 i=H3 i:=fun i hi=>by rw[r2 i Om Om];exact Zf _ _ Om
 have hev4:EV c il2 (n3+7) H4 v4 (names :: e):=by
  refine⟨[wn]++ws,hat4.lo Om Om Om,by simp[hws2],fun i a b=>?_⟩
  cases i with
  | zero=>exact⟨hwn3.mv Om (fun i a _ _=>hk4 i a) (.inl rfl),hwn.li.c1⟩
  | succ i=>
   have:=hws3 i (by simpa using a) (by simpa using b)
   exact⟨this.1.mv Om (fun i a _ _=>hk4 i a) (.inl rfl),this.2⟩
 refine W0 trivial ?_
 refine Zj (k167 (E:=E) (l:=l) hg hE (h3.mv (m:=n3+7) Om (hk4 c hcn3) (hk4 il2 hiln3)) (hv3.mv Om (fun i a _ _=>hk4 i a) (.inl rfl)) (e:=names :: e) ⟨by simp only[List.length_cons];omega,fun f hf=>by rcases List.mem_cons.1 hf with rfl|hf;exact hnl;exact he.2 f hf⟩ (fun x hx=>by have:=hex x hx;simp only[List.length_cons];omega) hev4 (hw3.mv Om (fun i a _ _=>hk4 i a) (.inl rfl)) hl) ?_
 rintro _ H5 n5 q5 s5 ⟨rfl,A5,w5,ul5,il5,i5,h5⟩
 have hG:=(Goes.body hg (names :: e) l)
 have w5':Wk A5 (Vm E (names :: e) l S2):=hfh.step hG w5
 have hB:=hG S2
 have hB0:=fun hh=>hG.how0 (s:=S2) hh
 clear w5
 generalize Vm E (names :: e) l S2=S5 at *
 have hcn5:=h5.cn
 have hiln5:=h5.iln
 refine W0 @bld_ins1 ?_
 refine Zj (k168 (h5.mv Om rfl rfl) (Zw 8 0 0)) ?_
 rintro _ H6 n6 q6 s6 ⟨rfl,ul6,il6,i6,h6⟩
 have w6:Wk (Yu (Zw 8 0 0) A5) (Yu (Zw 8 0 0) S5):=w5'.step (Goes.put _) (Wk.refl _)
 have hP:=Goes.put (Zw 8 0 0) S5
 have hP0:=fun hh=>(Goes.put (Zw 8 0 0)).how0 (s:=S5) hh
 generalize Yu (Zw 8 0 0) A5=A6 at *
 generalize Yu (Zw 8 0 0) S5=S6 at *
 refine W0 trivial ?_
 refine Zj (k174 (h6.mv Om rfl rfl) _ S1.L.length (fun h0=>by
  have a6:S6.how=0:=by rw[← w6.1];exact h0
  have a2:=hB0 (hP0 a6)
  have e6:=w6.2 a6
  have e3:=hfh.2 a2
  have a3:T2.how=0:=hT30 (by rw[e3];exact a2)
  have:=hS2 a2
  rw[if_pos a3,e6]
  exact⟨by rw[hfl],by omega⟩)) ?_
 rintro _ H7 n7 q7 s7 ⟨rfl,h7⟩
 refine W0 trivial ?_
 refine Wp.pure ⟨So,fun i a b d=>?_,rfl,_,w6.step (Goes.to S1.L.length) (Wk.refl _),ul6,il6,by omega,h7.mv So rfl rfl⟩
 show H7 i=H i
 have hil5:i≠il2:=by omega
 rw[s7 i Om b Om,s6 i Om b Om,s5 i Om b Om,hk4 i Om]
 exact hk3 i a b d
end Go.Proofs.YtcffcnipmgkjfaaGreat.Ax
