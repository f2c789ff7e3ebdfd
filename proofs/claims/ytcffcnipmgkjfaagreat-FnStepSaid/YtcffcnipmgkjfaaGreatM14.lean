/- What the law needs: laws of the abstract machine, and contracts of functions. -/
import Derived.Test.YtcffcnipmgkjfaaGreatM2
import Derived.Test.YtcffcnipmgkjfaaGreatM12
import Derived.Test.YtcffcnipmgkjfaaGreatM13
set_option linter.unusedVariables false
set_option linter.unusedSimpArgs false
set_option maxHeartbeats 8000000
namespace Go.Proofs.YtcffcnipmgkjfaaGreat.Ax
open Go
theorem NextW.of {c il n n':Nat}{H':Hp}{v ud:Value}{a b:CS}(h:Next c il n n' H' v ud a)(w:Wk a b):NextW c il n n' H' v ud b:=⟨a,w,h⟩
theorem k173 {v:Value}{p:List Nd}(hp:PoolOk p){E:CEx}{l:List Int}(hg:∀ v e,Goes (E v e)) (hE:∀ x∈l,XR 171 v p E x){c il n:Nat}{H:Hp}{ul ud wl ew:Value}{s:CS}{e:Env}{w:ByteArray}(h:CC c il n H v ul ud s)(hh:s.how=0)(hv:LO eNode c il n H v p)(he:EnvOk e)(hex:∀ x∈l,e.length+1+x.toNat<=90000)(hev:EV c il n H ew e)(hw:LO eInt c il n H wl l)(hr:∀ x∈l,0<=x/\x < (p.length:Int)) (hl:l.length<=100000):RtA Tryz.prog 173 [ptr c 0,.string w,wl,ew] c il H n (fun r H' n'=>r=.tuple ⟨[]⟩/\NextW c il n n' H' v ud (cForm E p w l e s)):=by
 apply RtA.of
 rw[c173];unfold S173
 rw[show(⟨#[113,117,111,116,101]⟩:ByteArray)=Vf from rfl,show(⟨#[105,102]⟩:ByteArray)=wIf from rfl,show(⟨#[100,111]⟩:ByteArray)=wDo from rfl,show(⟨#[102,110]⟩:ByteArray)=wFn from rfl,show(⟨#[108,101,116]⟩:ByteArray)=wLet from rfl]
 have hcn:=h.cn
 have hil:=h.iln
 have hne:=h.ne
 have hpl:=hp.2
 have hc:=h.hc
 have hlen:=hw.li.len
 have hcf:Xa 1 s=⟨1,s.L,s.D⟩:=by unfold Xa;rw[if_pos hh]
 have nwQuotewIf:¬ Vf=wIf:=by decide
 have nwQuotewDo:¬ Vf=wDo:=by decide
 have nwQuotewFn:¬ Vf=wFn:=by decide
 have nwQuotewLet:¬ Vf=wLet:=by decide
 have nwIfwQuote:¬ wIf=Vf:=by decide
 have nwIfwDo:¬ wIf=wDo:=by decide
 have nwIfwFn:¬ wIf=wFn:=by decide
 have nwIfwLet:¬ wIf=wLet:=by decide
 have nwDowQuote:¬ wDo=Vf:=by decide
 have nwDowIf:¬ wDo=wIf:=by decide
 have nwDowFn:¬ wDo=wFn:=by decide
 have nwDowLet:¬ wDo=wLet:=by decide
 have nwFnwQuote:¬ wFn=Vf:=by decide
 have nwFnwIf:¬ wFn=wIf:=by decide
 have nwFnwDo:¬ wFn=wDo:=by decide
 have nwFnwLet:¬ wFn=wLet:=by decide
 have nwLetwQuote:¬ wLet=Vf:=by decide
 have nwLetwIf:¬ wLet=wIf:=by decide
 have nwLetwDo:¬ wLet=wDo:=by decide
 have nwLetwFn:¬ wLet=wFn:=by decide
 have fin:∀ (H2:Hp) (n2:Nat) (S:CS),n<=n2->Kept c il n H H2->NextW c il n n2 H2 v ud S->S=cForm E p w l e s->Wp (some (Value.tuple ⟨[]⟩,H2,n2)) (fun q=>n<=q.2.2/\(∀ i,i < n->i≠c->i≠il->q.2.1 i=H i)/\q.1=.tuple ⟨[]⟩/\NextW c il n q.2.2 q.2.1 v ud (cForm E p w l e s)):=by
  intro H2 n2 S z1 z2 z3 z4
  exact Wp.pure ⟨z1,z2,rfl,by rw[← z4];exact z3⟩
 generalize hF:cForm E p w l e s=F at *
 by_cases e0:w=Vf
 ·subst e0
  by_cases hl2:l.length=2
  ·have hl2i:(l.length:Int)=2:=by omega
   have hF':F=Yu (Zw 1 (gi l 1) 0) s:=by rw[← hF];unfold cForm;simp[hl2]
   have g1:=hw.li.iAll (i:=1) Om Om
   refine W1 (Yv hlen hl2i g1 @bld_ins2) ?_
   refine Zj (k168 (h.mv Om rfl rfl) (Zw 1 (gi l 1) 0)) ?_
   rintro _ H2 n2 q2 s2 ⟨rfl,ul2,il2,i2,h2⟩
   refine W0 trivial ?_
   exact fin _ _ _ Om (fun i a b c=>s2 i Om b c) ⟨_,Wk.refl _,ul2,il2,by omega,h2.mv Om rfl rfl⟩ hF'.symm
  ·have hl2i:¬ (l.length:Int)=2:=by omega
   have hF':F=Xa 1 s:=by rw[← hF];unfold cForm;simp[hl2,nwQuotewIf,nwQuotewDo,nwQuotewFn,nwQuotewLet]
   have hst:=h.st 1 (H':=H) rfl
   refine W1 (Wt hlen hst hl2i nwQuotewIf nwQuotewDo nwQuotewFn nwQuotewLet) ?_
   exact fin _ _ _ Om (fun i a b c=>Zf _ _ b) ⟨_,Wk.refl _,ul,il,.inl rfl,h.how 1 (by decide) Om (Ze _ _ _) (Zf _ _ hne)⟩ (by rw[hF',hcf])
 by_cases e1:w=wIf
 ·subst e1
  by_cases hl2:l.length=4
  ·have hl2i:(l.length:Int)=4:=by omega
   have hF':F=cIf E l e s:=by rw[← hF];unfold cForm;simp[hl2,nwIfwQuote]
   have g1:=hw.li.iAll (i:=1) Om Om
   have m1:=Yb (l:=l) (i:=1) Om Om
   have m2:=Yb (l:=l) (i:=2) Om Om
   have m3:=Yb (l:=l) (i:=3) Om Om
   refine W1 (Yv hlen hl2i nwIfwQuote g1) ?_
   refine Zj (hE _ m1 c il _ _ ul ud ew s e (h.mv Om rfl rfl) (hv.mv Om (fun _ _ _ _=>rfl) (.inl rfl)) he (by have:=hex _ m1;omega) (hev.mv Om (fun _ _ _ _=>rfl) (.inl rfl))) ?_
   rintro _ H1 n1 q1 s1 ⟨rfl,A1,w1,ul1,il1,i1,h1⟩
   unfold cIf at hF'
   simp only at hF'
   generalize hS1:E (gi l 1) e s=S1 at *
   have hcn1:=h1.cn
   have hiln1:=h1.iln
   refine W0 @bld_ins1 ?_
   refine Zj (k168 (h1.mv Om rfl rfl) (Zw 4 0 0)) ?_
   rintro _ H2 n2 q2 s2 ⟨rfl,ul2,il2,i2,h2⟩
   have w2:Wk (Yu (Zw 4 0 0) A1) (Yu (Zw 4 0 0) S1):=w1.step (Goes.put _) (Wk.refl _)
   have hS2:=@cPut_len (Zw 4 0 0) S1
   have hS20:=fun hh=>(Goes.put (Zw 4 0 0)).how0 (s:=S1) hh
   generalize Yu (Zw 4 0 0) S1=S2 at *
   generalize Yu (Zw 4 0 0) A1=A2 at *
   have hk2:∀ i,i < n->i≠c->i≠il->H2 i=H i:=fun i a b d=>by rw[s2 i Om b Om,s1 i Om b d]
   have hiR2:il2=il∨n<=il2:=by omega
   clear i1 i2
   have hw2:=hw.mv (m:=n2) Om hk2 hiR2
   have hev2:=hev.mv (m:=n2) Om hk2 hiR2
   have hv2:=hv.mv (m:=n2) Om hk2 hiR2
   have g2:=hw2.li.iAll (i:=2) Om Om
   have hcn2:=h2.cn
   have hiln2:=h2.iln
   refine W0 g2 ?_
   refine Zj (hE _ m2 c il2 _ _ ul2 ud ew A2 e (h2.mv Om rfl rfl) (hv2.mv Om (fun _ _ _ _=>rfl) (.inl rfl)) he (by have:=hex _ m2;omega) (hev2.mv Om (fun _ _ _ _=>rfl) (.inl rfl))) ?_
   rintro _ H3 n3 q3 s3 ⟨rfl,A3,w3,ul3,il3,i3,h3⟩
   have w3:Wk A3 (E (gi l 2) e S2):=w2.step (hg _ _) w3
   have hG3:=hg (gi l 2) e S2
   have hG30:=fun hh=>(hg (gi l 2) e).how0 (s:=S2) hh
   generalize E (gi l 2) e S2=S3 at *
   have hcn3:=h3.cn
   have hiln3:=h3.iln
   refine W0 @bld_ins1 ?_
   refine Zj (k168 (h3.mv Om rfl rfl) (Zw 5 0 0)) ?_
   rintro _ H4 n4 q4 s4 ⟨rfl,ul4,il4,i4,h4⟩
   have w4:Wk (Yu (Zw 5 0 0) A3) (Yu (Zw 5 0 0) S3):=w3.step (Goes.put _) (Wk.refl _)
   have hS4:=@cPut_len (Zw 5 0 0) S3
   have hP0:=fun hh=>(Goes.put (Zw 5 0 0)).how0 (s:=S3) hh
   generalize Yu (Zw 5 0 0) S3=S4 at *
   generalize Yu (Zw 5 0 0) A3=A4 at *
   have hcn4:=h4.cn
   have hiln4:=h4.iln
   refine W0 trivial ?_
   refine Zj (k174 (h4.mv Om rfl rfl) _ S1.L.length (fun h0=>by
    have a4:S4.how=0:=by rw[← w4.1];exact h0
    have a3:=hP0 a4
    have a2:=hG30 a3
    have a1:=hS20 a2
    have b2:=hS2 a2
    have b4:=hS4 a4
    rw[if_pos (by rw[w2.1];exact a2),w1.2 a1,w4.2 a4]
    exact⟨rfl,by omega⟩)) ?_
   rintro _ H5 n5 q5 s5 ⟨rfl,h5⟩
   have w5:Wk (cTo S1.L.length A4) (cTo S1.L.length S4):=w4.step (Goes.to _) (Wk.refl _)
   have hT0:=fun hh=>(Goes.to S1.L.length).how0 (s:=S4) hh
   have hT:=Goes.to S1.L.length S4
   generalize cTo S1.L.length S4=S5 at *
   generalize cTo S1.L.length A4=A5 at *
   have hk5:∀ i,i < n->i≠c->i≠il->H5 i=H i:=fun i a b d=>by
    have hd:i≠il2:=by omega
    rw[s5 i Om b Om,s4 i Om b Om,s3 i Om b hd];exact hk2 i a b d
   have hiR4:il4=il∨n<=il4:=by omega
   clear i3 i4
   have hw5:=hw.mv (m:=n5) Om hk5 hiR4
   have hev5:=hev.mv (m:=n5) Om hk5 hiR4
   have hv5:=hv.mv (m:=n5) Om hk5 hiR4
   have g5:=hw5.li.iAll (i:=3) Om Om
   have hcn5:=h5.cn
   have hiln5:=h5.iln
   refine W0 g5 ?_
   refine Zj (hE _ m3 c il4 _ _ ul4 ud ew A5 e (h5.mv Om rfl rfl) (hv5.mv Om (fun _ _ _ _=>rfl) (.inl rfl)) he (by have:=hex _ m3;omega) (hev5.mv Om (fun _ _ _ _=>rfl) (.inl rfl))) ?_
   rintro _ H6 n6 q6 s6 ⟨rfl,A6,w6,ul6,il6,i6,h6⟩
   have w6:Wk A6 (E (gi l 3) e S5):=w5.step (hg _ _) w6
   have hG6:=hg (gi l 3) e S5
   have hG60:=fun hh=>(hg (gi l 3) e).how0 (s:=S5) hh
   generalize E (gi l 3) e S5=S6 at *
   refine W0 trivial ?_
   refine Zj (k174 (h6.mv Om rfl rfl) _ S3.L.length (fun h0=>by
    have a6:S6.how=0:=by rw[← w6.1];exact h0
    have a5:=hG60 a6
    have a4:=hT0 a5
    have a3:=hP0 a4
    have b4:=hS4 a4
    rw[if_pos (by rw[w4.1];exact a4),w3.2 a3,w6.2 a6]
    exact⟨rfl,by omega⟩)) ?_
   rintro _ H7 n7 q7 s7 ⟨rfl,h7⟩
   refine W0 trivial ?_
   exact fin _ _ _ Om (fun i a b d=>by
    have hd:i≠il4:=by omega
    rw[s7 i Om b Om,s6 i Om b hd]
    exact hk5 i a b d) ⟨_,w6.step (Goes.to S3.L.length) (Wk.refl _),ul6,il6,by omega,h7.mv Om rfl rfl⟩ hF'.symm
  ·have hl2i:¬ (l.length:Int)=4:=by omega
   have hF':F=Xa 1 s:=by rw[← hF];unfold cForm;simp[hl2,nwIfwQuote,nwIfwDo,nwIfwFn,nwIfwLet]
   have hst:=h.st 1 (H':=H) rfl
   refine W1 (Wt hlen hst hl2i nwIfwQuote nwIfwDo nwIfwFn nwIfwLet) ?_
   exact fin _ _ _ Om (fun i a b c=>Zf _ _ b) ⟨_,Wk.refl _,ul,il,.inl rfl,h.how 1 (by decide) Om (Ze _ _ _) (Zf _ _ hne)⟩ (by rw[hF',hcf])
 by_cases e2:w=wDo
 ·subst e2
  by_cases hl2:1 < l.length
  ·have hl2i:(2:Int)<=(l.length:Int):=by omega
   have hF':F=Vm E e (l.drop 1) s:=by rw[← hF];unfold cForm;simp[hl2,nwDowQuote,nwDowIf]
   obtain⟨w1,hs1,hw1⟩:=hw.tail (by decide) 1 Om
   have hs1':Yt 1 wl (some (.int .i64 1)) none=some w1:=hs1
   refine W1 (Xm hlen hl2i nwDowQuote nwDowIf hs1') ?_
   refine Zj (k167 hg (fun x hx=>hE x (List.mem_of_mem_drop hx)) (h.mv Om rfl rfl) (hv.mv Om (fun _ _ _ _=>rfl) (.inl rfl)) he (fun x hx=>by have:=hex x (List.mem_of_mem_drop hx);omega) (hev.mv Om (fun _ _ _ _=>rfl) (.inl rfl)) (hw1.mv Om (fun _ _ _ _=>rfl) (.inl rfl)) (by rw[List.length_drop];omega)) ?_
   rintro _ H2 n2 q2 s2 ⟨rfl,A2,w2,ul2,il2,i2,h2⟩
   refine W0 trivial ?_
   exact fin _ _ _ Om (fun i a b c=>s2 i Om b c) ⟨A2,w2,ul2,il2,by omega,h2.mv Om rfl rfl⟩ hF'.symm
  ·have hl2i:¬ (2:Int)<=(l.length:Int):=by omega
   have hF':F=Xa 1 s:=by rw[← hF];unfold cForm;simp[hl2,nwDowQuote,nwDowIf,nwDowFn,nwDowLet]
   have hst:=h.st 1 (H':=H) rfl
   refine W1 (Wt hlen hst hl2i nwDowQuote nwDowIf nwDowFn nwDowLet) ?_
   exact fin _ _ _ Om (fun i a b c=>Zf _ _ b) ⟨_,Wk.refl _,ul,il,.inl rfl,h.how 1 (by decide) Om (Ze _ _ _) (Zf _ _ hne)⟩ (by rw[hF',hcf])
 by_cases e3:w=wFn
 ·subst e3
  by_cases hl2:2 < l.length
  ·have hl2i:(3:Int)<=(l.length:Int):=by omega
   have m1:=Yb (l:=l) (i:=1) Om Om
   have r1:=hr _ m1
   have g1:=hw.li.iAll (i:=1) Om Om
   have hF':F=(if(Zi p (gi l 1)).2=true then cFn E p (Zi p (gi l 1)).1 (l.drop 2) e s else Xa 1 s):=by rw[← hF];unfold cForm;simp[hl2,nwFnwQuote,nwFnwIf,nwFnwDo]
   obtain⟨w1,hs1,hw1⟩:=hw.tail (by decide) 2 Om
   have hs1':Yt 1 wl (some (.int .i64 2)) none=some w1:=hs1
   refine W1 (Wt hlen hl2i nwFnwQuote nwFnwIf nwFnwDo g1 hc) ?_
   refine Ya (k139 (hv.li.mv Om (fun _ _=>rfl)) hp _ r1.1 r1.2) ?_
   rintro _ H2 n2 q2 s2 ⟨up,rfl,hup⟩
   have hnt:notTup up=true:=by obtain⟨_,_,_,hat⟩:=hup;rcases hat with⟨h,_⟩|⟨h,_⟩ <;> rw[h] <;> rfl
   by_cases hch:(Zi p (gi l 1)).2=true
   case neg=>
    have hlo:Wc p (gi l 1)=([],false):=by unfold Wc;rw[if_neg hch]
    rw[if_neg hch]at hF'
    have hst:=h.st 1 (H':=H2) (s2 c Om)
    refine W1 (Ye hnt hlo hst) ?_
    exact fin _ _ _ Om (fun i a b c=>(Zf _ _ b).trans (s2 i Om)) ⟨_,Wk.refl _,ul,il,.inl rfl,h.how 1 (by decide) Om (Ze _ _ _) ((Zf _ _ hne).trans (s2 il Om))⟩ (by rw[hF',hcf])
   have hlo:Wc p (gi l 1)=((Zi p (gi l 1)).1,true):=by unfold Wc;rw[if_pos hch]
   rw[if_pos hch]at hF'
   rw[hlo]at hup
   simp only at hup
   have hmm:=chainOf_mem hp r1.1 r1.2
   have hcl:=Vr r1.1 r1.2
   obtain⟨idp,p1,p2,p3⟩:=hup
   refine W0 (Zu hnt hlo) ?_
   refine Zj (k159 (l:=(Zi p (gi l 1)).1) (h.mv Om (s2 c Om) (s2 il Om)) hh (hv.mv Om (fun i a _ _=>s2 i Om) (.inl rfl)) (p3.lo Om Om Om) (fun x hx=>by have:=hmm x hx;omega) Om) ?_
   rintro un H3 n3 q3 s3 ⟨ns,hun,hnl,hnn,h3⟩
   have hk3:Kept c il n H H3:=fun i a b c=>(s3 i Om b c).trans (s2 i Om)
   refine W0 hs1' ?_
   refine Zj (k175 hg (fun x hx=>hE x (List.mem_of_mem_drop hx)) (h3.mv Om rfl rfl) (hv.mv Om hk3 (.inl rfl)) he (fun x hx=>hex x (List.mem_of_mem_drop hx)) (by have:=hex _ m1;omega) hnl (hev.mv Om hk3 (.inl rfl)) ((hun.lo Om Om).mv Om (fun _ _ _ _=>rfl) (.inl rfl)) (hw1.mv Om hk3 (.inl rfl)) (by rw[List.length_drop];omega)) ?_
   rintro _ H4 n4 q4 s4 ⟨rfl,A4,w4,ul4,il4,i4,h4⟩
   refine W0 trivial ?_
   refine fin _ _ _ Om (fun i a b c=>(s4 i Om b c).trans (hk3 i a b c)) ⟨A4,w4,ul4,il4,by omega,h4.mv Om rfl rfl⟩ ?_
   rw[hF']
   unfold cFn
   by_cases hn0:(Ys p (Zi p (gi l 1)).1).2=0
   ·rw[if_pos hn0,hnn hn0,hn0,← hh]
   ·rw[if_neg hn0,(Goes.fun_ hg ns (l.drop 2) e _).1 hn0]
    unfold Xa;rw[if_pos hh]
  ·have hl2i:¬ (3:Int)<=(l.length:Int):=by omega
   have hF':F=Xa 1 s:=by rw[← hF];unfold cForm;simp[hl2,nwFnwQuote,nwFnwIf,nwFnwDo,nwFnwLet]
   have hst:=h.st 1 (H':=H) rfl
   refine W1 (Wt hlen hst hl2i nwFnwQuote nwFnwIf nwFnwDo nwFnwLet) ?_
   exact fin _ _ _ Om (fun i a b c=>Zf _ _ b) ⟨_,Wk.refl _,ul,il,.inl rfl,h.how 1 (by decide) Om (Ze _ _ _) (Zf _ _ hne)⟩ (by rw[hF',hcf])
 by_cases e4:w=wLet
 ·subst e4
  by_cases hl2:3 < l.length
  ·have hl2i:(4:Int)<=(l.length:Int):=by omega
   have m1:=Yb (l:=l) (i:=1) Om Om
   have m2:=Yb (l:=l) (i:=2) Om Om
   have r1:=hr _ m1
   have hF':F=(if(Ys p [gi l 1]).2=0 then Yu (Zw 7 0 1) (E (gi l 2) e (cFun E (Ys p [gi l 1]).1 (l.drop 3) e s))else Xa (Ys p [gi l 1]).2 s):=by rw[← hF];unfold cForm;simp[hl2,nwLetwQuote,nwLetwIf,nwLetwDo,nwLetwFn]
   obtain⟨w0,hs0,hw0⟩:=hw.one1 Om
   obtain⟨w1,hs1,hw1⟩:=hw.tail (by decide) 3 Om
   have hs1':Yt 1 wl (some (.int .i64 3)) none=some w1:=hs1
   refine W1 (Wt hlen hl2i nwLetwQuote nwLetwIf nwLetwDo nwLetwFn hs0) ?_
   refine Zj (k159 (h.mv Om rfl rfl) hh (hv.mv Om (fun _ _ _ _=>rfl) (.inl rfl)) (hw0.mv Om (fun _ _ _ _=>rfl) (.inl rfl)) (fun x hx=>by simp at hx;rw[hx];exact r1) (by simp)) ?_
   rintro un H3 n3 q3 s3 ⟨ns,hun,hnl,hnn,h3⟩
   have hk3:Kept c il n H H3:=fun i a b c=>(s3 i Om b c)
   refine W0 hs1' ?_
   refine Zj (k175 hg (fun x hx=>hE x (List.mem_of_mem_drop hx)) (h3.mv Om rfl rfl) (hv.mv Om hk3 (.inl rfl)) he (fun x hx=>hex x (List.mem_of_mem_drop hx)) (by have:=hex _ m1;omega) hnl (hev.mv Om hk3 (.inl rfl)) ((hun.lo Om Om).mv Om (fun _ _ _ _=>rfl) (.inl rfl)) (hw1.mv Om hk3 (.inl rfl)) (by rw[List.length_drop];omega)) ?_
   rintro _ H4 n4 q4 s4 ⟨rfl,A4,w4,ul4,il4,i4,h4⟩
   have hk4:Kept c il n H H4:=fun i a b c=>(s4 i Om b c).trans (hk3 i a b c)
   have hiR:il4=il∨n<=il4:=by omega
   have g2:=(hw.mv (m:=n4) Om hk4 hiR).li.iAll (i:=2) Om Om
   have hcn4:=h4.cn
   have hiln4:=h4.iln
   refine W0 g2 ?_
   refine Zj (hE _ m2 c il4 _ _ ul4 ud ew _ e (h4.mv Om rfl rfl) (hv.mv Om hk4 hiR) he (by have:=hex _ m2;omega) (hev.mv Om hk4 hiR)) ?_
   rintro _ H5 n5 q5 s5 ⟨rfl,A5,w5,ul5,il5,i5,h5⟩
   have w5:Wk A5 (E (gi l 2) e (cFun E ns (l.drop 3) e ⟨(Ys p [gi l 1]).2,s.L,s.D⟩)):=w4.step (hg _ _) w5
   have hcn5:=h5.cn
   have hiln5:=h5.iln
   refine W0 @bld_ins3 ?_
   refine Zj (k168 (h5.mv Om rfl rfl) (Zw 7 0 1)) ?_
   rintro _ H6 n6 q6 s6 ⟨rfl,ul6,il6,i6,h6⟩
   have w6:=w5.step (Goes.put (Zw 7 0 1)) (Wk.refl _)
   refine W0 trivial ?_
   refine fin _ _ _ Om (fun i a b c=>by
    have hd:i≠il4:=by omega
    rw[s6 i Om b Om,s5 i Om b hd];exact hk4 i a b c) ⟨_,w6,ul6,il6,by omega,h6.mv Om rfl rfl⟩ ?_
   rw[hF']
   by_cases hn0:(Ys p [gi l 1]).2=0
   ·rw[if_pos hn0,hnn hn0,hn0,← hh]
   ·rw[if_neg hn0,(Goes.fun_ hg ns (l.drop 3) e _).1 hn0,(hg (gi l 2) e _).1 hn0,cPut_how hn0]
    unfold Xa;rw[if_pos hh]
  ·have hl2i:¬ (4:Int)<=(l.length:Int):=by omega
   have hF':F=Xa 1 s:=by rw[← hF];unfold cForm;simp[hl2,nwLetwQuote,nwLetwIf,nwLetwDo,nwLetwFn]
   have hst:=h.st 1 (H':=H) rfl
   refine W1 (Wt hlen hst hl2i nwLetwQuote nwLetwIf nwLetwDo nwLetwFn) ?_
   exact fin _ _ _ Om (fun i a b c=>Zf _ _ b) ⟨_,Wk.refl _,ul,il,.inl rfl,h.how 1 (by decide) Om (Ze _ _ _) (Zf _ _ hne)⟩ (by rw[hF',hcf])
 have hF':F=Xa 1 s:=by rw[← hF];unfold cForm;simp[e0,e1,e2,e3,e4]
 have hst:=h.st 1 (H':=H) rfl
 refine W1 (Wt hlen hst e0 e1 e2 e3 e4) ?_
 exact fin _ _ _ Om (fun i a b c=>Zf _ _ b) ⟨_,Wk.refl _,ul,il,.inl rfl,h.how 1 (by decide) Om (Ze _ _ _) (Zf _ _ hne)⟩ (by rw[hF',hcf])
end Go.Proofs.YtcffcnipmgkjfaaGreat.Ax
