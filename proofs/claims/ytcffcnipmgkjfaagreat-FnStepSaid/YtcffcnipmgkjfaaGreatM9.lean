/- What the law needs: laws of the abstract machine, and contracts of functions. -/
import Derived.Test.YtcffcnipmgkjfaaGreatM2
import Derived.Test.YtcffcnipmgkjfaaGreatM8
import Derived.Test.YtcffcnipmgkjfaaGreatM3
import Derived.Test.YtcffcnipmgkjfaaGreatM7
import Derived.Test.YtcffcnipmgkjfaaGreatM6
set_option linter.unusedVariables false
set_option linter.unusedSimpArgs false
set_option maxHeartbeats 8000000
namespace Go.Proofs.YtcffcnipmgkjfaaGreat.Ax
open Go
def DoR (c id n:Nat)(H:Hp)(res:MR)(o:Out):Prop :=
 n<=o.n/\(∀ i,i < n->i≠c->i≠id->o.H i=H i)/\∃ m' v' id',(n<=id'∨id'=id)/\SM c id' o.n o.H [] v' m' /\
  ((o.e=.normal/\o.t 1=ptr c 0/\∃ nx,o.t 7=.int .i64 nx/\res=.ok { m' with a:=nx })∨(o.e=.ret/\∃ q,o.t 6=.int .i64 q/\(match res with|.ok m1=>q=0/\m'=m1|.error h=>q=h/\h≠0)))
def doM (l:List Nd)(li:List Ins)(ld:List Df)(x:Ins)(m:Mc):MR:=if x.op=7 then Wx li.length x.i m else if x.op=8 then mBack m else mPlain l ld x m
theorem k52 {n0 c id n:Nat}{H:Hp}{v x1 x2 x3:Value}{m:Mc}{l:List Nd}{li:List Ins}{ld:List Df}{b:Nat}(h:SM c id n H [] v m)(hw:Wf b m)(hb:b<=3000)(hC:Cd n0 H x1 x2 x3 l li ld)(hn0:n0<=c/\n0<=id)(hk:Xd l li ld)(hp:PoolOk m.p)(x:Ins)(ha:0<=m.a/\m.a<=(li.length:Int) - 1) (hx:InsOk x l.length li.length m.a) :
  RtA Tryz.prog 52 [.agg ⟨[x1,x2,x3]⟩,ptr c 0,.agg ⟨x.cells⟩] c id H n (MRes (doM l li ld x m) c id n []):=by
 apply RtA.of
 rw[c52];unfold S52
 have hll:=hk.2.1
 have hlp:=hk.1.2
 have hrg:=hx.rng Om Om ha.1
 have hc:H c=some (.row [v,.int .i64 m.a,.int .i64 m.s,.int .i64 m.e,.int .i64 m.d,.int .i64 m.t,.int .i64 m.k,.int .i64 m.r] 0 true):=h.hc
 have hcn:=h.cn
 have hid:=h.idn
 have hne:=h.ne
 have hl:=hw.len
 have wA:IntKind.i64.wrap (m.a+1)=m.a+1:=Wo Om
 generalize hres:doM l li ld x m=res
 unfold doM mPlain at hres
 obtain⟨xo,xn,xi,xs⟩:=x
 simp only at hrg hres
 refine W1 (Ye @Ins.cells.eq_1 hc wA) ?_
 generalize hH1:(H.set n (some (.row [x1,x2,x3] 0 true))).set (n+1) (some (.row [.int .i64 xo,.int .i64 xn,.int .i64 xi,.string xs] 0 true))=H1
 have s1:∀ i,i < n->H1 i=H i:=fun i hi=>by rw[← hH1];simp(disch:=omega) only[Zf]
 have ba:H1 n=some (.row [x1,x2,x3] 0 true):=by rw[← hH1,Zf _ _ Om];exact Ze _ _ _
 have bb:H1 (n+1)=some (.row [.int .i64 xo,.int .i64 xn,.int .i64 xi,.string xs] 0 true):=by rw[← hH1];exact Ze _ _ _
 have hc1:H1 c=some (.row [v,.int .i64 m.a,.int .i64 m.s,.int .i64 m.e,.int .i64 m.d,.int .i64 m.t,.int .i64 m.k,.int .i64 m.r] 0 true):=by rw[s1 _ hcn];exact hc
 clear hH1
 have hS1:∀ k,n<=k->SM c id k H1 [] v m:=fun k hk=>h.mv hk (s1 _ hcn) (s1 _ hid)
 have hC1:Cd n0 H1 x1 x2 x3 l li ld:=hC.mv (fun i hi=>s1 i Om)
 refine Wp.bind (R:=DoR c id n H res) ?_ ?_
 ·by_cases c1:xo=1
  ·rw[decide_eq_true c1]
   rw[if_neg Om,if_neg Om,if_pos c1]at hres
   rw[c1]at bb
   have hxn:0<=xn/\xn < (l.length:Int):=by
    rcases hx with hx|hx|hx|hx|hx|hx|hx <;> simp only at hx <;> omega
   have hcl:=cpRun_len m.p l xn
   refine W1 (Zu ba bb) ?_
   refine Zj (k84 (hS1 _ Om) (hC1.p.up Om) (hC1.p.off Om) (hC1.p.off Om) hk.1 xn hxn Om) ?_
   rintro _ H2 n2 q2 s2 ⟨rfl,v2,id2,i2,hS2⟩
   refine W0 trivial ?_
   refine Zj (kM83 (m:={ m with p:=(Xy m.p l xn).1 }) (hS2.mv Om rfl rfl) So _) ?_
   rintro _ H3 n3 q3 s3 ⟨rfl,v3,id3,i3,hS3⟩
   refine W0 trivial ?_
   have hi2:n<=id2∨id2=id:=by omega
   exact Wp.pure ⟨So,fun i a1 a2 a3=>by simp only;rw[s3 i Om a2 Om,s2 i Om a2 a3,s1 _ a1],_,v3,id3,.inl (by have:=hS2.idn;omega),hS3,.inl ⟨rfl,Pa,m.a+1,Po,hres.symm⟩⟩
  rw[decide_eq_false c1]
  by_cases c2:xo=2
  ·rw[if_neg Om,if_neg Om,if_neg c1,if_pos c2]at hres
   have hx20:xn<=20/\xi<=3:=by
    rcases hx with hx|hx|hx|hx|hx|hx|hx <;> simp only at hx <;> omega
   rw[c2]at bb ⊢
   refine W1 (Ye ba bb hc1) ?_
   refine Zv (k85 ((hS1 _ Om).li) hw xn Om m.e hw.e) ?_
   intro H2 n2 q2 s2
   unfold mVar at hres
   cases hF:mNth m.p xn.toNat m.e with
   | none=>
    rw[hF]at hres
    refine W0 (Zu @nthV.eq_1 @nthV.eq_2) ?_
    exact Wp.pure ⟨So,(Mm (Zu s2 s1)),m,v,id,.inr rfl,(hS1 n (Nat.le_refl _)).mv So (Mm s2) (Mm s2),.inr ⟨rfl,7,Po,by rw[← hres];exact⟨rfl,by decide⟩⟩⟩
   | some f=>
    rw[hF]at hres
    simp only at hres
    have hf:=mNth_rng hw _ _ hw.e _ hF
    refine W1 (Xm @nthV.eq_1 @nthV.eq_2 s2 hc1 bb) ?_
    refine Zv (k85 ((hS1 n (Nat.le_refl _)).li.mv Om (Mm s2)) hw xi Om f hf) ?_
    intro H3 n3 q3 s3
    cases hG:mNth m.p xi.toNat f with
    | none=>
     rw[hG]at hres
     refine W0 (Zu @nthV.eq_1 @nthV.eq_2) ?_
     exact Wp.pure ⟨So,(Mm (Ye s3 s2 s1)),m,v,id,.inr rfl,(hS1 n (Nat.le_refl _)).mv So (Mm (Zu s3 s2)) (Mm (Zu s3 s2)),.inr ⟨rfl,7,Po,by rw[← hres];exact⟨rfl,by decide⟩⟩⟩
    | some y=>
     rw[hG]at hres
     refine W0 (Zu @nthV.eq_1 @nthV.eq_2) ?_
     refine Zj (kM83 ((hS1 n (Nat.le_refl _)).mv Om (Mm (Zu s3 s2)) (Mm (Zu s3 s2))) Om y) ?_
     rintro _ H4 n4 q4 s4 ⟨rfl,v4,id4,i4,hS4⟩
     refine W0 trivial ?_
     exact Wp.pure ⟨So,(Mm (Yv s4 s3 s2 s1)),_,v4,id4,.inl Om,hS4,.inl ⟨rfl,Pa,m.a+1,Po,hres.symm⟩⟩
  by_cases c3:xo=3
  ·rw[if_neg Om,if_neg Om,if_neg c1,if_neg c2,if_pos c3]at hres
   rw[c3]at bb ⊢
   refine W1 (Ye ba bb (show¬ (3:Int)=2 by decide)) ?_
   refine Zj (k86 (hS1 _ Om) Om hC1 hn0 hk xs) ?_
   rintro _ H2 n2 q2 s2 ⟨q,m',v',id',rfl,e2,e3,e4⟩
   cases hG:mGlobal ld xs m with
   | ok m1=>
    rw[hG]at e4 hres
    obtain⟨rfl,rfl⟩:=e4
    refine W0 trivial ?_
    exact Wp.pure ⟨So,(Mm (Zu s2 s1)),m',v',id',by omega,e3.mv So rfl rfl,.inl ⟨rfl,Pa,m.a+1,Po,hres.symm⟩⟩
   | error g=>
    rw[hG]at e4 hres
    obtain⟨rfl,hq⟩:=e4
    refine W0 hq ?_
    exact Wp.pure ⟨So,(Mm (Zu s2 s1)),m',v',id',by omega,e3.mv So rfl rfl,.inr ⟨rfl,q,Po,by rw[← hres];exact⟨rfl,hq⟩⟩⟩
  by_cases c4:xo=4
  ·rw[if_neg Om,if_neg Om,if_neg c1,if_neg c2,if_neg c3,if_neg Om,if_neg Om]at hres
   rw[c4]at bb hres ⊢
   refine W1 (Zu (show¬ (4:Int)=2 by decide) (show¬ (4:Int)=3 by decide)) ?_
   refine Zj (k87 (hS1 _ Om) hw.s) ?_
   rintro r H2 n2 q2 s2 hR
   cases hM:mTake m with
   | none=>
    rw[hM]at hR hres
    obtain⟨rfl,hS2⟩:=hR
    refine W0 trivial ?_
    exact Wp.pure ⟨So,(Mm (Zu s2 s1)),m,v,id,.inr rfl,hS2.mv So rfl rfl,.inr ⟨rfl,7,Po,by rw[← hres];exact⟨rfl,by decide⟩⟩⟩
   | some q=>
    obtain⟨y,m1⟩:=q
    rw[hM]at hR hres
    obtain⟨rfl,hS2⟩:=hR
    obtain⟨hw1,hy,ep⟩:=hw.take hM
    have hy1:In m1 y:=by rw[ep];exact hy
    simp only[true_and]at hres
    have hc2:H2 c=some (.row [v,.int .i64 m1.a,.int .i64 m1.s,.int .i64 m1.e,.int .i64 m1.d,.int .i64 m1.t,.int .i64 m1.k,.int .i64 m1.r] 0 true):=hS2.hc
    have hid2:=hS2.idn
    have hcn2:=hS2.cn
    have gy:=hS2.li.nAll hy1.1 hy1.2
    have b2:H2 (n+1)=some (.row [.int .i64 4,.int .i64 xn,.int .i64 xi,.string xs] 0 true):=by rw[s2 _ Om Om Om];exact bb
    generalize gi m1.p y=z at gy hres
    obtain⟨zk,zn,zs,za,zb⟩:=z
    simp only[Nd.cells]at gy hres
    have hS3:∀ n',n2<=n'->SM c id n' (H2.set (n2+10) (some (.row [.int .i64 zk,.int .i64 zn,.string zs,.int .i64 za,.int .i64 zb] 0 true))) [] v m1:=fun n' hn'=>hS2.mv hn' (Zf _ _ Om) (Zf _ _ Om)
    have hm3:∀ i,i < n->i≠c->i≠id->(H2.set (n2+10) (some (.row [.int .i64 zk,.int .i64 zn,.string zs,.int .i64 za,.int .i64 zb] 0 true))) i=H i:=fun i a1 a2 a3=>by rw[Zf _ _ Om,s2 i Om a2 a3,s1 _ a1]
    by_cases z2:zk=2
    ·by_cases z0:zn=0
     ·rw[if_pos ⟨z2,z0⟩]at hres
      rw[z2,z0]at gy hS3 hm3
      refine W1 (Ye hc2 gy b2) ?_
      exact Wp.pure ⟨So,hm3,m1,v,id,.inr rfl,hS3 _ So,.inl ⟨rfl,Pa,xn,Po,hres.symm⟩⟩
     ·rw[if_neg (fun h=>z0 h.2)]at hres
      rw[z2]at gy hS3 hm3
      refine W1 (Yv hc2 gy b2 z0) ?_
      exact Wp.pure ⟨So,hm3,m1,v,id,.inr rfl,hS3 _ So,.inl ⟨rfl,Pa,m.a+1,Po,hres.symm⟩⟩
    ·rw[if_neg (fun h=>z2 h.1)]at hres
     refine W1 (Yv hc2 gy b2 z2) ?_
     exact Wp.pure ⟨So,hm3,m1,v,id,.inr rfl,hS3 _ So,.inl ⟨rfl,Pa,m.a+1,Po,hres.symm⟩⟩
  by_cases c5:xo=5
  ·rw[if_neg Om,if_neg Om,if_neg c1,if_neg c2,if_neg c3,if_pos c5]at hres
   rw[c5]at bb ⊢
   refine W1 (Yv bb (show¬ (5:Int)=2 by decide) (show¬ (5:Int)=3 by decide) (show¬ (5:Int)=4 by decide)) ?_
   exact Wp.pure ⟨So,(Mm s1),m,v,id,.inr rfl,hS1 _ So,.inl ⟨rfl,Pa,xn,Po,hres.symm⟩⟩
  by_cases c6:xo=6
  ·rw[if_neg Om,if_neg Om,if_neg c1,if_neg c2,if_neg c3,if_neg c5,if_pos c6]at hres
   rw[c6]at bb ⊢
   have w1:IntKind.i64.wrap (8 * xn)=8 * xn:=Wo Om
   have w2:IntKind.i64.wrap (8 * xn+xi)=8 * xn+xi:=Wo Om
   refine W1 (Yj bb (show¬ (6:Int)=2 by decide) (show¬ (6:Int)=3 by decide) (show¬ (6:Int)=4 by decide) (show¬ (6:Int)=5 by decide) hc1 w1 w2) ?_
   refine Zj ((hS1 _ Om).addS Om (ndFun (8 * xn+xi) m.e)) ?_
   rintro _ H2 n2 q2 s2 ⟨rfl,v2,id2,i2,hS2⟩
   refine W0 trivial ?_
   refine Zj (kM83 (m:=m.add [ndFun (8 * xn+xi) m.e]) (hS2.mv Om rfl rfl) (by have:=addLen m [ndFun (8 * xn+xi) m.e];simp only[List.length_cons,List.length_nil]at this;omega) _) ?_
   rintro _ H3 n3 q3 s3 ⟨rfl,v3,id3,i3,hS3⟩
   refine W0 trivial ?_
   exact Wp.pure ⟨So,(Mm (Ye s3 s2 s1)),_,v3,id3,.inl Om,hS3,.inl ⟨rfl,Pa,m.a+1,Po,hres.symm⟩⟩
  by_cases c7:xo=7
  ·rw[if_pos c7]at hres
   have hxi:0<=xi/\xi<=4:=hrg.2.2
   rw[c7]at bb ⊢
   refine W1 (Wt ba bb (show¬ (7:Int)=2 by decide) (show¬ (7:Int)=3 by decide) (show¬ (7:Int)=4 by decide) (show¬ (7:Int)=5 by decide) (show¬ (7:Int)=6 by decide)) ?_
   refine Zj (k89 (hS1 _ Om) hw Om hC1 hn0 hll ha hp xi hxi) ?_
   rintro _ H2 n2 q2 s2 ⟨q,m',v',id',rfl,e2,e3,e4⟩
   refine W0 trivial ?_
   exact Wp.pure ⟨So,(Mm (Zu s2 s1)),m',v',id',by omega,e3,.inr ⟨rfl,q,Po,by rw[← hres];exact e4⟩⟩
  by_cases c8:xo=8
  ·rw[if_neg c7,if_pos c8]at hres
   rw[c8]at bb ⊢
   refine W1 (Yj ba bb (show¬ (8:Int)=2 by decide) (show¬ (8:Int)=3 by decide) (show¬ (8:Int)=4 by decide) (show¬ (8:Int)=5 by decide) (show¬ (8:Int)=6 by decide) (show¬ (8:Int)=7 by decide)) ?_
   refine Zj (k90 (hS1 _ Om) hw Om) ?_
   rintro _ H2 n2 q2 s2 ⟨q,m',v',id',rfl,e2,e3,e4⟩
   refine W0 trivial ?_
   exact Wp.pure ⟨So,(Mm (Zu s2 s1)),m',v',id',by omega,e3,.inr ⟨rfl,q,Po,by rw[← hres];exact e4⟩⟩
  rw[if_neg c7,if_neg c8,if_neg c1,if_neg c2,if_neg c3,if_neg c5,if_neg c6]at hres
  have c9:xo=9:=by
   rcases hx with hx|hx|hx|hx|hx|hx|hx <;> simp only at hx <;> omega
  rw[c9]at bb hres ⊢
  refine W1 (Yj ba bb (show¬ (9:Int)=2 by decide) (show¬ (9:Int)=3 by decide) (show¬ (9:Int)=4 by decide) (show¬ (9:Int)=5 by decide) (show¬ (9:Int)=6 by decide) (Zu (show¬ (9:Int)=7 by decide) (show¬ (9:Int)=8 by decide))) ?_
  refine Zj (k87 (hS1 _ Om) hw.s) ?_
  rintro r H2 n2 q2 s2 hR
  cases hM:mTake m with
  | none=>
   rw[hM]at hR hres
   obtain⟨rfl,hS2⟩:=hR
   refine W0 trivial ?_
   exact Wp.pure ⟨So,(Mm (Zu s2 s1)),m,v,id,.inr rfl,hS2.mv So rfl rfl,.inr ⟨rfl,7,Po,by rw[← hres];exact⟨rfl,by decide⟩⟩⟩
  | some q=>
   obtain⟨y,m1⟩:=q
   rw[hM]at hR hres
   obtain⟨rfl,hS2⟩:=hR
   simp only at hres
   rw[if_neg (fun h=>absurd h.1 (by decide))]at hres
   refine W0 trivial ?_
   exact Wp.pure ⟨So,(Mm (Zu s2 s1)),m1,v,id,.inr rfl,hS2.mv So rfl rfl,.inl ⟨rfl,Pa,m.a+1,Po,hres.symm⟩⟩
 ·rintro⟨oe,ot,oH,on⟩ ⟨f1,f2,m',v',id',f3,f4,f5⟩
  simp only at f1 f2 f3 f4 f5
  have hc3:oH c=some (.row [v',.int .i64 m'.a,.int .i64 m'.s,.int .i64 m'.e,.int .i64 m'.d,.int .i64 m'.t,.int .i64 m'.k,.int .i64 m'.r] 0 true):=f4.hc
  rcases f5 with⟨rfl,g0,nx,g5,hr⟩|⟨rfl,q,g6,hr⟩
  ·rw[hr]
   refine W1 (Ye g0 g5 hc3) ?_
   exact Wp.pure ⟨So,fun i a1 a2 a3=>by simp only;rw[Zf _ _ a2];exact f2 i a1 a2 a3,MRes.ok (f4.to (m':={ m' with a:=nx }) So (Ze _ _ _) (Zf _ _ f4.ne) rfl) f3⟩
  ·refine W0 g6 ?_
   refine Wp.pure ⟨So,f2,?_⟩
   simp only[g6]
   exact⟨q,m',v',id',rfl,f3,f4,hr⟩
theorem k24 {n:Nat}{H:Hp}{v x1 x2 x3:Value}{m:Mc}{l:List Nd}{li:List Ins}{ld:List Df}(hm:Li eNode n H v m.p)(hC:Cd n H x1 x2 x3 l li ld)(hM:MOk l li ld m) :
  RtN Tryz.prog 24 [.agg ⟨[x1,x2,x3]⟩,mcV v m] H n (fun w H' n'=>∃ u,w=mcV u (mEnd li.length m (mRaw l li ld m))/\New eNode n n' H' u (mEnd li.length m (mRaw l li ld m)).p):=by
 apply RtN.mk
 rw[c24];unfold S24
 have hll:=hM.k.2.1
 have ha:=hM.a
 have hpl:=hM.w.len
 have hins:=hM.ins
 refine W1 trivial ?_
 refine Ya (k23 (hm.mv Om Mo) Om m.a m.s m.e m.d m.t m.k m.r) ?_
 rintro _ H1 n1 q1 s1 ⟨u,rfl,id,i1,i2,i3⟩
 generalize hM0:H1.set (n+5) (some (.row [nilS,.int .i64 0,.int .i64 0,.int .i64 0,.int .i64 0,.int .i64 0,.int .i64 0,.int .i64 0] 0 true))=M0
 have gi1:=(hC.i.mv (H':=H1.set (n+5) (some (.row [u,.int .i64 m.a,.int .i64 m.s,.int .i64 m.e,.int .i64 m.d,.int .i64 m.t,.int .i64 m.k,.int .i64 m.r] 0 true))) (Nat.le_refl _) (Mm s1)).sAll (i:=m.a) ha.1 Om
 have hS0:SM (n+5) id n1 (H1.set (n+5) (some (.row [u,.int .i64 m.a,.int .i64 m.s,.int .i64 m.e,.int .i64 m.d,.int .i64 m.t,.int .i64 m.k,.int .i64 m.r] 0 true))) [] u m:=⟨Ze _ _ _,rfl,i3.mv (Zf _ _ Om),by omega,by omega,by omega⟩
 have hres:mRaw l li ld m=doM l li ld (gi li m.a) m:=rfl
 generalize gi li m.a=x at gi1 hins hres
 obtain⟨xo,xn,xi,xs⟩:=x
 simp only[Ins.cells]at gi1
 subst hM0
 refine W1 (Zu s1 gi1) ?_
 refine Zj (k52 (hS0.mv Om rfl rfl) hM.w Om (hC.mv (Mm s1)) ⟨by omega,by omega⟩ hM.k hM.p ⟨xo,xn,xi,xs⟩ ha hins) ?_
 rintro _ H2 n2 q2 s2 ⟨q,m',v',id',rfl,e2,hS,hR⟩
 rw[← hres]at hR
 have hm2:∀ i,i < n+5->H2 i=((((H.set n (some (.row [x1,x2,x3] 0 true))).set (n+1) (some (.row [v,.int .i64 m.a,.int .i64 m.s,.int .i64 m.e,.int .i64 m.d,.int .i64 m.t,.int .i64 m.k,.int .i64 m.r] 0 true))).set (n+2) (some (.row [nilS,.int .i64 0,.int .i64 0,.int .i64 0,.int .i64 0,.int .i64 0,.int .i64 0,.int .i64 0] 0 true)))) i:=fun i hi=>by rw[s2 _ Om Om Om,Zf _ _ Om,s1 _ Om]
 have hb0:H2 n=some (.row [x1,x2,x3] 0 true):=by rw[hm2 _ Om];simp(disch:=omega) only[Zf,Ze]
 have hb1:H2 (n+1)=some (.row [v,.int .i64 m.a,.int .i64 m.s,.int .i64 m.e,.int .i64 m.d,.int .i64 m.t,.int .i64 m.k,.int .i64 m.r] 0 true):=by rw[hm2 _ Om];simp(disch:=omega) only[Zf,Ze]
 have hb2:H2 (n+2)=some (.row [nilS,.int .i64 0,.int .i64 0,.int .i64 0,.int .i64 0,.int .i64 0,.int .i64 0,.int .i64 0] 0 true):=by rw[hm2 _ Om];simp(disch:=omega) only[Zf,Ze]
 have hbm:∀ i,i < n->H2 i=H i:=fun i hi=>by rw[hm2 _ Om];simp(disch:=omega) only[Zf,Ze]
 have hc':H2 (n+5)=some (.row [v',.int .i64 m'.a,.int .i64 m'.s,.int .i64 m'.e,.int .i64 m'.d,.int .i64 m'.t,.int .i64 m'.k,.int .i64 m'.r] 0 true):=hS.hc
 have hid':=hS.idn
 have hlv:=hS.li.len
 have hil:=hC.i.len
 have wL:IntKind.i64.wrap ((li.length:Int) - 1)=(li.length:Int) - 1:=Wo Om
 cases hX:mRaw l li ld m with
 | error e=>
  rw[hX]at hR
  obtain⟨rfl,hq⟩:=hR
  rw[show mEnd li.length m (.error q)=mFail m q from rfl]
  refine W1 (Zu hq hb1) ?_
  refine Ya (k53 (hm.mv Om hbm) Om m.a m.s m.e m.d m.t m.k m.r q) ?_
  rintro _ H5 n5 q5 s5 ⟨u5,rfl,id5,j1,j2,j3⟩
  refine W1 (Zu s5 hb2) ?_
  exact Wp.pure ⟨So,(Mm (Zu s5 hbm)),u5,rfl,id5,by omega,So,j3.mv Mo⟩
 | ok m1=>
  rw[hX]at hR
  obtain⟨rfl,rfl⟩:=hR
  unfold mEnd
  simp only
  by_cases c8:0<=m'.a/\m'.a<=(li.length:Int) - 1
  case neg=>
   rw[if_pos c8]
   refine W1 (Wt hc' hb0 hil wL @k47 c8 hb1) ?_
   refine Ya (k53 (hm.mv Om hbm) Om m.a m.s m.e m.d m.t m.k m.r 7) ?_
   rintro _ H5 n5 q5 s5 ⟨u5,rfl,id5,j1,j2,j3⟩
   refine W1 (Zu s5 hb2) ?_
   exact Wp.pure ⟨So,(Mm (Zu s5 hbm)),u5,rfl,id5,by omega,So,j3.mv Mo⟩
  rw[if_neg (fun h=>h c8)]
  by_cases c9:3000 < m'.p.length
  ·rw[if_pos c9]
   have c9i:(3000:Int) < (m'.p.length:Int):=by omega
   refine W1 (Yj hc' hb0 hil wL @k47 c8 @and_self (Ye hlv c9i hb1)) ?_
   refine Ya (k53 (hm.mv Om hbm) Om m.a m.s m.e m.d m.t m.k m.r 6) ?_
   rintro _ H5 n5 q5 s5 ⟨u5,rfl,id5,j1,j2,j3⟩
   refine W1 (Zu s5 hb2) ?_
   exact Wp.pure ⟨So,(Mm (Zu s5 hbm)),u5,rfl,id5,by omega,So,j3.mv Mo⟩
  ·rw[if_neg c9]
   have c9i:¬ (3000:Int) < (m'.p.length:Int):=by omega
   refine W1 (Yj hc' hb0 hil wL @k47 c8 @and_self (Ye hlv c9i hb2)) ?_
   exact Wp.pure ⟨So,(Mm hbm),v',rfl,id',by omega,So,hS.at_.mv Mo⟩
theorem mEnd_len (n:Int)(m:Mc)(r:MR):(mEnd n m r).p.length<=max m.p.length 3000:=by
 unfold mEnd
 cases r with
 | error h=>exact Nat.le_max_left _ _
 | ok m1=>
  simp only
  split
  ·exact Nat.le_max_left _ _
  ·split
   ·exact Nat.le_max_left _ _
   ·rename_i h;omega
theorem stepM_len (l:List Nd)(li:List Ins)(ld:List Df)(m:Mc)(h:m.p.length<=1048576):(Wv l li ld m).p.length<=1048576:=by
 unfold Wv
 split
 ·simp
 ·split
  ·exact h
  ·have:=mEnd_len li.length m (mRaw l li ld m);omega
theorem k7 {n:Nat}{H:Hp}{v vl vd vm:Value}{l m:List Nd}{li:List Ins}{ld:List Df}(hv:Li eNode n H v l)(hvl:Li eIns n H vl li)(hvd:Li eDef n H vd ld)(hs:∀ x∈l,x.s.size<=1048576)(hsl:∀ x∈li,x.s.size<=1048576)(hsd:∀ x∈ld,x.s.size<=1048576)(hl:l.length<=1048576)(hll:li.length<=1048576)(hld:ld.length<=1048576)(hm:Li eNode n H vm m)(hsm:∀ x∈m,x.s.size<=1048576)(hlm:m.length<=1048576)(a s e d t k r:Int) :
  RtN Tryz.prog 7 [.agg ⟨[v,vl,vd]⟩,.agg ⟨[vm,.int .i64 a,.int .i64 s,.int .i64 e,.int .i64 d,.int .i64 t,.int .i64 k,.int .i64 r]⟩] H n (fun w H' n'=>∃ u,w=mcV u (Wv l li ld ⟨m,a,s,e,d,t,k,r⟩)/\New eNode n n' H' u (Wv l li ld ⟨m,a,s,e,d,t,k,r⟩).p):=by
 apply RtN.mk
 rw[c7];unfold S7
 refine W1 trivial ?_
 refine Zv (k19 (hv.mv Om Mo) (hvl.mv Om Mo) (hvd.mv Om Mo) hs hsl hsd hl hll hld (hm.mv Om Mo) hsm hlm a s e d t k r) ?_
 intro H1 n1 q1 s1
 by_cases hok:MachOk l li ld m a s e d t k r
 case neg=>
  have hA:(Wv l li ld ⟨m,a,s,e,d,t,k,r⟩)=⟨[],0,0,0,0,3,7,0⟩:=by unfold Wv;rw[if_pos hok]
  rw[hA]
  refine W1 (Zu s1 hok) ?_
  exact Wp.pure ⟨So,(Mm s1),nilS,rfl,⟨n,by omega,So,At.nil⟩⟩
 by_cases ht:t=0
 case neg=>
  have hA:(Wv l li ld ⟨m,a,s,e,d,t,k,r⟩)=⟨m,a,s,e,d,t,k,r⟩:=by unfold Wv;rw[if_neg (fun h=>h hok),if_pos ht]
  rw[hA]
  refine W1 (Ye s1 hok ht) ?_
  refine Ya (k23 (hm.mv Om (Mm s1)) hlm a s e d t k r) ?_
  rintro _ Hz nz qz sz ⟨u,rfl,id,i1,i2,i3⟩
  refine W1 (Zu sz s1) ?_
  exact Wp.pure ⟨So,(Mm (Zu sz s1)),u,rfl,⟨id,by omega,So,i3.mv Mo⟩⟩
 have hA:(Wv l li ld ⟨m,a,s,e,d,t,k,r⟩)=mEnd li.length ⟨m,a,s,e,d,t,k,r⟩ (mRaw l li ld ⟨m,a,s,e,d,t,k,r⟩):=by unfold Wv;rw[if_neg (fun h=>h hok),if_neg (fun h=>h ht)]
 rw[hA]
 have hmo:MOk l li ld ⟨m,a,s,e,d,t,k,r⟩:=MachOk.mok (m:=⟨m,a,s,e,d,t,k,r⟩) hok ht
 generalize hX:mEnd _ _ _=X
 subst ht
 refine W1 (Zu s1 hok) ?_
 refine Ya (k24 (m:=⟨m,a,s,e,d,0,k,r⟩) (hm.mv Om (Mm s1)) ⟨hv.mv Om (Mm s1),hvl.mv Om (Mm s1),hvd.mv Om (Mm s1)⟩ hmo) ?_
 rintro _ Hz nz qz sz ⟨u,rfl,id,i1,i2,i3⟩
 rw[hX]at i3 ⊢
 refine W1 (Zu sz s1) ?_
 exact Wp.pure ⟨So,(Mm (Zu sz s1)),u,rfl,⟨id,by omega,So,i3.mv Mo⟩⟩
theorem mRaw_SRes {m:Mc}{l:List Nd}{li:List Ins}{ld:List Df}(h:MOk l li ld m)(hr:Rn m):SRes 7000 m (mRaw l li ld m):=by
 have hll:=h.k.2.1
 have ha:=h.a
 have hx:=h.ins
 unfold mRaw
 split
 ·exact(calling_SRes h.w hr Om (hx.rng (by have:=h.k.1.2;omega) Om ha.1).2.2).up Om
 ·split
  ·exact(back_SRes h.w hr).up Om
  ·exact(plain_SRes h.w hr h.k _ ha.1 hx).up Om
def MachM (l:List Nd)(li:List Ins)(ld:List Df)(m:Mc):Prop:=MachOk l li ld m.p m.a m.s m.e m.d m.t m.k m.r
theorem fail_ok {m:Mc}{l:List Nd}{li:List Ins}{ld:List Df}(h:MOk l li ld m){q:Int}(hq:1<=q/\q<=7):MachM l li ld (mFail m q) :=
 ⟨h.k,h.p,h.w.s,h.w.e,h.w.d,.inr (.inr (.inr ⟨rfl,rfl,hq,rfl⟩))⟩
theorem step_law {m:Mc}{l:List Nd}{li:List Ins}{ld:List Df}(h:MachM l li ld m):MachM l li ld (Wv l li ld m)/\Ext m (Wv l li ld m)/\(m.t≠0->Wv l li ld m=m):=by
  unfold Wv
  rw[if_neg (fun hn=>hn h)]
  by_cases ht:m.t=0
  case neg=>rw[if_pos ht];exact⟨h,Ext.refl m,fun _=>rfl⟩
  rw[if_neg (fun hn=>hn ht)]
  refine⟨?_,?_,fun hn=>absurd ht hn⟩
  all_goals
    have hM:=MachOk.mok h ht
    have hr:Rn m:=by
      rcases h.2.2.2.2.2 with h6|h6|h6|h6
      · exact⟨ht,h6.2.2.1,h6.2.2.2⟩
      · omega
      · omega
      · omega
    have hS:=mRaw_SRes hM hr
    cases hX:mRaw l li ld m with
    | error q=>
      rw[hX]at hS
      first|exact fail_ok hM hS|exact Ext.refl m
    | ok m1=>
      rw[hX]at hS
      obtain⟨w1,e1,st⟩:=hS
      unfold mEnd
      simp only
      split
      · first|exact fail_ok hM ⟨by decide,by decide⟩|exact Ext.refl m
      · rename_i hpl
        split
        · first|exact fail_ok hM ⟨by decide,by decide⟩|exact Ext.refl m
        · rename_i h3
          first
            | exact e1
            | (refine⟨hM.k,⟨w1.ok,by omega⟩,w1.s,w1.e,w1.d,?_⟩
               rcases st with⟨s1,s2,s3⟩|⟨s1,s2,s3,s4⟩|⟨s1,s2,s3,s4⟩
               · exact .inl ⟨s1,Classical.not_not.1 hpl,s2,s3⟩
               · exact .inr (.inl ⟨s1,Classical.not_not.1 hpl,s2,s3,s4⟩)
               · exact .inr (.inr (.inl ⟨s1,s2,s3,s4⟩)))
theorem step_bad {m:Mc}{l:List Nd}{li:List Ins}{ld:List Df}(h:¬ MachM l li ld m):Wv l li ld m=⟨[],0,0,0,0,3,7,0⟩:=by
 unfold Wv;exact if_pos h
theorem step_sz {m:Mc}{l:List Nd}{li:List Ins}{ld:List Df}(hs:∀ x∈m.p,x.s.size<=1048576):∀ x∈(Wv l li ld m).p,x.s.size<=1048576:=by
 intro x hx
 by_cases h:MachM l li ld m
 ·have:=(step_law h).1.2.1.1.sz x hx;omega
 ·rw[step_bad h]at hx;cases hx
theorem answer_sz {m:Mc}{l q:List Nd}{li:List Ins}{ld:List Df}{v:Int}(hs:∀ x∈m.p,x.s.size<=1048576):∀ x∈(Yx l li ld m q v).p,x.s.size<=1048576:=by
 unfold Yx
 split
 ·intro x hx;cases hx
 ·rename_i hok
  have hok:=Classical.not_not.1 hok
  split
  ·exact hs
  ·rename_i hq
   obtain⟨_,hq,hv⟩:=Classical.not_not.1 hq
   split
   ·exact hs
   ·split
    ·exact hs
    ·intro x hx
     have h1:=(cp_ok (v:=v) hq hok.2.1.1 hv).1
     rcases List.mem_append.1 hx with hx|hx
     ·have:=h1.sz x hx;omega
     ·rw[List.mem_singleton]at hx;rw[hx];exact Nat.zero_le _
theorem st_fcD {α:Type}{E:Enc α}{id:Nat}{H:Hp}{l:List α}(h:H id=some (.row (l.flatMap E.cells) E.sz true)){j f:Nat}(hj:j < l.length)(hf:f < E.sz){y:α}{c:Value}(h1:cell1 c=true)(hy:E.cells y=Yz (E.cells l[j]) f [c]):st false 1 (ptr id (j * E.sz+f)) c H=some (H.set id (some (.row ((l.set j y).flatMap E.cells) E.sz true))):=by
 rw[st_c h1];exact st_fld h hj hf hy
abbrev Sh (x:Nd):Prop:=x.s.size<=100
theorem k133 {c n:Nat}{H:Hp}(hc:Cu c n H):RtD Tryz.prog 133 [ptr c 0] c H n (fun r _ _=>∃ x:Nd,r=.agg ⟨x.cells⟩/\Sh x):=by
 apply RtD.mk
 rw[c133];unfold S133
 have hcn:=hc.1
 refine W1 trivial ?_
 refine Zy (k69 (hc.mv Om Mo) 8) ?_
 rintro _ H1 n1 q1 s1 c1 ⟨x,rfl,_,hx⟩
 by_cases e0:x=0
 ·subst e0
  try simp only[Int.reduceEq,decide_false,decide_true]
  refine W1 s1 ?_
  exact Wp.pure ⟨So,(Mm s1),c1.mv So Mo,⟨1,0,⟨#[]⟩,0,0⟩,rfl,by decide⟩
 by_cases e1:x=1
 ·subst e1
  try simp only[Int.reduceEq,decide_false,decide_true]
  refine W1 s1 ?_
  refine Zy (k69 (c1.mv Om Mo) 2) ?_
  rintro _ H2 n2 q2 s2 c2 ⟨y,rfl,_,_⟩
  refine W1 (Zu s1 s2) ?_
  exact Wp.pure ⟨So,(Mm (Zu s2 s1)),c2.mv So Mo,⟨2,y,⟨#[]⟩,0,0⟩,rfl,show(⟨#[]⟩:ByteArray).size<=100 by decide⟩
 by_cases e2:x=2
 ·subst e2
  try simp only[Int.reduceEq,decide_false,decide_true]
  refine W0 s1 ?_
  refine Uc eStr [⟨#[97]⟩,⟨#[98,99]⟩,⟨#[120]⟩,⟨#[102]⟩,⟨#[43]⟩,⟨#[108,105,115,116]⟩] (by decide) rfl rfl ?_
  refine W0 trivial ?_
  refine Zy (k110 (c1.mv Om Mo) ((At.of rfl (Ze _ _ _)).lst Om) (Off.sl Om) (by simp)) ?_
  rintro _ H2 n2 q2 s2 c2 ⟨s,rfl,hs⟩
  refine W1 (Zu s1 s2) ?_
  refine Wp.pure ⟨So,(Mm (Zu s2 s1)),c2.mv So Mo,⟨4,0,s,0,0⟩,rfl,?_⟩
  have key:∀ s∈([⟨#[97]⟩,⟨#[98,99]⟩,⟨#[120]⟩,⟨#[102]⟩,⟨#[43]⟩,⟨#[108,105,115,116]⟩]:List ByteArray),s.size<=100:=by decide
  exact key s hs
 by_cases e3:x=3
 ·subst e3
  try simp only[Int.reduceEq,decide_false,decide_true]
  refine W1 s1 ?_
  refine Zy (k69 (c1.mv Om Mo) 5) ?_
  rintro _ H2 n2 q2 s2 c2 ⟨y,rfl,_,_⟩
  refine W1 (Zu s1 s2) ?_
  exact Wp.pure ⟨So,(Mm (Zu s2 s1)),c2.mv So Mo,⟨9,y,⟨#[]⟩,0,0⟩,rfl,show(⟨#[]⟩:ByteArray).size<=100 by decide⟩
 by_cases e4:x=4
 ·subst e4
  try simp only[Int.reduceEq,decide_false,decide_true]
  refine W1 s1 ?_
  refine Zy (k69 (c1.mv Om Mo) 5) ?_
  rintro _ H2 n2 q2 s2 c2 ⟨y,rfl,_,_⟩
  refine W1 (Zu s1 s2) ?_
  exact Wp.pure ⟨So,(Mm (Zu s2 s1)),c2.mv So Mo,⟨8,y,⟨#[]⟩,0,0⟩,rfl,show(⟨#[]⟩:ByteArray).size<=100 by decide⟩
 refine W1 (Xq s1 e0 e1 e2 e3 e4) ?_
 refine Zy (k69 (c1.mv Om Mo) 12) ?_
 rintro _ H2 n2 q2 s2 c2 ⟨y,rfl,_,_⟩
 refine W1 (Zu s1 s2) ?_
 exact Wp.pure ⟨So,(Mm (Zu s2 s1)),c2.mv So Mo,⟨3,_,⟨#[]⟩,0,0⟩,rfl,show(⟨#[]⟩:ByteArray).size<=100 by decide⟩
theorem k134 {c n:Nat}{H:Hp}(hc:Cu c n H)(m:Int):RtD Tryz.prog 134 [ptr c 0,.int .i64 m] c H n (fun r _ _=>∃ x:Nd,r=.agg ⟨x.cells⟩/\Sh x):=by
 apply RtD.mk
 rw[c134];unfold S134
 have hcn:=hc.1
 have atom:∀ {H3:Hp}{n3:Nat}{g:Value × Hp × Nat->Option (Value × Hp × Nat)}{Q:Value × Hp × Nat->Prop},n+7<=n3->(∀ i,i < n->i≠c->H3 i=H i)->Cu c n3 H3->(∀ (x:Nd) (H4:Hp) (n4:Nat),n3<=n4->(∀ i,i < n3->i≠c->H4 i=H3 i)->Cu c n4 H4->Sh x->Wp (g (.agg ⟨x.cells⟩,H4,n4)) Q)->Wp ((Call Tryz.prog 133 [ptr c 0] H3 n3).bind g) Q:=by
  intro H3 n3 g Q h1 h2 h3 k
  refine Zy (k133 h3) ?_
  rintro _ H4 n4 q4 s4 c4 ⟨x,rfl,hx⟩
  exact k x H4 n4 q4 s4 c4 hx
 have tail:∀ (TT:Tm) (H3:Hp) (n3:Nat) (b:Bool),True:=fun _ _ _ _=>trivial
 by_cases e0:m=0
 ·subst e0
  try simp only[Int.reduceEq,decide_false,decide_true]
  refine W1 trivial ?_
  refine atom Om Mo (hc.mv Om Mo) ?_
  intro x H4 n4 q4 s4 c4 hx
  refine W1 (Zu s4 @Nd.cells.eq_1) ?_
  exact Wp.pure ⟨So,(Mm s4),c4.mv So Mo,x,rfl,hx⟩
 refine W1 e0 ?_
 refine Zy (k108 (hc.mv Om Mo) 2) ?_
 rintro _ H1 n1 q1 s1 c1 ⟨b,rfl⟩
 cases b with
 | true=>
  refine W1 e0 ?_
  refine atom Om (Mm s1) (c1.mv Om Mo) ?_
  intro x H4 n4 q4 s4 c4 hx
  refine W1 (Ye s4 s1 @Nd.cells.eq_1) ?_
  exact Wp.pure ⟨So,(Mm (Zu s4 s1)),c4.mv So Mo,x,rfl,hx⟩
 | false=>
  refine W1 (Zu e0 @k109) ?_
  refine Zy (k69 (c1.mv Om Mo) _) ?_
  rintro _ H2 n2 q2 s2 c2 ⟨a,rfl,_,_⟩
  refine W1 e0 ?_
  refine Zy (k69 (c2.mv Om Mo) 8) ?_
  rintro _ H3 n3 q3 s3 c3 ⟨y,rfl,_,_⟩
  by_cases y0:y=0
  ·subst y0
   refine W1 e0 ?_
   refine Zy (k69 (c3.mv Om Mo) 9) ?_
   rintro _ H4 n4 q4 s4 c4 ⟨z,rfl,_,_⟩
   refine W1 (Yv s1 s2 s3 s4) ?_
   exact Wp.pure ⟨So,(Mm (Yv s4 s3 s2 s1)),c4.mv So Mo,⟨6,z,⟨#[]⟩,_,0⟩,rfl,show(⟨#[]⟩:ByteArray).size<=100 by decide⟩
  by_cases y1:y=1
  ·subst y1
   refine W1 (Yv e0 s1 s2 s3) ?_
   exact Wp.pure ⟨So,(Mm (Ye s3 s2 s1)),c3.mv So Mo,⟨7,0,⟨#[]⟩,_,0⟩,rfl,show(⟨#[]⟩:ByteArray).size<=100 by decide⟩
  refine W1 (Yv e0 y0 y1 @k109) ?_
  refine Zy (k69 (c3.mv Om Mo) _) ?_
  rintro _ H4 n4 q4 s4 c4 ⟨z,rfl,_,_⟩
  refine W1 (Yv s1 s2 s3 s4) ?_
  exact Wp.pure ⟨So,(Mm (Yv s4 s3 s2 s1)),c4.mv So Mo,⟨5,0,⟨#[]⟩,_,_⟩,rfl,show(⟨#[]⟩:ByteArray).size<=100 by decide⟩
theorem k111 {c n:Nat}{H:Hp}(hc:Cu c n H):RtD Tryz.prog 111 [ptr c 0] c H n (fun r H' n'=>∃ (u:Value)(l:List Nd),r=.agg ⟨[u]⟩/\(∀ x∈l,Sh x)/\l.length<=15/\New eNode n n' H' u l):=by
 apply RtD.mk
 rw[c111];unfold S111
 have hcn:=hc.1
 refine W1 trivial ?_
 refine Zy (k69 (hc.mv Om Mo) 16) ?_
 rintro _ H1 n1 q1 s1 c1 ⟨m,rfl,_,hm⟩
 have hm:=hm (by decide)
 refine W0 trivial ?_
 refine Wp.bind (Zt (fun d T H' n'=>∃ (j idk:Nat) (u:Value) (l:List Nd),(j:Int)+d=m/\n1+1<=n'/\(∀ i,i < n->i≠c->H' i=H i)/\Cu c n' H'/\H' n=some (.row [nilS] 0 true)/\T 0=ptr c 0/\T 2=ptr n 0/\T 3=ptr (n+2) 0/\T 4=.int .i64 m/\T 5=.int .i64 j/\l.length=j/\(∀ x∈l,Sh x)/\n+3<=idk/\PC (n+2) 0 idk n' H' [u] 0 u l) (fun o=>n1+1<=o.n/\(∀ i,i < n->i≠c->o.H i=H i)/\Cu c o.n o.H/\o.H n=some (.row [nilS] 0 true)/\o.e=.exit 0/\o.t 2=ptr n 0/\o.t 3=ptr (n+2) 0/\∃ (idk:Nat) (u:Value) (l:List Nd),l.length<=15/\(∀ x∈l,Sh x)/\n+3<=idk/\PC (n+2) 0 idk o.n o.H [u] 0 u l) ?_ m.toNat _ H1 _ ⟨0,n+3,nilS,[],by omega,by omega,(Mm s1),c1.up Om,(Mm s1),Pa,Po,Po,Po,Po,rfl,by simp,by omega,⟨(Mm s1),rfl,At.nil,by omega,by omega,by omega⟩⟩) ?_
 ·rintro d T H' n' ⟨j,idk,u,l,hj,hn,s0,c0,b0,e0,e2,e3,e4,e5,hlen,hsh,hidk,hpc⟩
  unfold S111L0
  by_cases hlt:(j:Int) < m
  ·have hw:IntKind.i64.wrap ((j:Int)+1)=((j+1:Nat):Int):=wn Om
   refine W0 (Xq e0 e2 e3 e4 e5 hlt) ?_
   refine Zy (k134 (c0.mv Om Mo) _) ?_
   rintro _ H2 n2 q2 s2 c2 ⟨x,rfl,hx⟩
   refine W0 (Xm e0 e2 e3 e4 e5) ?_
   have hid:=hpc.idn
   have hpn:n+2 < n':=hpc.cn
   refine Zj (k88 (hpc.mv Om (Mm s2) (Mm s2)) Om x) ?_
   rintro _ H3 n3 q3 s3 ⟨rfl,u3,id3,i1,i2⟩
   simp only[List.set_cons_zero]at i2
   refine W0 (Zu e5 hw) ?_
   refine Wp.pure (Nxt.go (d - 1) Om ⟨j+1,id3,u3,l++[x],by omega,by omega,(Mm (Ye s3 s2 s0)),(c2.mv (m:=n3) Om (Mm s3)).up Om,(Mm (Ye s3 s2 b0)),Pp e0,Pp e2,Pp e3,Pp e4,Po,by simp[hlen],?_,by omega,i2.mv Om rfl rfl⟩)
   intro y hy
   rcases List.mem_append.1 hy with hy|hy
   ·exact hsh y hy
   ·simp at hy;rw[hy];exact hx
  ·refine W0 (Ye e4 e5 hlt) ?_
   exact Wp.pure (Nxt.exit ⟨So,s0,c0.up So,b0,rfl,Pp e2,Pp e3,idk,u,l,by omega,hsh,hidk,hpc.mv So rfl rfl⟩)
 ·rintro⟨oe,ot,oH,on⟩ ⟨f1,f2,f3,f4,rfl,f5,f6,idk,u,l,f7,f8,f9,f10⟩
  simp only at f1 f2 f3 f4 f5 f6 f10
  have hb:=f10.hc
  have ha:=f10.at_
  have hidn:=f10.idn
  refine W1 (Yv f5 f6 hb f4) ?_
  exact Wp.pure ⟨So,(Mm f2),f3.mv So Mo,u,l,rfl,f8,f7,idk,by omega,So,ha.mv Mo⟩
theorem k112 {c n:Nat}{H:Hp}(hc:Cu c n H)(x:Nd)(hx:Sh x):RtD Tryz.prog 112 [ptr c 0,.agg ⟨x.cells⟩] c H n (fun r _ _=>∃ y:Nd,r=.agg ⟨y.cells⟩/\Sh y):=by
 apply RtD.mk
 rw[c112];unfold S112
 have hcn:=hc.1
 obtain⟨xk,xn,xs,xa,xb⟩:=x
 refine W1 @Nd.cells.eq_1 ?_
 refine Zy (k69 (hc.mv Om Mo) 8) ?_
 rintro _ H1 n1 q1 s1 c1 ⟨k,rfl,_,hk⟩
 refine W0 trivial ?_
 refine Wp.bind (R:=fun(o:Out)=>o.e=.normal/\n+2<=o.n/\(∀ i,i < n->i≠c->o.H i=H i)/\Cu c o.n o.H/\o.t 3=ptr n 0/\o.t 4=ptr (n+1) 0/\o.H (n+1)=some (.row [.int .i64 0,.int .i64 0,.string ⟨#[]⟩,.int .i64 0,.int .i64 0] 0 true)/\∃ y:Nd,Sh y/\o.H n=some (.row y.cells 0 true)) ?_ ?_
 ·by_cases e0:k=0
  ·subst e0
   try simp only[Int.reduceEq,decide_false,decide_true]
   refine W0 trivial ?_
   refine Zy (k69 (c1.mv Om Mo) 11) ?_
   rintro _ H2 n2 q2 s2 c2 ⟨y,rfl,_,_⟩
   refine W1 (Zu s1 s2) ?_
   exact Wp.pure ⟨rfl,So,(Mm (Zu s2 s1)),c2.mv So Mo,Po,Po,(Mm (Zu s2 s1)),⟨y,xn,xs,xa,xb⟩,hx,by simp(disch:=omega) only[Ze,Nd.cells]⟩
  by_cases e1:k=1
  ·subst e1
   try simp only[Int.reduceEq,decide_false,decide_true]
   refine W0 trivial ?_
   refine Zy (k69 (c1.mv Om Mo) 20) ?_
   rintro _ H2 n2 q2 s2 c2 ⟨y,rfl,_,_⟩
   refine W1 (Zu s1 s2) ?_
   exact Wp.pure ⟨rfl,So,(Mm (Zu s2 s1)),c2.mv So Mo,Po,Po,(Mm (Zu s2 s1)),⟨xk,xn,xs,IntKind.i64.wrap (y - 1),xb⟩,hx,by simp(disch:=omega) only[Ze,Nd.cells]⟩
  by_cases e2:k=2
  ·subst e2
   try simp only[Int.reduceEq,decide_false,decide_true]
   refine W0 trivial ?_
   refine Zy (k69 (c1.mv Om Mo) 20) ?_
   rintro _ H2 n2 q2 s2 c2 ⟨y,rfl,_,_⟩
   refine W1 (Zu s1 s2) ?_
   exact Wp.pure ⟨rfl,So,(Mm (Zu s2 s1)),c2.mv So Mo,Po,Po,(Mm (Zu s2 s1)),⟨xk,xn,xs,xa,IntKind.i64.wrap (y - 1)⟩,hx,by simp(disch:=omega) only[Ze,Nd.cells]⟩
  by_cases e3:k=3
  ·subst e3
   try simp only[Int.reduceEq,decide_false,decide_true]
   refine W0 trivial ?_
   refine Uc eInt [-1,2,99,100,1000000000,1000000001,-1000000000,-1000000001] (by decide) rfl rfl ?_
   refine W0 trivial ?_
   refine Zy (k70 (c1.mv Om Mo) ((At.of rfl (Ze _ _ _)).lst Om) (Off.sl Om) (by simp)) ?_
   rintro _ H2 n2 q2 s2 c2 ⟨y,rfl,_⟩
   refine W1 (Zu s1 s2) ?_
   exact Wp.pure ⟨rfl,So,(Mm (Zu s2 s1)),c2.mv So Mo,Po,Po,(Mm (Zu s2 s1)),⟨xk,y,xs,xa,xb⟩,hx,by simp(disch:=omega) only[Ze,Nd.cells]⟩
  by_cases e4:k=4
  ·subst e4
   try simp only[Int.reduceEq,decide_false,decide_true]
   refine W0 trivial ?_
   refine Uc eStr [⟨#[]⟩,⟨#[97]⟩,⟨#[65,98]⟩,⟨#[97,98,99,100,101,102,103,104,105,106,107,108]⟩,⟨#[97,98,99,100,101,102,103,104,105,106,107,108,109]⟩,⟨#[97,49]⟩] (by decide) rfl rfl ?_
   refine W0 trivial ?_
   refine Zy (k110 (c1.mv Om Mo) ((At.of rfl (Ze _ _ _)).lst Om) (Off.sl Om) (by simp)) ?_
   rintro _ H2 n2 q2 s2 c2 ⟨y,rfl,hy⟩
   have key:∀ s∈([⟨#[]⟩,⟨#[97]⟩,⟨#[65,98]⟩,⟨#[97,98,99,100,101,102,103,104,105,106,107,108]⟩,⟨#[97,98,99,100,101,102,103,104,105,106,107,108,109]⟩,⟨#[97,49]⟩]:List ByteArray),s.size<=100:=by decide
   refine W1 (Zu s1 s2) ?_
   exact Wp.pure ⟨rfl,So,(Mm (Zu s2 s1)),c2.mv So Mo,Po,Po,(Mm (Zu s2 s1)),⟨xk,xn,y,xa,xb⟩,key y hy,by simp(disch:=omega) only[Ze,Nd.cells]⟩
  rw[decide_eq_false e0]
  refine W0 (Xm e0 e1 e2 e3 e4) ?_
  exact Wp.pure ⟨rfl,So,(Mm s1),c1.mv So Mo,Po,Po,(Mm s1),⟨xk,xn,xs,xa,xb⟩,hx,by simp(disch:=omega) only[s1,Zf,Ze,Nd.cells]⟩
 ·rintro⟨oe,ot,oH,on⟩ ⟨rfl,f1,f2,f3,f4,f5,f6,⟨yk,yn,ys,ya,yb⟩,hy,f7⟩
  simp only[Nd.cells]at f1 f2 f3 f4 f5 f6 f7
  refine W1 (Yv f4 f5 f6 f7) ?_
  exact Wp.pure ⟨So,(Mm f2),f3.mv So Mo,⟨yk,yn,ys,ya,yb⟩,rfl,hy⟩
theorem k71 {c n:Nat}{H:Hp}(hc:Cu c n H){v:Value}{l:List Nd}(hv:Li eNode n H v l)(hvc:Off c v)(hl:l.length<=1048576):RtD Tryz.prog 71 [ptr c 0,.agg ⟨[v]⟩] c H n (fun r _ _=>∃ y:Int,r=.int .i64 y):=by
 apply RtD.mk
 rw[c71];unfold S71
 have hcn:=hc.1
 by_cases e0:(l.length:Int)=0
 ·refine W1 (Zu hv.len e0) ?_
  refine Uc eInt [-1,0,0] (by decide) rfl rfl ?_
  refine W0 trivial ?_
  refine Zy (k70 (hc.mv Om Mo) ((At.of rfl (Ze _ _ _)).lst Om) (Off.sl Om) (by simp)) ?_
  rintro _ H2 n2 q2 s2 c2 ⟨y,rfl,_⟩
  refine W0 trivial ?_
  exact Wp.pure ⟨So,(Mm s2),c2,y,rfl⟩
 refine W1 (Zu hv.len e0) ?_
 refine Zy (k108 (hc.mv Om Mo) 20) ?_
 rintro _ H1 n1 q1 s1 c1 ⟨b,rfl⟩
 cases b with
 | true=>
  refine W1 (Zu hv.len s1) ?_
  refine Uc eInt [-1,0,(l.length:Int)] (by decide) rfl rfl ?_
  refine W0 trivial ?_
  refine Zy (k70 (c1.mv Om Mo) ((At.of rfl (Ze _ _ _)).lst Om) (Off.sl Om) (by simp)) ?_
  rintro _ H2 n2 q2 s2 c2 ⟨y,rfl,_⟩
  refine W0 trivial ?_
  exact Wp.pure ⟨So,(Mm (Zu s2 s1)),c2,y,rfl⟩
 | false=>
  refine W1 (Ye hv.len s1 @k109) ?_
  refine Zy (k69 (c1.mv Om Mo) _) ?_
  rintro _ H2 n2 q2 s2 c2 ⟨y,rfl,_,_⟩
  refine W1 (Zu s1 s2) ?_
  exact Wp.pure ⟨So,(Mm (Zu s2 s1)),c2.up So,_,rfl⟩
theorem k73 {c n:Nat}{H:Hp}(hc:Cu c n H):RtD Tryz.prog 73 [ptr c 0] c H n (fun r H' n'=>∃ (u:Value)(l:List Nd),r=.agg ⟨[u]⟩/\(∀ x∈l,Sh x)/\l.length<=3001/\New eNode n n' H' u l):=by
 apply RtD.mk
 rw[c73];unfold S73
 have hcn:=hc.1
 refine W1 trivial ?_
 refine Zy (k111 (hc.mv Om Mo)) ?_
 rintro _ H1 n1 q1 s1 c1 ⟨uu,ll,rfl,hsh',hlen,idd,i1,i2,haa⟩
 have hlv:∀ H':Hp,H' idd=H1 idd->Zx false uu=some (.int .i64 ll.length):=fun H' h=>((haa.mv (H':=H1) rfl).lst i2).len
 have hlu:=hlv H1 rfl
 by_cases hl0:(0:Int) < ll.length
 ·refine W1 (Zu hlu hl0) ?_
  refine Zy (k108 (c1.mv Om Mo) 12) ?_
  rintro _ H2 n2 q2 s2 c2 ⟨b,rfl⟩
  refine W0 trivial ?_
  refine Wp.bind (R:=fun(o:Out)=>o.e=.normal/\n2<=o.n/\(∀ i,i < n->i≠c->o.H i=H i)/\Cu c o.n o.H/\o.t 0=ptr c 0/\o.t 2=ptr n 0/\o.t 3=ptr (n+3) 0/\o.H n=some (.row [nilS] 0 true)/\o.H (n+3)=some (.row [uu] 0 true)/\∃ l':List Nd,(∀ x∈l',Sh x)/\l'.length<=15/\At eNode idd o.H uu l') ?_ ?_
  ·cases b with
   | false=>
    refine W0 trivial ?_
    exact Wp.pure ⟨rfl,So,(Mm (Zu s2 s1)),c2.up So,Pa,Po,Po,(Mm (Zu s2 s1)),(Mm s2),ll,hsh',hlen,haa.mv (Mm s2)⟩
   | true=>
    rcases haa with⟨_,rfl⟩|⟨rfl,haa⟩
    ·simp at hl0
    refine W1 (Zu s2 @len_sl) ?_
    refine Zy (k69 (c2.mv Om Mo) _) ?_
    rintro _ H3 n3 q3 s3 c3 ⟨y,rfl,_,hy⟩
    have hy:=hy hl0
    have hli:Li eNode n1 H3 (sl idd 0 ll.length) ll:=((At.of rfl haa:At eNode idd H1 _ ll).mv (H':=H3) (Mm (Zu s3 s2))).lst i2
    have g:=hli.nAll hy.1 hy.2
    have hix:=idx_sli (sz:=5) (id:=idd) (k:=.i64) hy.1 hy.2
    have hag:ld true 5 (ptr idd (y.toNat * 5)) H3=some (.agg ⟨(gi ll y).cells⟩):=by
     have:=g.2.1
     simpa[elP]using this
    refine W1 (Yv s3 s2 hix hag) ?_
    refine Zy (k112 (c3.up Om) (gi ll y) (hsh' _ (Yb hy.1 hy.2))) ?_
    rintro _ H4 n4 q4 s4 c4 ⟨z,rfl,hz⟩
    have hH4:H4 idd=some (.row (ll.flatMap eNode.cells) 5 true):=by simp(disch:=omega) only[s4,s3,s2,Zf,Ze,haa]
    have hst:st true 5 (ptr idd (y.toNat * 5)) (.agg ⟨z.cells⟩) H4=some (H4.set idd (some (.row ((ll.set y.toNat z).flatMap eNode.cells) 5 true))):=by
     rw[st_agg,if_pos (show z.cells.length=5 from rfl)]
     exact st_el (E:=eNode) hH4 Om z
    refine W1 (Xm s4 s3 s2 hix hst) ?_
    refine Wp.pure ⟨rfl,So,(Mm (Yv s4 s3 s2 s1)),c4.mv So Mo,Pa,Po,Po,(Mm (Yv s4 s3 s2 s1)),(Mm (Ye s4 s3 s2)),ll.set y.toNat z,?_,by rw[List.length_set];exact hlen,.inr ⟨by rw[List.length_set],Ze _ _ _⟩⟩
    intro x hx
    rcases List.mem_or_eq_of_mem_set hx with h|rfl
    ·exact hsh' x h
    ·exact hz
  ·clear haa hlv hlu hl0 hsh' hlen
   rintro⟨oe,ot,oH,on⟩ ⟨rfl,f1,f2,f3,f4,f5,f6,f7,f8,ll,hsh',hlen,haa⟩
   simp only at f1 f2 f3 f4 f5 f6 f7 f8 haa
   refine W0 f4 ?_
   refine Zy (k108 (f3.mv Om Mo) 60) ?_
   rintro _ H6 n6 q6 s6 c6 ⟨b60,rfl⟩
   cases b60 with
   | false=>
    refine W1 (Xq f4 f5 f6 f7 f8 s6) ?_
    exact Wp.pure ⟨So,(Mm (Zu s6 f2)),c6.mv So Mo,uu,ll,rfl,hsh',by omega,idd,by omega,So,haa.mv (Mm s6)⟩
   | true=>
    refine W1 (Xm f4 f5 f6 f7 f8) ?_
    refine Zy (k69 (c6.up Om) 2) ?_
    rintro _ H7 n7 q7 s7 c7 ⟨y,rfl,_,hy⟩
    have hy:=hy (by decide)
    have hw:IntKind.i64.wrap (3000+y)=((3000+y.toNat:Nat):Int):=by rw[Wo Om];omega
    have hm:=mks_new eNode (default:Nd) (id:=n6+3) (bytes:=48) (k:=3000+y.toNat) H7 (by decide) Om
    have hz:eNode.cells (default:Nd)=[.int .i64 0,.int .i64 0,.string ⟨#[]⟩,.int .i64 0,.int .i64 0]:=rfl
    rw[hz]at hm
    have hb7:H7 (n+3)=some (.row [uu] 0 true):=by simp(disch:=omega) only[s7,s6,f7,f8]
    refine W1 (Xq f4 f5 f6 hw hm hb7) ?_
    generalize hK:3000+y.toNat=K at *
    have hKl:K<=3001:=by omega
    refine Wp.bind (Zt (fun d T H' n'=>∃ j:Nat,j+d=K/\n7+1<=n'/\(∀ i,i < n6+3->i≠n+3->H' i=H7 i)/\T 2=ptr n 0/\T 3=ptr (n+3) 0/\T 5=.int .i64 j/\H' (n+3)=some (.row [sl (n6+3) 0 K] 0 true)/\H' (n6+3)=some (.row ((fam (fun _=>(⟨1,0,⟨#[]⟩,0,0⟩:Nd)) j++(List.replicate K (default:Nd)).drop j).flatMap eNode.cells) 5 true)) (fun o=>n7+1<=o.n/\(∀ i,i < n6+3->i≠n+3->o.H i=H7 i)/\o.e=.exit 0/\o.t 2=ptr n 0/\o.t 3=ptr (n+3) 0/\o.H (n+3)=some (.row [sl (n6+3) 0 K] 0 true)/\o.H (n6+3)=some (.row ((fam (fun _=>(⟨1,0,⟨#[]⟩,0,0⟩:Nd)) K).flatMap eNode.cells) 5 true)) ?_ K _ _ _ ⟨0,by omega,by omega,Mo,by simp[Zn,f4,f5,f6],by simp[Zn,f4,f5,f6],Po,Ze _ _ _,by simp(disch:=omega) only[Zf,Ze];simp[fam]⟩) ?_
    ·rintro d T H' n' ⟨j,hj,hn,s0,e2,e3,e5,hB,hH⟩
     unfold S73L0
     by_cases hlt:j < K
     ·have hlti:(j:Int) < (K:Int):=by omega
      have hws:IntKind.i64.wrap ((j:Int)+1)=((j+1:Nat):Int):=wn Om
      have hset:=fam_set (fun _=>(⟨1,0,⟨#[]⟩,0,0⟩:Nd)) (l:=List.replicate K (default:Nd)) (j:=j) (by simpa using hlt)
      have hjl:j < (fam (fun _=>(⟨1,0,⟨#[]⟩,0,0⟩:Nd)) j++(List.replicate K (default:Nd)).drop j).length:=by rw[fam_drop_len _ (by simp;omega)];simpa using hlt
      have hat:=fam_drop_at (fun _=>(⟨1,0,⟨#[]⟩,0,0⟩:Nd)) (l:=List.replicate K (default:Nd)) (j:=j) (by simpa using hlt) hjl
      have t0:st false 1 (ptr (n6+3) (j * 5)) (.int .i64 1) H'=some (H'.set (n6+3) (some (.row (((fam (fun _=>(⟨1,0,⟨#[]⟩,0,0⟩:Nd)) j++(List.replicate K (default:Nd)).drop j).set j ⟨1,0,⟨#[]⟩,0,0⟩).flatMap eNode.cells) 5 true))):=st_fcD (E:=eNode) hH hjl (f:=0) (by decide) (y:=⟨1,0,⟨#[]⟩,0,0⟩) (c:=.int .i64 1) rfl (by rw[hat];simp;rfl)
      rw[hset]at t0
      have hix:=idx_sl (sz:=5) (id:=n6+3) (k:=.i64) hlt
      refine W0 (Yj e3 e5 @ld_r hB @Yc hlti hix (Zu t0 hws)) ?_
      exact Wp.pure (Nxt.go (d - 1) Om ⟨j+1,by omega,by omega,(Mm s0),Pp e2,Pp e3,Po,by simp(disch:=omega) only[Zf,hB],Ze _ _ _⟩)
     ·have hlti:¬ (j:Int) < (K:Int):=by omega
      refine W0 (Xq e3 e5 @ld_r hB @Yc hlti) ?_
      have hjK:j=K:=by omega
      subst hjK
      exact Wp.pure (Nxt.exit ⟨So,s0,rfl,Pp e2,Pp e3,hB,by simpa using hH⟩)
    ·rintro⟨pe,pt,pH,pn⟩ ⟨p1,p2,rfl,p3,p4,p5,p6⟩
     simp only at p1 p2 p3 p4 p5 p6
     refine W1 (Yj p3 p4 p5 p2 s7 s6 f7 f8) ?_
     refine Wp.pure ⟨So,(Mm (Yv p2 s7 s6 f2)),c7.mv So (Mm p2),_,fam (fun _=>(⟨1,0,⟨#[]⟩,0,0⟩:Nd)) K,rfl,?_,?_,n6+3,by omega,So,.inr ⟨by rw[fam_len],by simp(disch:=omega) only[Zf,p6]⟩⟩
     ·intro x hx
      unfold fam at hx
      obtain⟨_,_,rfl⟩:=List.mem_map.1 hx
      exact show(⟨#[]⟩:ByteArray).size<=100 by decide
     ·rw[fam_len];exact hKl
 ·refine W1 (Zu hlu hl0) ?_
  refine Zy (k108 (c1.mv Om Mo) 60) ?_
  rintro _ H6 n6 q6 s6 c6 ⟨b60,rfl⟩
  cases b60 with
  | false=>
   refine W1 (Zu s1 s6) ?_
   exact Wp.pure ⟨So,(Mm (Zu s6 s1)),c6.mv So Mo,uu,ll,rfl,hsh',by omega,idd,by omega,So,haa.mv (Mm s6)⟩
  | true=>
   refine W1 s1 ?_
   refine Zy (k69 (c6.up Om) 2) ?_
   rintro _ H7 n7 q7 s7 c7 ⟨y,rfl,_,hy⟩
   have hy:=hy (by decide)
   have hw:IntKind.i64.wrap (3000+y)=((3000+y.toNat:Nat):Int):=by rw[Wo Om];omega
   have hm:=mks_new eNode (default:Nd) (id:=n6+3) (bytes:=48) (k:=3000+y.toNat) H7 (by decide) Om
   have hz:eNode.cells (default:Nd)=[.int .i64 0,.int .i64 0,.string ⟨#[]⟩,.int .i64 0,.int .i64 0]:=rfl
   rw[hz]at hm
   have hb7:H7 (n+3)=some (.row [uu] 0 true):=by simp(disch:=omega) only[s7,s6,s1,Zf,Ze]
   refine W1 (Ye hw hm hb7) ?_
   generalize hK:3000+y.toNat=K at *
   have hKl:K<=3001:=by omega
   refine Wp.bind (Zt (fun d T H' n'=>∃ j:Nat,j+d=K/\n7+1<=n'/\(∀ i,i < n6+3->i≠n+3->H' i=H7 i)/\T 2=ptr n 0/\T 3=ptr (n+3) 0/\T 5=.int .i64 j/\H' (n+3)=some (.row [sl (n6+3) 0 K] 0 true)/\H' (n6+3)=some (.row ((fam (fun _=>(⟨1,0,⟨#[]⟩,0,0⟩:Nd)) j++(List.replicate K (default:Nd)).drop j).flatMap eNode.cells) 5 true)) (fun o=>n7+1<=o.n/\(∀ i,i < n6+3->i≠n+3->o.H i=H7 i)/\o.e=.exit 0/\o.t 2=ptr n 0/\o.t 3=ptr (n+3) 0/\o.H (n+3)=some (.row [sl (n6+3) 0 K] 0 true)/\o.H (n6+3)=some (.row ((fam (fun _=>(⟨1,0,⟨#[]⟩,0,0⟩:Nd)) K).flatMap eNode.cells) 5 true)) ?_ K _ _ _ ⟨0,by omega,by omega,Mo,Pa,Pa,Po,Ze _ _ _,by simp(disch:=omega) only[Zf,Ze];simp[fam]⟩) ?_
   ·rintro d T H' n' ⟨j,hj,hn,s0,e2,e3,e5,hB,hH⟩
    unfold S73L0
    by_cases hlt:j < K
    ·have hlti:(j:Int) < (K:Int):=by omega
     have hws:IntKind.i64.wrap ((j:Int)+1)=((j+1:Nat):Int):=wn Om
     have hset:=fam_set (fun _=>(⟨1,0,⟨#[]⟩,0,0⟩:Nd)) (l:=List.replicate K (default:Nd)) (j:=j) (by simpa using hlt)
     have hjl:j < (fam (fun _=>(⟨1,0,⟨#[]⟩,0,0⟩:Nd)) j++(List.replicate K (default:Nd)).drop j).length:=by rw[fam_drop_len _ (by simp;omega)];simpa using hlt
     have hat:=fam_drop_at (fun _=>(⟨1,0,⟨#[]⟩,0,0⟩:Nd)) (l:=List.replicate K (default:Nd)) (j:=j) (by simpa using hlt) hjl
     have t0:st false 1 (ptr (n6+3) (j * 5)) (.int .i64 1) H'=some (H'.set (n6+3) (some (.row (((fam (fun _=>(⟨1,0,⟨#[]⟩,0,0⟩:Nd)) j++(List.replicate K (default:Nd)).drop j).set j ⟨1,0,⟨#[]⟩,0,0⟩).flatMap eNode.cells) 5 true))):=st_fcD (E:=eNode) hH hjl (f:=0) (by decide) (y:=⟨1,0,⟨#[]⟩,0,0⟩) (c:=.int .i64 1) rfl (by rw[hat];simp;rfl)
     rw[hset]at t0
     have hix:=idx_sl (sz:=5) (id:=n6+3) (k:=.i64) hlt
     refine W0 (Yj e3 e5 @ld_r hB @Yc hlti hix (Zu t0 hws)) ?_
     exact Wp.pure (Nxt.go (d - 1) Om ⟨j+1,by omega,by omega,(Mm s0),Pp e2,Pp e3,Po,by simp(disch:=omega) only[Zf,hB],Ze _ _ _⟩)
    ·have hlti:¬ (j:Int) < (K:Int):=by omega
     refine W0 (Xq e3 e5 @ld_r hB @Yc hlti) ?_
     have hjK:j=K:=by omega
     subst hjK
     exact Wp.pure (Nxt.exit ⟨So,s0,rfl,Pp e2,Pp e3,hB,by simpa using hH⟩)
   ·rintro⟨pe,pt,pH,pn⟩ ⟨p1,p2,rfl,p3,p4,p5,p6⟩
    simp only at p1 p2 p3 p4 p5 p6
    refine W1 (Wt p3 p4 p5 p2 s7 s6 s1) ?_
    refine Wp.pure ⟨So,(Mm (Yv p2 s7 s6 s1)),c7.mv So (Mm p2),_,fam (fun _=>(⟨1,0,⟨#[]⟩,0,0⟩:Nd)) K,rfl,?_,?_,n6+3,by omega,So,.inr ⟨by rw[fam_len],by simp(disch:=omega) only[Zf,p6]⟩⟩
    ·intro x hx
     unfold fam at hx
     obtain⟨_,_,rfl⟩:=List.mem_map.1 hx
     exact show(⟨#[]⟩:ByteArray).size<=100 by decide
    ·rw[fam_len];exact hKl
def digB (a:Int):Bool:=decide (48<=a/\a<=57)
def wordB (a:Int):Bool:=Xj a || digB a || decide (a=35)
theorem k155 (a:Int)(H:Hp)(n:Nat):Rt Tryz.prog 155 [.int .u8 a] H n (.bool (digB a)):=by
 apply Rt.mk
 rw[c155];unfold S155 digB
 by_cases h1:48<=a
 ·refine W0 h1 ?_
  exact Wp.pure ⟨So,Mo,by simp[h1]⟩
 ·refine W0 h1 ?_
  exact Wp.pure ⟨So,Mo,by simp[h1]⟩
theorem k146 (a:Int)(H:Hp)(n:Nat):Rt Tryz.prog 146 [.int .u8 a] H n (.bool (wordB a)):=by
 apply Rt.mk
 rw[c146];unfold S146 wordB
 by_cases h1:Xj a=true
 ·refine W0 (Zu @k116 h1) ?_
  exact Wp.pure ⟨So,Mo,by simp[h1]⟩
 ·have h1':Xj a=false:=by simpa using h1
  refine W0 (Zu @k116 h1') ?_
  refine Zv (k155 a _ _) ?_
  intro H1 n1 q1 s1
  by_cases h2:digB a=true
  ·refine W0 h2 ?_
   exact Wp.pure ⟨So,(Mm s1),by simp[h1',h2]⟩
  ·have h2':digB a=false:=by simpa using h2
   refine W0 h2' ?_
   exact Wp.pure ⟨So,(Mm s1),by simp[h1',h2']⟩
theorem kB166 (x:Int)(hx : -1000000000000<=x/\x<=1000000000000)(H:Hp)(n:Nat):Rt Tryz.prog 166 [.int .i64 x] H n (.string (Vo (decOf x))):=by
 by_cases h:x < 0
 ·rw[decOf_neg h]
  apply Rt.mk
  rw[c166];unfold S166
  have hw:IntKind.i64.wrap (0 - x)=((x.natAbs:Nat):Int):=by rw[Wo Om];omega
  have hz:=digs_sz (m:=x.natAbs) Om
  have ha:=s_add (a:=⟨#[45]⟩) (b:=Vo (digs x.natAbs)) (by show 1+_<=_;omega)
  refine W1 (Zu h hw) ?_
  refine Zv (kN166 x.natAbs Om _ _) ?_
  intro H1 n1 q1 s1
  refine W1 ha ?_
  exact Wp.pure ⟨So,(Mm s1),by rw[show(45 :: digs x.natAbs)=[45]++digs x.natAbs from rfl,str_app];rfl⟩
 ·rw[decOf_nat h]
  have:=kN166 x.natAbs Om H n
  rw[show(x.natAbs:Int)=x by omega]at this
  exact this
def numL (x:Int)(l:List Int):Int:=l.foldl (fun x d=>10 * x+d - 48) x
theorem numL_rng:∀ (l:List Int)(k:Nat),(∀ d∈l,digB d=true)->l.length<=k->k<=10->∀ x:Int,0<=x->x < 10 ^ (10 - k)->0<=numL x l/\numL x l < 10 ^ (10 - k+l.length)
 | [],k,_,_,_,x,h0,h1=>⟨h0,h1⟩
 | d :: l,k,hd,hl,hk,x,h0,h1=>by
  have h2:48<=d/\d<=57:=by simpa[digB]using hd d List.mem_cons_self
  have hkl:l.length+1<=k:=hl
  have e:(10:Int) ^ (10 - (k - 1))=10 * 10 ^ (10 - k):=by
   rw[show 10 - (k - 1)=(10 - k)+1 by omega,Int.pow_succ];omega
  have:=numL_rng l (k - 1) (fun y hy=>hd y (List.mem_cons_of_mem _ hy)) Om Om (10 * x+d - 48) Om (by rw[e];omega)
  rw[show 10 - (k - 1)+l.length=10 - k+(l.length+1) by omega]at this
  exact this
theorem numL_lt {l:List Int}(hd:∀ d∈l,digB d=true)(hl:l.length<=10):0<=numL 0 l/\numL 0 l < 10000000000:=by
 have h1:=numL_rng l l.length hd (Nat.le_refl _) hl 0 Om (by
  have:(0:Int) < 10 ^ (10 - l.length):=Int.pow_pos Om
  exact this)
 rw[show 10 - l.length+l.length=10 by omega]at h1
 exact⟨h1.1,by have:=h1.2;simpa using this⟩
theorem numL_snoc (x:Int)(l:List Int)(d:Int):numL x (l++[d])=10 * numL x l+d - 48:=by simp[numL,List.foldl_append]
def sgnB (w:List Int):List Int:=if 1 < w.length/\w.headD 0=45 then w.tail else w
def numM (w:List Int):Int × Bool :=
 if 10 < (sgnB w).length∨(sgnB w).length=0 then(0,false)
 else if(sgnB w).all digB=true then
  ((if(sgnB w).length=w.length then numL 0 (sgnB w)else -numL 0 (sgnB w)),decide (decOf (if(sgnB w).length=w.length then numL 0 (sgnB w)else -numL 0 (sgnB w))=w /\ -1000000000<=(if(sgnB w).length=w.length then numL 0 (sgnB w)else -numL 0 (sgnB w))/\(if(sgnB w).length=w.length then numL 0 (sgnB w)else -numL 0 (sgnB w))<=1000000000))
 else(0,false)
theorem str_dec {x:Int}{w:ByteArray}:Vo (decOf x)=w↔decOf x=Zk w:=by
 constructor
 ·rintro rfl
  rw[nums_str]
  intro y hy
  have:=decOf_rng x y hy
  omega
 ·intro h
  rw[h,str_nums]
theorem l156 (s:ByteArray)(hs:s.size<=10):∀ t H n,t 4=.string s->t 5=.int .i64 0->t 6=.int .i64 0->∀ w,t 0=.string w->t 2=.int .i64 0->t 3=.bool false ->
  Wp (Zm (S156L0 (Call Tryz.prog) Zm) t H n) (fun o=>n<=o.n/\(∀ i,i < n->o.H i=H i)/\((o.e=.exit 0/\(Zk s).all digB=true/\o.t 0=.string w/\o.t 4=.string s/\o.t 5=.int .i64 (numL 0 (Zk s)))∨(o.e=.ret/\(Zk s).all digB=false/\o.t 2=.int .i64 0/\o.t 3=.bool false))):=by
 intro t H n e4 e5 e6 w e0 e2 e3
 refine Zt (fun d T H' n'=>∃ j:Nat,j+d=s.size/\n<=n'/\(∀ i,i < n->H' i=H i)/\T 0=.string w/\T 2=.int .i64 0/\T 3=.bool false/\T 4=.string s/\T 5=.int .i64 (numL 0 ((Zk s).take j))/\T 6=.int .i64 (j:Int)/\((Zk s).take j).all digB=true) _ ?_ s.size t H n ⟨0,by omega,by omega,fun _ _=>rfl,e0,e2,e3,e4,by simpa[numL]using e5,by simpa using e6,by simp⟩
 rintro d T H' n' ⟨j,hj,hn,s0,e0,e2,e3,e4,e5,e6,hall⟩
 unfold S156L0
 have hlen:=Yn s
 by_cases hlt:j < s.size
 ·have hlti:(j:Int) < s.size:=by omega
  have hix:=idx_nums (k:=.i64) hlt
  have htk:=Wa (l:=Zk s) (j:=j) Om
  refine W0 (Xq e0 e4 e5 e6 hlti hix) ?_
  refine Zv (k155 _ _ _) ?_
  intro H1 n1 q1 s1
  by_cases hd:digB ((Zk s)[j]'Om)=true
  ·have hr:=numL_lt (l:=(Zk s).take j) (by intro d hd;exact List.all_eq_true.1 hall d hd) (by rw[List.length_take];omega)
   have hb:48<=(Zk s)[j]'Om/\(Zk s)[j]'Om<=57:=by simpa[digB]using hd
   have w1:IntKind.i64.wrap (10 * numL 0 ((Zk s).take j))=10 * numL 0 ((Zk s).take j):=Wo Om
   have w2:IntKind.i64.wrap (10 * numL 0 ((Zk s).take j)+(Zk s)[j]'Om)=10 * numL 0 ((Zk s).take j)+(Zk s)[j]'Om:=Wo Om
   have w3:IntKind.i64.wrap (10 * numL 0 ((Zk s).take j)+(Zk s)[j]'Om - 48)=10 * numL 0 ((Zk s).take j)+(Zk s)[j]'Om - 48:=Wo Om
   have w4:IntKind.i64.wrap ((Zk s)[j]'Om)=(Zk s)[j]'Om:=Wo Om
   have w5:=wn (j:=j) Om
   refine W0 (Yj hd e0 e4 e5 e6 hix w1 (Yv w2 w3 w4 w5)) ?_
   refine Wp.pure (Nxt.go (d - 1) Om ⟨j+1,by omega,by omega,(Mm (Zu s1 s0)),Pp e0,Pp e2,Pp e3,Pp e4,?_,Po,?_⟩)
   ·rw[htk,numL_snoc];simp[Zn]
   ·rw[htk,List.all_append,hall];simp[hd]
  ·have hd':digB ((Zk s)[j]'Om)=false:=by simpa using hd
   refine W0 hd' ?_
   refine Wp.pure (Nxt.ret ⟨So,(Mm (Zu s1 s0)),.inr ⟨rfl,?_,Po,Po⟩⟩)
   rw[List.all_eq_false]
   exact⟨_,List.getElem_mem _,hd⟩
 ·have hlti:¬ (j:Int) < s.size:=by omega
  rw[List.take_of_length_le Om]at e5 hall
  refine W0 (Ye e4 e6 hlti) ?_
  exact Wp.pure (Nxt.exit ⟨So,s0,.inl ⟨rfl,hall,Pp e0,Pp e4,Pp e5⟩⟩)
theorem ext_nums (w:ByteArray)(a b:Nat):Zk (w.extract a b)=((Zk w).drop a).take (b - a):=by
 simp only[Zk,ByteArray.data_extract,Array.toList_extract,List.extract_eq_take_drop,List.map_take,List.map_drop]
theorem ext1_nums {w:ByteArray}:Zk (w.extract 1 w.size)=(Zk w).tail:=by
 rw[ext_nums,List.take_of_length_le (by rw[List.length_drop,Yn];omega),List.drop_one]
theorem hd_nums {l:List Int}(h:0 < l.length):l[0]=l.headD 0:=by
 cases l with
 | nil=>simp at h
 | cons a l=>rfl
theorem numM_no {w:List Int}(h:10 < (sgnB w).length∨(sgnB w).length=0):numM w=(0,false):=by unfold numM;rw[if_pos h]
theorem numM_nd {w:List Int}(h:(sgnB w).all digB=false):numM w=(0,false):=by unfold numM;rw[h];split <;> simp
theorem numM_eq {w:List Int}(h:¬ (10 < (sgnB w).length∨(sgnB w).length=0)) (h2:(sgnB w).all digB=true){x:Int}(hx:x=if(sgnB w).length=w.length then numL 0 (sgnB w)else -numL 0 (sgnB w)):numM w=(x,decide (decOf x=w /\ -1000000000<=x/\x<=1000000000)):=by unfold numM;rw[if_neg h,if_pos h2,← hx]
theorem k156 (w:ByteArray)(hw:w.size<=1048576)(H:Hp)(n:Nat):Rt Tryz.prog 156 [.string w] H n (.tuple ⟨[.int .i64 (numM (Zk w)).1,.bool (numM (Zk w)).2]⟩):=by
 apply Rt.mk
 rw[c156];unfold S156
 have hlen:=Yn w
 by_cases c1:1 < w.size
 ·have c1i:(1:Int) < w.size:=by omega
  have hix:idxS (.string w) (.int .i64 0)=some (.int .u8 ((Zk w).headD 0)):=by
   have:=idx_nums (k:=.i64) (s:=w) (j:=0) Om
   rw[hd_nums]at this
   exact this
  by_cases c2:(Zk w).headD 0=45
  ·obtain⟨s,hse⟩:∃ s,s=w.extract 1 w.size:=⟨_,rfl⟩
   have hs:sgnB (Zk w)=Zk s:=by unfold sgnB;rw[if_pos ⟨by omega,c2⟩,hse,ext1_nums]
   have hsv:Yt 0 (.string w) (some (.int .i64 1)) none=some (.string s):=by rw[hse];simp[Yt,bnd,show 1<=w.size by omega]
   have hse0:=True.intro
   have hsl:=Yn s
   by_cases h10:10 < s.size
   ·have h10i:(10:Int) < s.size:=by omega
    refine W1 (Xm c1i hix c2 hsv h10i) ?_
    exact Wp.pure ⟨So,Mo,by rw[numM_no (.inl (by rw[hs];omega))]⟩
   have h10i:¬ (10:Int) < s.size:=by omega
   by_cases h0:s.size=0
   ·have h0i:(s.size:Int)=0:=by omega
    have h10j:¬ (10:Int) < 0:=by omega
    refine W1 (Wt c1i hix c2 hsv h10i h0i h10j) ?_
    exact Wp.pure ⟨So,Mo,by rw[numM_no (.inr (by rw[hs];omega))]⟩
   have h0i:¬ (s.size:Int)=0:=by omega
   refine W1 (Xq c1i hix c2 hsv h10i h0i) ?_
   refine Wp.bind (l156 s Om _ _ _ (by simp[Zn,Zz,hse0]) Pa Pa w Pa Pa Pa) ?_
   rintro⟨oe,ot,oH,on⟩ ⟨f1,f2,f3⟩
   simp only at f1 f2 f3
   rcases f3 with⟨rfl,ha,g0,g4,g5⟩|⟨rfl,ha,g2,g3⟩
   ·have hr:=numL_lt (l:=Zk s) (by intro d hd;exact List.all_eq_true.1 ha d hd) Om
    have hnm:=numM_eq (w:=Zk w) (by rw[hs];omega) (by rw[hs];exact ha) rfl
    rw[hs]at hnm
    by_cases hne:(s.size:Int)=w.size
    ·have hne':(Zk s).length=(Zk w).length:=by omega
     rw[if_pos hne']at hnm
     rw[hnm]
     refine W0 (Yv g0 g4 g5 hne) ?_
     refine Zv (kB166 _ Om _ _) ?_
     intro H1 n1 q1 s1
     generalize numL 0 (Zk s)=x at *
     by_cases hq:Vo (decOf x)=w
     ·have hq':=str_dec.1 hq
      refine W1 (Ye g0 g5 hq) ?_
      refine W0 (Zu g5 @k47) ?_
      simp(disch:=omega)only[↓reduceIte,Zr,↓X0,X1,Nat.reduceEqDiff,Int.reduceEq,Nat.reduceAdd,Nat.reduceSub]
      exact Wp.pure ⟨So,(Mm (Zu s1 f2)),by simp only[hq',true_and]⟩
     ·have hq':¬ decOf x=Zk w:=fun h=>hq (str_dec.2 h)
      refine W1 (Ye g0 g5 hq) ?_
      simp(disch:=omega)only[↓reduceIte,Zr,↓X0,X1,Nat.reduceEqDiff,Int.reduceEq,Nat.reduceAdd,Nat.reduceSub]
      exact Wp.pure ⟨So,(Mm (Zu s1 f2)),by simp only[hq',false_and];rfl⟩
    ·have hne':¬ (Zk s).length=(Zk w).length:=by omega
     rw[if_neg hne']at hnm
     rw[hnm]
     have hw0:IntKind.i64.wrap (0 - numL 0 (Zk s)) = -numL 0 (Zk s):=by rw[Wo Om];omega
     refine W0 (Xm g0 g4 g5 hne hw0) ?_
     refine Zv (kB166 _ Om _ _) ?_
     intro H1 n1 q1 s1
     generalize -numL 0 (Zk s)=x at *
     by_cases hq:Vo (decOf x)=w
     ·have hq':=str_dec.1 hq
      refine W1 (Ye g0 g5 hq) ?_
      refine W0 (Zu g5 @k47) ?_
      simp(disch:=omega)only[↓reduceIte,Zr,↓X0,X1,Nat.reduceEqDiff,Int.reduceEq,Nat.reduceAdd,Nat.reduceSub]
      exact Wp.pure ⟨So,(Mm (Zu s1 f2)),by simp only[hq',true_and]⟩
     ·have hq':¬ decOf x=Zk w:=fun h=>hq (str_dec.2 h)
      refine W1 (Ye g0 g5 hq) ?_
      simp(disch:=omega)only[↓reduceIte,Zr,↓X0,X1,Nat.reduceEqDiff,Int.reduceEq,Nat.reduceAdd,Nat.reduceSub]
      exact Wp.pure ⟨So,(Mm (Zu s1 f2)),by simp only[hq',false_and];rfl⟩
   ·rw[numM_nd (w:=Zk w) (by rw[hs];exact ha)]
    simp(disch:=omega)only[↓reduceIte,Zr,↓X0,X1,Nat.reduceEqDiff,Int.reduceEq,Nat.reduceAdd,Nat.reduceSub,g2,g3]
    exact Wp.pure ⟨So,(Mm f2),rfl⟩
  ·have hs:sgnB (Zk w)=Zk w:=by unfold sgnB;rw[if_neg (fun h=>c2 h.2)]
   have hsv:=c1i
   have hse0:=True.intro
   have hsl:=Yn w
   by_cases h10:10 < w.size
   ·have h10i:(10:Int) < w.size:=by omega
    refine W1 (Xm c1i hix c2 hsv h10i) ?_
    exact Wp.pure ⟨So,Mo,by rw[numM_no (.inl (by rw[hs];omega))]⟩
   have h10i:¬ (10:Int) < w.size:=by omega
   by_cases h0:w.size=0
   ·rcases Nat.lt_or_ge 1 w.size with hc|hc
    ·exfalso;omega
    have h0i:(w.size:Int)=0:=by omega
    have h1j:¬ (1:Int) < 0:=by decide
    have h10j:¬ (10:Int) < 0:=by decide
    refine W1 (Ye h0i h1j h10j) ?_
    exact Wp.pure ⟨So,Mo,by rw[numM_no (.inr (by rw[hs];omega))]⟩
   have h0i:¬ (w.size:Int)=0:=by omega
   refine W1 (Xq c1i hix c2 hsv h10i h0i) ?_
   refine Wp.bind (l156 w Om _ _ _ (by simp[Zn,Zz,hse0]) Pa Pa w Pa Pa Pa) ?_
   rintro⟨oe,ot,oH,on⟩ ⟨f1,f2,f3⟩
   simp only at f1 f2 f3
   rcases f3 with⟨rfl,ha,g0,g4,g5⟩|⟨rfl,ha,g2,g3⟩
   ·have hr:=numL_lt (l:=Zk w) (by intro d hd;exact List.all_eq_true.1 ha d hd) Om
    have hnm:=numM_eq (w:=Zk w) (by rw[hs];omega) (by rw[hs];exact ha) rfl
    rw[hs]at hnm
    by_cases hne:(w.size:Int)=w.size
    ·have hne':(Zk w).length=(Zk w).length:=by omega
     rw[if_pos hne']at hnm
     rw[hnm]
     refine W0 (Yv g0 g4 g5 hne) ?_
     refine Zv (kB166 _ Om _ _) ?_
     intro H1 n1 q1 s1
     generalize numL 0 (Zk w)=x at *
     by_cases hq:Vo (decOf x)=w
     ·have hq':=str_dec.1 hq
      refine W1 (Ye g0 g5 hq) ?_
      refine W0 (Zu g5 @k47) ?_
      simp(disch:=omega)only[↓reduceIte,Zr,↓X0,X1,Nat.reduceEqDiff,Int.reduceEq,Nat.reduceAdd,Nat.reduceSub]
      exact Wp.pure ⟨So,(Mm (Zu s1 f2)),by simp only[hq',true_and]⟩
     ·have hq':¬ decOf x=Zk w:=fun h=>hq (str_dec.2 h)
      refine W1 (Ye g0 g5 hq) ?_
      simp(disch:=omega)only[↓reduceIte,Zr,↓X0,X1,Nat.reduceEqDiff,Int.reduceEq,Nat.reduceAdd,Nat.reduceSub]
      exact Wp.pure ⟨So,(Mm (Zu s1 f2)),by simp only[hq',false_and];rfl⟩
    ·exact absurd rfl hne
   ·rw[numM_nd (w:=Zk w) (by rw[hs];exact ha)]
    simp(disch:=omega)only[↓reduceIte,Zr,↓X0,X1,Nat.reduceEqDiff,Int.reduceEq,Nat.reduceAdd,Nat.reduceSub,g2,g3]
    exact Wp.pure ⟨So,(Mm f2),rfl⟩
 ·have c1i:¬ (1:Int) < w.size:=by omega
  have hs:sgnB (Zk w)=Zk w:=by unfold sgnB;rw[if_neg (fun h=>c1 Om)]
  have hsv:=c1i
  have hix:=c1i
  have c2:=c1i
  have hse0:=True.intro
  have hsl:=Yn w
  by_cases h10:10 < w.size
  ·have h10i:(10:Int) < w.size:=by omega
   refine W1 (Xm c1i hix c2 hsv h10i) ?_
   exact Wp.pure ⟨So,Mo,by rw[numM_no (.inl (by rw[hs];omega))]⟩
  have h10i:¬ (10:Int) < w.size:=by omega
  by_cases h0:w.size=0
  ·rcases Nat.lt_or_ge 1 w.size with hc|hc
   ·exfalso;omega
   have h0i:(w.size:Int)=0:=by omega
   have h1j:¬ (1:Int) < 0:=by decide
   have h10j:¬ (10:Int) < 0:=by decide
   refine W1 (Ye h0i h1j h10j) ?_
   exact Wp.pure ⟨So,Mo,by rw[numM_no (.inr (by rw[hs];omega))]⟩
  have h0i:¬ (w.size:Int)=0:=by omega
  refine W1 (Xq c1i hix c2 hsv h10i h0i) ?_
  refine Wp.bind (l156 w Om _ _ _ (by simp[Zn,Zz,hse0]) Pa Pa w Pa Pa Pa) ?_
  rintro⟨oe,ot,oH,on⟩ ⟨f1,f2,f3⟩
  simp only at f1 f2 f3
  rcases f3 with⟨rfl,ha,g0,g4,g5⟩|⟨rfl,ha,g2,g3⟩
  ·have hr:=numL_lt (l:=Zk w) (by intro d hd;exact List.all_eq_true.1 ha d hd) Om
   have hnm:=numM_eq (w:=Zk w) (by rw[hs];omega) (by rw[hs];exact ha) rfl
   rw[hs]at hnm
   by_cases hne:(w.size:Int)=w.size
   ·have hne':(Zk w).length=(Zk w).length:=by omega
    rw[if_pos hne']at hnm
    rw[hnm]
    refine W0 (Yv g0 g4 g5 hne) ?_
    refine Zv (kB166 _ Om _ _) ?_
    intro H1 n1 q1 s1
    generalize numL 0 (Zk w)=x at *
    by_cases hq:Vo (decOf x)=w
    ·have hq':=str_dec.1 hq
     refine W1 (Ye g0 g5 hq) ?_
     refine W0 (Zu g5 @k47) ?_
     simp(disch:=omega)only[↓reduceIte,Zr,↓X0,X1,Nat.reduceEqDiff,Int.reduceEq,Nat.reduceAdd,Nat.reduceSub]
     exact Wp.pure ⟨So,(Mm (Zu s1 f2)),by simp only[hq',true_and]⟩
    ·have hq':¬ decOf x=Zk w:=fun h=>hq (str_dec.2 h)
     refine W1 (Ye g0 g5 hq) ?_
     simp(disch:=omega)only[↓reduceIte,Zr,↓X0,X1,Nat.reduceEqDiff,Int.reduceEq,Nat.reduceAdd,Nat.reduceSub]
     exact Wp.pure ⟨So,(Mm (Zu s1 f2)),by simp only[hq',false_and];rfl⟩
   ·exact absurd rfl hne
  ·rw[numM_nd (w:=Zk w) (by rw[hs];exact ha)]
   simp(disch:=omega)only[↓reduceIte,Zr,↓X0,X1,Nat.reduceEqDiff,Int.reduceEq,Nat.reduceAdd,Nat.reduceSub,g2,g3]
   exact Wp.pure ⟨So,(Mm f2),rfl⟩
def wTrue:ByteArray:=⟨#[35,116]⟩
def wFalse:ByteArray:=⟨#[35,102]⟩
def wordN (w:ByteArray):Nd × Bool :=
 if w=wTrue then(⟨2,1,⟨#[]⟩,0,0⟩,true)
 else if w=wFalse then(⟨2,0,⟨#[]⟩,0,0⟩,true)
 else if(numM (Zk w)).2=true then(⟨3,(numM (Zk w)).1,⟨#[]⟩,0,0⟩,true)
 else(⟨4,0,w,0,0⟩,Yd w)
theorem k147 (w:ByteArray)(hw:w.size<=1048576)(H:Hp)(n:Nat):Rt Tryz.prog 147 [.string w] H n (.tuple ⟨[.agg ⟨(wordN w).1.cells⟩,.bool (wordN w).2]⟩):=by
 apply Rt.mk
 rw[c147];unfold S147 wordN
 rw[show(⟨#[35,116]⟩:ByteArray)=wTrue from rfl,show(⟨#[35,102]⟩:ByteArray)=wFalse from rfl]
 by_cases h1:w=wTrue
 ·refine W1 h1 ?_
  exact Wp.pure ⟨So,Mo,by simp only[h1,if_true];rfl⟩
 by_cases h2:w=wFalse
 ·refine W1 (Ye h1 h2 (show¬ wFalse=wTrue by decide)) ?_
  exact Wp.pure ⟨So,Mo,by simp only[h2,show¬ wFalse=wTrue by decide,if_true,if_false];rfl⟩
 refine W1 (Zu h1 h2) ?_
 refine Zv (k156 w hw _ _) ?_
 intro H1 n1 q1 s1
 rw[if_neg h1,if_neg h2]
 by_cases h3:(numM (Zk w)).2=true
 ·refine W1 (Zu h3 s1) ?_
  exact Wp.pure ⟨So,(Mm s1),by rw[if_pos h3];rfl⟩
 ·have h3':(numM (Zk w)).2=false:=by simpa using h3
  refine W1 (Zu h3' s1) ?_
  refine Zv (sNameOk w hw _ _) ?_
  intro H2 n2 q2 s2
  refine W1 (Zu s1 s2) ?_
  exact Wp.pure ⟨So,(Mm (Zu s1 s2)),by rw[if_neg h3];rfl⟩
structure RS where
 at_:Nat
 stk:List (Int × List Int)
 out:List Nd
def wlen (bs:List Int)(j:Nat):Nat:=((bs.drop j).takeWhile wordB).length
theorem wlen_yes {bs:List Int}{j:Nat}(h:j < bs.length)(hb:wordB bs[j]=true):wlen bs j=wlen bs (j+1)+1:=by
 unfold wlen
 rw[List.drop_eq_getElem_cons h,List.takeWhile_cons_of_pos hb,List.length_cons]
theorem wlen_no {bs:List Int}{j:Nat}(h:j < bs.length)(hb:¬ wordB bs[j]=true):wlen bs j=0:=by
 unfold wlen
 rw[List.drop_eq_getElem_cons h,List.takeWhile_cons_of_neg hb];rfl
theorem wlen_end {bs:List Int}{j:Nat}(h:bs.length<=j):wlen bs j=0:=by
 unfold wlen
 rw[List.drop_eq_nil_of_le h];rfl
theorem wlen_le (bs:List Int)(j:Nat):wlen bs j<=bs.length - j:=by
 unfold wlen
 have:=List.Sublist.length_le (List.takeWhile_sublist wordB (l:=bs.drop j))
 rw[List.length_drop]at this
 exact this
def Xl (w:ByteArray)(s:RS):Except (Int × Int) RS :=
 let b:=(Zk w).getD s.at_ 0
 if b=32 then .ok ⟨s.at_+1,s.stk,s.out⟩
 else if b=40 then .ok ⟨s.at_+1,((s.at_:Int),[]) :: s.stk,s.out⟩
 else if b=41 then
  match s.stk with
  | f :: g :: r=>.ok ⟨s.at_+1,(g.1,g.2++[(s.out.length:Int)+f.2.length]) :: r,s.out++lNodes s.out.length f.2⟩
  | _=>.error (5,s.at_)
 else if wordB b=true then
  if(wordN (w.extract s.at_ (s.at_+wlen (Zk w) s.at_))).2=true then
   match s.stk with
   | f :: r=>.ok ⟨s.at_+wlen (Zk w) s.at_,(f.1,f.2++[(s.out.length:Int)]) :: r,s.out++[(wordN (w.extract s.at_ (s.at_+wlen (Zk w) s.at_))).1]⟩
   | _=>.error (0,0)
  else .error (3,s.at_)
 else .error (2,s.at_)
def rdRun (w:ByteArray):Nat->RS->Except (Int × Int) RS
 | 0,s=>.ok s
 | k+1,s=>if s.at_ < w.size then(match Xl w s with
  | .ok s'=>rdRun w k s'
  | .error r=>.error r)else .ok s
def rs0:RS:=⟨0,[(0,[])],[]⟩
theorem rdRun_end {w:ByteArray}{k:Nat}{s:RS}(h:¬ s.at_ < w.size):rdRun w k s=.ok s:=by
 cases k with
 | zero=>rfl
 | succ k=>rw[rdRun,if_neg h]
theorem rdRun_ok {w:ByteArray}{k:Nat}{s s':RS}(h:s.at_ < w.size)(h2:Xl w s=.ok s'):rdRun w (k+1) s=rdRun w k s':=by rw[rdRun,if_pos h,h2]
theorem rdRun_err {w:ByteArray}{k:Nat}{s:RS}{r:Int × Int}(h:s.at_ < w.size)(h2:Xl w s=.error r):rdRun w (k+1) s=.error r:=by rw[rdRun,if_pos h,h2]
structure RFr where
 p:Int
 xs:List Int
 v:Value
 id:Nat
def RFr.m (f:RFr):Int × List Int:=(f.p,f.xs)
def frc (f:RFr):List Value:=[.int .i64 f.p,f.v]
def rows (G:List RFr):List Value:=G.reverse.flatMap frc
theorem rows_cons (f:RFr)(G:List RFr):rows (f :: G)=rows G++[.int .i64 f.p,f.v]:=by simp[rows,frc]
theorem Vj:∀ G:List RFr,(rows G).length=G.length * 2
 | []=>rfl
 | f :: G=>by rw[rows_cons,List.length_append,Vj G];simp;omega
theorem mid_ld {H:Hp}{oid k:Nat}{A R:List Value}{x y:Value}{e:Nat}(h:H oid=some (.row (A++(x :: y :: R)) e true)) (hA:A.length=k * 2)(f:Nat)(hf:f=0∨f=1):ld false 1 (ptr oid (k * 2+f)) H=some (if f=0 then x else y):=by
 rw[ld_r,h,Yc,← hA]
 rcases hf with rfl|rfl
 ·simp
 ·simp[List.getElem?_append_right]
theorem mid_st {H:Hp}{oid k:Nat}{A R:List Value}{x y y':Value}{e:Nat}(h:H oid=some (.row (A++(x :: y :: R)) e true)) (hA:A.length=k * 2)(hy:cell1 y'=true):st false 1 (ptr oid (k * 2+1)) y' H=some (H.set oid (some (.row (A++(x :: y' :: R)) e true))):=by
 rw[st_c hy,stv_box h,← hA,setAt_right,if_pos (by simp;omega)]
 rfl
theorem slice_pre (i k m:Nat)(hm:0 < m)(hk:m<=k):Yt 2 (sl i 0 k) none (some (.int .i64 (m:Int)))=some (sl i 0 m):=by
 simp[Yt,bnd,hk,Nat.ne_of_lt hm]
theorem Wp.papp {oid id1 id2 k:Nat}{H:Hp}{cs:List Value}{a b:Value}{β:Type}{g:Value × Hp->Option β}{Q:β->Prop}(h:H oid=some (.row cs 2 true)) (hk:k * 2<=cs.length)(hne:oid≠id1)(hb:k<=1000)
  (kk:∀ H',H' id2=some (.row (cs.take (k * 2)++[a,b]) 2 true)->(∀ i,i≠oid->i≠id1->i≠id2->H' i=H i)->Wp (g (sl id2 0 (k+1),H')) Q):Wp ((app id2 2 32 (sl oid 0 k) (sl id1 0 1) (H.set id1 (some (.row [a,b] 2 true)))).bind g) Q:=by
 have e:app id2 2 32 (sl oid 0 k) (sl id1 0 1) (H.set id1 (some (.row [a,b] 2 true)))=some (sl id2 0 (k+1),((H.set id1 (some (.row [a,b] 2 true))).set oid none).set id2 (some (.row (cs.take (k * 2)++[a,b]) 2 true))):=by
  simp(disch:=omega) [app,src,Ze,Zf,h,hk]
  omega
 rw[e]
 exact kk _ (Ze _ _ _) (fun i h1 h2 h3=>by rw[Zf _ _ h3,Zf _ _ h1,Zf _ _ h2])
structure RdI (H0:Hp)(c:Nat)(s:RS)(f:RFr)(G:List RFr)(oid pid:Nat)(J:List Value)(u:Value)(H:Hp)(n:Nat):Prop where
 es:s.stk=(f :: G).map RFr.m
 row:H oid=some (.row (rows G++(.int .i64 f.p :: f.v :: J)) 2 true)
 fr:∀ g∈f :: G,At eInt g.id H g.v g.xs/\c < g.id/\g.id < n/\g.id≠oid/\g.id≠pid
 nd:((f :: G).map RFr.id).Nodup
 pc:PC c 0 pid n H [u] 0 u s.out
 o1:c < oid
 o2:oid < n
 o3:oid≠pid
 p1:c < pid
 low:∀ i,i < c->H i=H0 i
structure RdT (w:ByteArray)(n0 c k oid a:Nat)(T:Tm):Prop where
 t1:T 1=.string w
 t2:T 2=ptr n0 0
 t4:T 4=ptr (n0+1) 0
 t8:T 8=sl (n0+5) 0 0
 t9:T 9=ptr c 0
 t10:T 10=sl oid 0 (k+1)
 t11:T 11=.int .i64 (a:Int)
theorem RdI.up {H0:Hp}{c:Nat}{s s':RS}{f:RFr}{G:List RFr}{oid pid:Nat}{J:List Value}{u:Value}{H:Hp}{n m:Nat}(h:RdI H0 c s f G oid pid J u H n)(hm:n<=m)(hs:s'.stk=s.stk)(ho:s'.out=s.out):RdI H0 c s' f G oid pid J u H m :=
 ⟨by rw[hs];exact h.es,h.row,fun g hg=>⟨(h.fr g hg).1,(h.fr g hg).2.1,by have:=(h.fr g hg).2.2.1;omega,(h.fr g hg).2.2.2⟩,h.nd,by rw[ho];exact h.pc.mv hm rfl rfl,h.o1,by have:=h.o2;omega,h.o3,h.p1,h.low⟩
structure RdB (w:ByteArray)(s:RS):Prop where
 b0:s.at_<=w.size
 b1:s.out.length<=402 * s.at_
 b2:∀ f∈s.stk,f.2.length<=s.at_
 b3:s.stk.length<=s.at_+1
 b4:∀ x∈s.out,x.s.size<=400
theorem l1291 (w:ByteArray)(hw:w.size<=400){T0:Tm}{H0:Hp}{n0 j0:Nat}(h1:T0 1=.string w)(h11:T0 11=.int .i64 (j0:Int)) (hj:j0<=w.size):Wp (Zm (S129L1 (Call Tryz.prog) Zm) T0 H0 n0) (fun o=>n0<=o.n/\(∀ i,i < n0->o.H i=H0 i)/\o.e=.exit 4/\o.t 11=.int .i64 ((j0+wlen (Zk w) j0:Nat):Int)/\∀ k∈[1,2,4,8,9,10,12,15],o.t k=T0 k):=by
 have hlen:=Yn w
 refine Zt (fun d T H n=>∃ j:Nat,j+d=w.size/\j+wlen (Zk w) j=j0+wlen (Zk w) j0/\n0<=n/\(∀ i,i < n0->H i=H0 i)/\T 11=.int .i64 (j:Int)/\∀ k∈[1,2,4,8,9,10,12,15],T k=T0 k) _ ?_ (w.size - j0) T0 H0 n0 ⟨j0,by omega,rfl,by omega,fun _ _=>rfl,h11,fun _ _=>rfl⟩
 rintro d T H n ⟨j,hjd,hjw,hn,s0,e11,ek⟩
 unfold S129L1
 have e1:T 1=.string w:=by rw[ek 1 (by simp)];exact h1
 by_cases hlt:j < w.size
 ·have hlti:(j:Int) < w.size:=by omega
  have hix:=idx_nums (k:=.i64) hlt
  by_cases hb:wordB ((Zk w)[j]'Om)=true
  ·have w1:=wn (j:=j) Om
   refine W0 (Yv e1 e11 hlti hix) ?_
   refine Zv (k146 _ _ _) ?_
   intro H1 n1 q1 s1
   refine W0 (Ye hb e11 w1) ?_
   refine Wp.pure (Nxt.go (d - 1) Om ⟨j+1,by omega,?_,by omega,(Mm (Zu s1 s0)),Po,?_⟩)
   ·rw[wlen_yes Om hb]at hjw;omega
   ·intro k hk
    rw[← ek k hk]
    simp only[List.mem_cons,List.not_mem_nil,or_false]at hk
    rcases hk with rfl|rfl|rfl|rfl|rfl|rfl|rfl|rfl <;> simp[Zn]
  ·have hb':wordB ((Zk w)[j]'Om)=false:=by simpa using hb
   refine W0 (Yv e1 e11 hlti hix) ?_
   refine Zv (k146 _ _ _) ?_
   intro H1 n1 q1 s1
   refine W0 hb' ?_
   refine Wp.pure (Nxt.exit ⟨So,(Mm (Zu s1 s0)),rfl,?_,?_⟩)
   ·rw[wlen_no Om hb]at hjw
    simp[Zn,e11];omega
   ·intro k hk
    rw[← ek k hk]
    simp only[List.mem_cons,List.not_mem_nil,or_false]at hk
    rcases hk with rfl|rfl|rfl|rfl|rfl|rfl|rfl|rfl <;> simp[Zn]
 ·have hlti:¬ (j:Int) < w.size:=by omega
  refine W0 (Ye e1 e11 hlti) ?_
  refine Wp.pure (Nxt.exit ⟨So,s0,rfl,?_,?_⟩)
  ·rw[wlen_end Om]at hjw
   simp[Zn,e11];omega
  ·intro k hk
   rw[← ek k hk]
   simp only[List.mem_cons,List.not_mem_nil,or_false]at hk
   rcases hk with rfl|rfl|rfl|rfl|rfl|rfl|rfl|rfl <;> simp[Zn]
theorem rd_sp {w:ByteArray}{s:RS}{b:Int}(h:(Zk w).getD s.at_ 0=b) (h1:b=32):Xl w s=.ok ⟨s.at_+1,s.stk,s.out⟩:=by unfold Xl;simp only[h,h1];rfl
theorem rd_op {w:ByteArray}{s:RS}{b:Int}(h:(Zk w).getD s.at_ 0=b) (h1:b=40):Xl w s=.ok ⟨s.at_+1,((s.at_:Int),[]) :: s.stk,s.out⟩:=by unfold Xl;simp only[h,h1];rfl
theorem rd_cl {w:ByteArray}{s:RS}{b:Int}(h:(Zk w).getD s.at_ 0=b) (h1:b=41){f g:Int × List Int}{r:List (Int × List Int)}(hs:s.stk=f :: g :: r):Xl w s=.ok ⟨s.at_+1,(g.1,g.2++[(s.out.length:Int)+f.2.length]) :: r,s.out++lNodes s.out.length f.2⟩:=by unfold Xl;simp only[h,h1,hs];rfl
theorem rd_cl1 {w:ByteArray}{s:RS}{b:Int}(h:(Zk w).getD s.at_ 0=b) (h1:b=41){f:Int × List Int}(hs:s.stk=[f]):Xl w s=.error (5,s.at_):=by unfold Xl;simp only[h,h1,hs];rfl
theorem rd_wd {w:ByteArray}{s:RS}{b:Int}(h:(Zk w).getD s.at_ 0=b) (h1:¬ b=32)(h2:¬ b=40)(h3:¬ b=41)(h4:wordB b=true){e:Nat}(he:e=s.at_+wlen (Zk w) s.at_) (h5:(wordN (w.extract s.at_ e)).2=true){f:Int × List Int}{r:List (Int × List Int)}(hs:s.stk=f :: r):Xl w s=.ok ⟨e,(f.1,f.2++[(s.out.length:Int)]) :: r,s.out++[(wordN (w.extract s.at_ e)).1]⟩:=by
 subst he
 unfold Xl;simp only[h,hs];rw[if_neg h1,if_neg h2,if_neg h3,if_pos h4,if_pos h5]
theorem rd_wn {w:ByteArray}{s:RS}{b:Int}(h:(Zk w).getD s.at_ 0=b) (h1:¬ b=32)(h2:¬ b=40)(h3:¬ b=41)(h4:wordB b=true){e:Nat}(he:e=s.at_+wlen (Zk w) s.at_) (h5:¬ (wordN (w.extract s.at_ e)).2=true):Xl w s=.error (3,s.at_):=by
 subst he
 unfold Xl;simp only[h];rw[if_neg h1,if_neg h2,if_neg h3,if_pos h4,if_neg h5]
theorem rd_no {w:ByteArray}{s:RS}{b:Int}(h:(Zk w).getD s.at_ 0=b) (h1:¬ b=32)(h2:¬ b=40)(h3:¬ b=41)(h4:¬ wordB b=true):Xl w s=.error (2,s.at_):=by
 unfold Xl;simp only[h];rw[if_neg h1,if_neg h2,if_neg h3,if_neg h4]
theorem bsl_f (id:Nat)(a b:Value)(H:Hp):Xx id 2 1 [.int .i64 0,nilS] [(0,2,.agg ⟨[a,b]⟩)] H=some (sl id 0 1,H.set id (some (.row [a,b] 2 true))):=by simp[Xx,fill,Zs,Yz]
theorem rows_take (f:RFr)(G:List RFr)(J:List Value){k:Nat}(hk:k=G.length):(rows G++(.int .i64 f.p :: f.v :: J)).take ((k+1) * 2)=rows (f :: G):=by
 subst hk
 rw[rows_cons,List.take_append,List.take_of_length_le (by rw[Vj];omega),Vj,show(G.length+1) * 2 - G.length * 2=2 by omega]
 rfl
theorem wordN_sz (w:ByteArray)(h:w.size<=400):(wordN w).1.s.size<=400:=by
 unfold wordN
 repeat' split
 ·exact Nat.zero_le _
 ·exact Nat.zero_le _
 ·exact Nat.zero_le _
 ·exact h
theorem ext_sz (w:ByteArray)(a b:Nat):(w.extract a b).size<=w.size:=by
 rw[ByteArray.size_extract];omega
def RdRet (H0:Hp)(n0 c:Nat)(o:Out)(h a:Int):Prop:=o.e=.ret/\(∀ i,i < c->i≠n0+1->o.H i=H0 i)/\o.t 5=sl (n0+5) 0 0/\o.t 6=.int .i64 h/\o.t 7=.int .i64 a/\o.t 4=ptr (n0+1) 0/\∃ u id,c < id/\id < o.n/\At eNode id o.H u []/\o.H (n0+1)=some (.row [u] 0 true)
theorem RdRet.of {H0 H1:Hp}{n0 c m id:Nat}{T:Tm}{h a:Int}{u:Value}(e4:T 4=ptr (n0+1) 0) (e5:T 5=sl (n0+5) 0 0) (e6:T 6=.int .i64 h)(e7:T 7=.int .i64 a)(hl:∀ i,i < c->i≠n0+1->H1 i=H0 i)(h1:c < id)(h2:id < m)(h3:n0+1 < c)(hat:At eNode id H1 u []):RdRet H0 n0 c ⟨.ret,T,H1.set (n0+1) (some (.row [u] 0 true)),m⟩ h a :=
 ⟨rfl,fun i hi hn=>(Zf _ _ hn).trans (hl i hi hn),e5,e6,e7,e4,u,id,h1,h2,hat.mv (Zf _ _ Om),Ze _ _ _⟩
def RdPost (w:ByteArray)(H0:Hp)(n0 c nb:Nat)(R:Except (Int × Int) RS) (o:Out):Prop:=nb<=o.n/\((∃ s f G oid pid J u,o.e=.exit 1/\R=.ok s/\RdB w s/\RdT w n0 c G.length oid s.at_ o.t/\RdI H0 c s f G oid pid J u o.H o.n)∨(∃ h a,R=.error (h,a)/\RdRet H0 n0 c o h a))
def RdInv (w:ByteArray)(H0:Hp)(n0 c nb:Nat)(R:Except (Int × Int) RS) (d:Nat)(T:Tm)(H:Hp)(n:Nat):Prop:=∃ s f G oid pid J u,w.size<=s.at_+d/\rdRun w d s=R/\RdB w s/\nb<=n/\RdT w n0 c G.length oid s.at_ T/\RdI H0 c s f G oid pid J u H n
theorem l129 (w:ByteArray)(hw:w.size<=400){H0:Hp}{n0 c nb:Nat}{x0:Value}(hc:n0+5 < c)(hcb:c < nb)(hp0:H0 n0=some (.row [nilS] 0 true)) (hp1:H0 (n0+1)=some (.row [x0] 0 true)){R:Except (Int × Int) RS}:∀ d T H n,RdInv w H0 n0 c nb R d T H n ->
  Wp (Zm (S129L0 (Call Tryz.prog) Zm) T H n) (RdPost w H0 n0 c nb R):=by
 refine Zt (RdInv w H0 n0 c nb R) (RdPost w H0 n0 c nb R) ?_
 rintro d T H n ⟨s,f,G,oid,pid,J,u,hd,hR,hB,hnb,hT,hI⟩
 unfold S129L0
 obtain⟨t1,t2,t4,t8,t9,t10,t11⟩:=hT
 have hlen:=Yn w
 by_cases hlt:s.at_ < w.size
 ·have hlti:(s.at_:Int) < w.size:=by omega
  obtain⟨d',rfl⟩:∃ d',d=d'+1:=⟨d - 1,by omega⟩
  obtain⟨b,hb⟩:∃ b,b=(Zk w)[s.at_]'Om:=⟨_,rfl⟩
  have hix:=idx_nums (k:=.i64) hlt
  rw[← hb]at hix
  have hgd:(Zk w).getD s.at_ 0=b:=by rw[hb];simp[List.getD,List.getElem?_eq_getElem (show s.at_ < (Zk w).length by omega)]
  have hstk:G.length<=s.at_:=by have:=hB.b3;rw[hI.es]at this;simp at this;omega
  have hG:=sub1 (m:=G.length) Om
  have wA:=wn (j:=s.at_) Om
  have hb0:=hB.b0
  by_cases c32:b=32
  ·refine W0 (Yj t1 t10 t11 hlti hix hG c32 wA) ?_
   refine Wp.pure (Nxt.go d' Om ⟨⟨s.at_+1,s.stk,s.out⟩,f,G,oid,pid,J,u,So,by rw[← hR,rdRun_ok hlt (rd_sp hgd c32)],⟨So,by have:=hB.b1;simp only;omega,fun g hg=>by have:=hB.b2 g hg;simp only;omega,by have:=hB.b3;simp only;omega,hB.b4⟩,by omega,⟨Pp t1,Pp t2,Pp t4,Pp t8,Pp t9,Pp t10,Po⟩,hI.up Om rfl rfl⟩)
  by_cases c40:b=40
  ·refine W1 (Yj t1 t10 t11 hlti hix hG c32 (Ye c40 (show¬ (40:Int)=32 by decide) @bsl_f)) ?_
   simp(disch:=omega)only[↓reduceIte,Zr,↓X0,X1,Nat.reduceEqDiff,Int.reduceEq,Nat.reduceAdd,Nat.reduceSub,t10,t11]
   refine Wp.papp hI.row (by rw[List.length_append,Vj,List.length_cons,List.length_cons];omega) (by have:=hI.o2;omega) Om ?_
   intro H1 r1 r2
   refine W0 (Zu t11 wA) ?_
   rw[rows_take f G J rfl]at r1
   have ho2:=hI.o2
   refine Wp.pure (Nxt.go d' Om ⟨⟨s.at_+1,((s.at_:Int),[]) :: s.stk,s.out⟩,⟨s.at_,[],nilS,n+24⟩,f :: G,n+22,pid,[],u,So,by rw[← hR,rdRun_ok hlt (rd_op hgd c40)],⟨So,by have:=hB.b1;simp only;omega,?_,by have:=hB.b3;simp only[List.length_cons];omega,hB.b4⟩,by omega,⟨Pp t1,Pp t2,Pp t4,Pp t8,Pp t9,Po,by simp[Zn];exact wA⟩,?_⟩)
   ·intro g hg
    rcases List.mem_cons.1 hg with rfl|hg
    ·exact Nat.zero_le _
    ·have:=hB.b2 g hg;simp only;omega
   ·have hp:=hI.pc.idn
    have hpc:=hI.pc.cn
    refine⟨by simp[hI.es,RFr.m],r1,?_,?_,hI.pc.mv Om (r2 c (by have:=hI.o1;omega) Om Om) (r2 pid (by have:=hI.o3;omega) Om Om),by first|omega|(simp only;omega),by first|omega|(simp only;omega),by first|omega|(simp only;omega),hI.p1,fun i hi=>by rw[r2 i (by have:=hI.o1;omega) Om Om];exact hI.low i hi⟩
    ·intro g hg
     rcases List.mem_cons.1 hg with rfl|hg
     ·exact⟨At.nil,by first|omega|(simp only;omega),by first|omega|(simp only;omega),by first|omega|(simp only;omega),by first|omega|(simp only;omega)⟩
     ·obtain⟨a1,a2,a3,a4,a5⟩:=hI.fr g hg
      exact⟨a1.mv (r2 _ a4 Om Om),a2,by first|omega|(simp only;omega),by first|omega|(simp only;omega),a5⟩
    ·rw[List.map_cons,List.nodup_cons]
     refine⟨fun hm=>?_,hI.nd⟩
     obtain⟨g,hg,hge⟩:=List.mem_map.1 hm
     have:=(hI.fr g hg).2.2.1
     simp only at hge;omega
  have hl0:=hI.low n0 Om
  have hl1:=hI.low (n0+1) Om
  rw[hp0]at hl0
  rw[hp1]at hl1
  have ho1:=hI.o1
  have ho2:=hI.o2
  have ho3:=hI.o3
  have hpid:=hI.pc.idn
  have hcn:=hI.pc.cn
  have hp1':=hI.p1
  by_cases c41:b=41
  ·by_cases hg0:G.length=0
   ·have hgi:(G.length:Int)=0:=by omega
    have hGn:G=[]:=List.length_eq_zero_iff.1 hg0
    have hes:=hI.es
    rw[hGn]at hes
    refine W1 (Yj t1 t2 t10 t11 hlti hix hG (Xm hgi c41 (show¬ (41:Int)=32 by decide) (show¬ (41:Int)=40 by decide) hl0)) ?_
    refine Ya (k51 (l:=[]) (v:=nilS) Li.nil (by simp)) ?_
    rintro _ H1 n1 q1 s1 ⟨u',rfl,id,i1,i2,i3⟩
    refine W1 (Xm s1 hl1 t4 t8 t11) ?_
    refine Wp.pure (Nxt.ret ⟨So,.inr ⟨5,s.at_,by rw[← hR,rdRun_err hlt (rd_cl1 hgd c41 hes)],?_⟩⟩)
    exact RdRet.of (Pp t4) (Pp t8) Po (Pp t11) (fun i hi _=>by rw[s1 i Om];exact hI.low i hi) (id:=id) Om i2 Om i3
   ·obtain⟨f2,G2,rfl⟩:∃ f2 G2,G=f2 :: G2:=by
     cases G with
     | nil=>exact absurd rfl hg0
     | cons a l=>exact⟨a,l,rfl⟩
    have hgi:¬ ((f2 :: G2).length:Int)=0:=by simp only[List.length_cons];omega
    obtain⟨k,hk⟩:∃ k,k=G2.length:=⟨_,rfl⟩
    have hkl:(f2 :: G2).length=k+1:=by rw[List.length_cons,hk]
    rw[hkl]at t10 hG hgi hstk
    have hG2:=sub1 (m:=k) Om
    have hrow:=hI.row
    obtain⟨F1,F2,F3,F4,F5⟩:=hI.fr f List.mem_cons_self
    obtain⟨E1,E2,E3,E4,E5⟩:=hI.fr f2 (List.mem_cons_of_mem _ List.mem_cons_self)
    have hx1:Zo 2 (sl oid 0 (k+1+1)) (.int .i64 ((k+1:Nat):Int))=some (ptr oid ((k+1) * 2)):=idx_sl Om
    have hl1':ld false 1 (ptr oid ((k+1) * 2+1)) H=some f.v:=mid_ld hrow (by rw[Vj,hkl]) 1 (.inr rfl)
    have hsl:=slice_pre oid (k+1+1) (k+1) Om Om
    have hx2:Zo 2 (sl oid 0 (k+1)) (.int .i64 (k:Int))=some (ptr oid (k * 2)):=idx_sl Om
    have hrow2:rows (f2 :: G2)++(.int .i64 f.p :: f.v :: J)=rows G2++(.int .i64 f2.p :: f2.v :: (.int .i64 f.p :: f.v :: J)):=by rw[rows_cons,List.append_assoc];rfl
    rw[hrow2]at hrow
    have hxs:=hB.b2 f.m (by rw[hI.es];exact List.mem_map.2 ⟨f,List.mem_cons_self,rfl⟩)
    have hxs2:=hB.b2 f2.m (by rw[hI.es];exact List.mem_map.2 ⟨f2,List.mem_cons_of_mem _ List.mem_cons_self,rfl⟩)
    have hb1:=hB.b1
    have hes:s.stk=f.m :: f2.m :: G2.map RFr.m:=hI.es
    simp only[RFr.m]at hxs hxs2
    refine W0 (Yj t1 t2 t9 t10 t11 hlti hix (Yj hG hG2 hgi c41 (show¬ (41:Int)=32 by decide) (show¬ (41:Int)=40 by decide) hx1 (Zu hl1' wA))) ?_
    refine Zj (k137 (hI.pc.mv (m:=n+30) Om rfl rfl) ((F1.lst F3).mv Om Mo) (F1.off Om) (F1.off Om) Om) ?_
    rintro _ H1 n1 q1 s1 ⟨rfl,u',pid',i1,i2⟩
    have hrow1:H1 oid=some (.row (rows G2++(.int .i64 f2.p :: f2.v :: (.int .i64 f.p :: f.v :: J))) 2 true):=by rw[s1 oid Om Om ho3];exact hrow
    have hl2:ld false 1 (ptr oid (k * 2+1)) H1=some f2.v:=mid_ld hrow1 (by rw[Vj,hk]) 1 (.inr rfl)
    refine W0 (Yj t1 t10 t11 hsl hG2 hx2 hl2 (Zu @bsl_i wA)) ?_
    refine Ub (E:=eInt) _ (E1.mv (s1 _ Om Om E5)) Om (by decide) Om ?_
    intro H2 r1 r2
    have hp':=i2.idn
    have hrow3:H2 oid=some (.row (rows G2++(.int .i64 f2.p :: f2.v :: (.int .i64 f.p :: f.v :: J))) 2 true):=by rw[r2 oid Om Om Om];exact hrow1
    have hst:=mid_st (k:=k) (y':=sl (n1+15) 0 (f2.xs++[(s.out.length:Int)+f.xs.length]).length) hrow3 (by rw[Vj,hk]) rfl
    refine W0 (Yv hx2 hst t11 wA) ?_
    refine Wp.pure (Nxt.go d' Om ⟨⟨s.at_+1,(f2.p,f2.xs++[(s.out.length:Int)+f.xs.length]) :: G2.map RFr.m,s.out++lNodes s.out.length f.xs⟩,⟨f2.p,f2.xs++[(s.out.length:Int)+f.xs.length],sl (n1+15) 0 (f2.xs++[(s.out.length:Int)+f.xs.length]).length,n1+15⟩,G2,oid,pid',.int .i64 f.p :: f.v :: J,u',by first|omega|(simp only;omega),by rw[← hR,rdRun_ok hlt (rd_cl hgd c41 hes)];rfl,⟨by first|omega|(simp only;omega),?_,?_,?_,?_⟩,by first|omega|(simp only;omega),⟨Pp t1,Pp t2,Pp t4,Pp t8,Pp t9,Pp hk,Po⟩,?_⟩)
    ·simp only[List.length_append,lNodes_len];omega
    ·intro g hg
     rcases List.mem_cons.1 hg with rfl|hg
     ·simp only[List.length_append,List.length_cons,List.length_nil];omega
     ·have:=hB.b2 g (by rw[hes];exact List.mem_cons_of_mem _ (List.mem_cons_of_mem _ hg));simp only;omega
    ·have:=hB.b3
     rw[hes]at this
     simp only[List.length_cons]at this ⊢;omega
    ·intro x hx
     rcases List.mem_append.1 hx with h|h
     ·exact hB.b4 x h
     ·rw[lNodes_s h];exact Nat.zero_le _
    ·have hnd:=hI.nd
     simp only[List.map_cons,List.nodup_cons,List.mem_cons,not_or]at hnd
     refine⟨rfl,Ze _ _ _,?_,?_,?_,ho1,by first|omega|(simp only;omega),by omega,by omega,?_⟩
     ·intro g hg
      rcases List.mem_cons.1 hg with rfl|hg
      ·exact⟨.inr ⟨rfl,(Zf _ _ (by first|omega|(simp only;omega))).trans r1⟩,by first|omega|(simp only;omega),by first|omega|(simp only;omega),by first|omega|(simp only;omega),by first|omega|(simp only;omega)⟩
      ·obtain⟨a1,a2,a3,a4,a5⟩:=hI.fr g (List.mem_cons_of_mem _ (List.mem_cons_of_mem _ hg))
       have hgn:g.id≠f2.id:=fun h=>hnd.2.1 (List.mem_map.2 ⟨g,hg,h⟩)
       exact⟨a1.mv ((Zf _ _ a4).trans ((r2 _ hgn Om Om).trans (s1 _ Om Om a5))),a2,by first|omega|(simp only;omega),a4,by omega⟩
     ·rw[List.map_cons,List.nodup_cons]
      refine⟨fun hm=>?_,hnd.2.2⟩
      obtain⟨g,hg,hge⟩:=List.mem_map.1 hm
      have:=(hI.fr g (List.mem_cons_of_mem _ (List.mem_cons_of_mem _ hg))).2.2.1
      simp only at hge;omega
     ·exact i2.mv (by first|omega|(simp only;omega)) ((Zf _ _ Om).trans (r2 c Om Om Om)) ((Zf _ _ Om).trans (r2 pid' Om Om Om))
     ·intro i hi
      exact(Zf _ _ Om).trans ((r2 i Om Om Om).trans ((s1 i Om Om Om).trans (hI.low i hi)))
  ·refine W1 (Yj t1 t10 t11 hlti hix hG c32 (Zu c40 c41)) ?_
   refine Zv (k146 b _ _) ?_
   intro H1 n1 q1 s1
   by_cases hwb:wordB b=true
   ·refine W0 hwb ?_
    refine Wp.bind (l1291 w hw (j0:=s.at_) (Pp t1) (Pp t11) Om) ?_
    rintro⟨oe,oT,oH,on⟩ ⟨f1,f2,rfl,f4,f5⟩
    simp only at f1 f2 f4 f5
    have g1:oT 1=.string w:=by rw[f5 1 (by simp)];simp[Zn,t1]
    have g2:oT 2=ptr n0 0:=by rw[f5 2 (by simp)];simp[Zn,t2]
    have g4:oT 4=ptr (n0+1) 0:=by rw[f5 4 (by simp)];simp[Zn,t4]
    have g8:oT 8=sl (n0+5) 0 0:=by rw[f5 8 (by simp)];simp[Zn,t8]
    have g9:oT 9=ptr c 0:=by rw[f5 9 (by simp)];simp[Zn,t9]
    have g10:oT 10=sl oid 0 (G.length+1):=by rw[f5 10 (by simp)];simp[Zn,t10]
    have g12:oT 12=.int .i64 (G.length:Int):=by rw[f5 12 (by simp)];simp[Zn]
    have g15:oT 15=.int .i64 (s.at_:Int):=by rw[f5 15 (by simp)];simp[Zn,t11]
    have hwl:=wlen_le (Zk w) s.at_
    have hwy:=wlen_yes (bs:=Zk w) (j:=s.at_) Om (by rw[← hb];exact hwb)
    obtain⟨e,he⟩:∃ e,e=s.at_+wlen (Zk w) s.at_:=⟨_,rfl⟩
    rw[← he]at f4
    have hsv:Yt 0 (.string w) (some (.int .i64 (s.at_:Int))) (some (.int .i64 (e:Int)))=some (.string (w.extract s.at_ e)):=by
     simp[Yt,bnd,show s.at_<=e by omega,show e<=w.size by omega]
    have hez:=ext_sz w s.at_ e
    refine W0 (Yv g1 g15 f4 hsv) ?_
    refine Zv (k147 (w.extract s.at_ e) Om _ _) ?_
    intro H2 n2 q2 s2
    by_cases h5:(wordN (w.extract s.at_ e)).2=true
    ·have hs3:∀ i,i < n->H2 i=H i:=fun i hi=>by rw[s2 i Om,f2 i Om,s1 i Om]
     obtain⟨cs,hcs⟩:∃ cs,cs=rows G++(.int .i64 f.p :: f.v :: J):=⟨_,rfl⟩
     have hrow:H2 oid=some (.row cs 2 true):=by rw[hs3 oid ho2,hI.row,hcs]
     have hget:cs[G.length * 2+1]?=some f.v:=by
      rw[hcs,List.getElem?_append_right (by rw[Vj];omega),Vj,show G.length * 2+1 - G.length * 2=1 by omega];rfl
     obtain⟨F1,F2,F3,F4,F5⟩:=hI.fr f List.mem_cons_self
     have hx1:Zo 2 (sl oid 0 (G.length+1)) (.int .i64 (G.length:Int))=some (ptr oid (G.length * 2)):=idx_sl Om
     have hxs:=hB.b2 f.m (by rw[hI.es];exact List.mem_map.2 ⟨f,List.mem_cons_self,rfl⟩)
     have hb1:=hB.b1
     have hes:s.stk=f.m :: G.map RFr.m:=hI.es
     simp only[RFr.m]at hxs
     refine W1 (Yj @Nd.cells.eq_1 h5 g9 g10 g12 hx1 hrow hget) ?_
     refine Zj (k88 (hI.pc.mv (m:=n2+16) Om ((Zf _ _ Om).trans (hs3 c Om)) ((Zf _ _ Om).trans (hs3 pid Om))) Om (wordN (w.extract s.at_ e)).1) ?_
     rintro _ H3 n3 q3 s3 ⟨rfl,u',pid',i1,i2⟩
     have hrow3:H3 oid=some (.row cs 2 true):=by rw[s3 oid Om Om ho3,Zf _ _ Om];exact hrow
     refine W1 (Wt g9 g10 g12 hx1 hrow3 hget @bsl_i) ?_
     refine Ub (E:=eInt) _ (F1.mv ((s3 _ Om Om F5).trans ((Zf _ _ Om).trans (hs3 _ F3)))) Om (by decide) Om ?_
     intro H4 r1 r2
     have hp':=i2.idn
     have hrow4:H4 oid=some (.row (rows G++(.int .i64 f.p :: f.v :: J)) 2 true):=by rw[r2 oid Om Om Om,hrow3,hcs]
     have hst:=mid_st (k:=G.length) (y':=sl (n2+12) 0 (f.xs++[(s.out.length:Int)]).length) hrow4 (by rw[Vj]) rfl
     refine W0 (Yv g10 g12 hx1 hst) ?_
     refine Wp.pure (Nxt.go d' Om ⟨⟨e,(f.p,f.xs++[(s.out.length:Int)]) :: G.map RFr.m,s.out++[(wordN (w.extract s.at_ e)).1]⟩,⟨f.p,f.xs++[(s.out.length:Int)],sl (n2+12) 0 (f.xs++[(s.out.length:Int)]).length,n2+12⟩,G,oid,pid',J,u',by first|omega|(simp only;omega),by rw[← hR,rdRun_ok hlt (rd_wd hgd c32 c40 c41 hwb he h5 hes)];rfl,⟨by first|omega|(simp only;omega),?_,?_,?_,?_⟩,by first|omega|(simp only;omega),⟨Pp g1,Pp g2,Pp g4,Pp g8,Pp g9,Pp g10,Pp f4⟩,?_⟩)
     ·simp only[List.length_append,List.length_cons,List.length_nil];omega
     ·intro g hg
      rcases List.mem_cons.1 hg with rfl|hg
      ·simp only[List.length_append,List.length_cons,List.length_nil];omega
      ·have:=hB.b2 g (by rw[hes];exact List.mem_cons_of_mem _ hg);simp only;omega
     ·have:=hB.b3
      rw[hes]at this
      simp only[List.length_cons]at this ⊢;omega
     ·intro x hx
      rcases List.mem_append.1 hx with h|h
      ·exact hB.b4 x h
      ·simp only[List.mem_cons,List.not_mem_nil,or_false]at h
       rw[h];exact wordN_sz _ Om
     ·have hnd:=hI.nd
      simp only[List.map_cons,List.nodup_cons]at hnd
      refine⟨rfl,Ze _ _ _,?_,?_,?_,ho1,by first|omega|(simp only;omega),by omega,by omega,?_⟩
      ·intro g hg
       rcases List.mem_cons.1 hg with rfl|hg
       ·exact⟨.inr ⟨rfl,(Zf _ _ (by first|omega|(simp only;omega))).trans r1⟩,by first|omega|(simp only;omega),by first|omega|(simp only;omega),by first|omega|(simp only;omega),by first|omega|(simp only;omega)⟩
       ·obtain⟨a1,a2,a3,a4,a5⟩:=hI.fr g (List.mem_cons_of_mem _ hg)
        have hgn:g.id≠f.id:=fun h=>hnd.1 (List.mem_map.2 ⟨g,hg,h⟩)
        exact⟨a1.mv ((Zf _ _ a4).trans ((r2 _ hgn Om Om).trans ((s3 _ Om Om a5).trans ((Zf _ _ Om).trans (hs3 _ a3))))),a2,by first|omega|(simp only;omega),a4,by omega⟩
      ·rw[List.map_cons,List.nodup_cons]
       refine⟨fun hm=>?_,hnd.2⟩
       obtain⟨g,hg,hge⟩:=List.mem_map.1 hm
       have:=(hI.fr g (List.mem_cons_of_mem _ hg)).2.2.1
       simp only at hge;omega
      ·exact i2.mv (by first|omega|(simp only;omega)) ((Zf _ _ Om).trans (r2 c Om Om Om)) ((Zf _ _ Om).trans (r2 pid' Om Om Om))
      ·intro i hi
       exact(Zf _ _ Om).trans ((r2 i Om Om Om).trans ((s3 i Om Om Om).trans ((Zf _ _ Om).trans ((hs3 i Om).trans (hI.low i hi)))))
    ·have h5':(wordN (w.extract s.at_ e)).2=false:=by simpa using h5
     refine W1 (Wt @Nd.cells.eq_1 h5' s2 f2 s1 hl0 g2) ?_
     refine Ya (k51 (l:=[]) (v:=nilS) Li.nil (by simp)) ?_
     rintro _ H3 n3 q3 s3 ⟨u',rfl,id,i1,i2,i3⟩
     refine W1 (Yj s3 s2 f2 s1 hl1 g4 g8 g15) ?_
     refine Wp.pure (Nxt.ret ⟨So,.inr ⟨3,s.at_,by rw[← hR,rdRun_err hlt (rd_wn hgd c32 c40 c41 hwb he h5)],?_⟩⟩)
     exact RdRet.of (Pp g4) (Pp g8) Po (Pp g15) (fun i hi _=>by rw[s3 i Om,Zf _ _ Om,s2 i Om,f2 i Om,s1 i Om];exact hI.low i hi) (id:=id) Om i2 Om i3
   ·have hwb':wordB b=false:=by simpa using hwb
    refine W1 (Yv hwb' s1 hl0 t2) ?_
    refine Ya (k51 (l:=[]) (v:=nilS) Li.nil (by simp)) ?_
    rintro _ H3 n3 q3 s3 ⟨u',rfl,id,i1,i2,i3⟩
    refine W1 (Xq s3 s1 hl1 t4 t8 t11) ?_
    refine Wp.pure (Nxt.ret ⟨So,.inr ⟨2,s.at_,by rw[← hR,rdRun_err hlt (rd_no hgd c32 c40 c41 hwb)],?_⟩⟩)
    exact RdRet.of (Pp t4) (Pp t8) Po (Pp t11) (fun i hi _=>by rw[s3 i Om,s1 i Om];exact hI.low i hi) (id:=id) Om i2 Om i3
 ·have hlti:¬ (s.at_:Int) < w.size:=by omega
  refine W0 (Ye t1 t11 hlti) ?_
  refine Wp.pure (Nxt.exit ⟨So,.inl ⟨s,f,G,oid,pid,J,u,rfl,by rw[← hR,rdRun_end hlt],hB,⟨Pp t1,Pp t2,Pp t4,Pp t8,Pp t9,Pp t10,Pp t11⟩,hI.up So rfl rfl⟩⟩)
def NewPL (lo n:Nat)(H:Hp)(u v:Value)(l:List Nd)(xs:List Int):Prop:=∃ i j,lo<=i/\i < n/\lo<=j/\j < n/\i≠j/\At eNode i H u l/\At eInt j H v xs
structure RdA where
 pool:List Nd
 list:List Int
 how:Int
 pos:Int
def rdFin (w:ByteArray)(s:RS):RdA :=
 match s.stk with
 | [f]=>if PoolOk s.out then⟨s.out,f.2,0,w.size⟩else⟨[],[],6,0⟩
 | f :: _=>⟨[],[],4,f.1⟩
 | []=>⟨[],[],0,0⟩
def Vx (w:ByteArray):RdA :=
 if 400 < w.size then⟨[],[],1,0⟩
 else match rdRun w w.size rs0 with
  | .ok s=>rdFin w s
  | .error r=>⟨[],[],r.1,r.2⟩
theorem rdAns_big {w:ByteArray}(h:400 < w.size):Vx w=⟨[],[],1,0⟩:=by unfold Vx;rw[if_pos h]
theorem rdAns_err {w:ByteArray}(h:¬ 400 < w.size){a b:Int}(h2:rdRun w w.size rs0=.error (a,b)):Vx w=⟨[],[],a,b⟩:=by unfold Vx;rw[if_neg h,h2]
theorem rdAns_ok {w:ByteArray}(h:¬ 400 < w.size){s:RS}(h2:rdRun w w.size rs0=.ok s):Vx w=rdFin w s:=by unfold Vx;rw[if_neg h,h2]
theorem PoolOk_nil':PoolOk []:=⟨trivial,by decide⟩
theorem k129 (w:ByteArray)(H:Hp)(n:Nat):RtN Tryz.prog 129 [.agg ⟨[nilS]⟩,.string w] H n (fun r H' n'=>∃ u v,r=.tuple ⟨[.agg ⟨[u]⟩,v,.int .i64 (Vx w).how,.int .i64 (Vx w).pos]⟩/\NewPL n n' H' u v (Vx w).pool (Vx w).list/\PoolOk (Vx w).pool/\(Vx w).list.length<=400):=by
 apply RtN.mk
 rw[c129];unfold S129
 refine W1 @Wz ?_
 refine Zv (k45 (l:=[]) Li.nil (by simp) (by simp)) ?_
 intro H1 n1 q1 s1
 by_cases hbig:400 < w.size
 ·have hb:(400:Int) < w.size:=by omega
  refine W1 (Ye @PoolOk_nil' hb s1) ?_
  refine Ya (k51 (l:=[]) (v:=nilS) Li.nil (by simp)) ?_
  rintro _ H2 n2 q2 s2 ⟨u,rfl,id,i1,i2,i3⟩
  refine W1 (Zu s1 s2) ?_
  rw[rdAns_big hbig]
  exact Wp.pure ⟨So,(Mm (Zu s1 s2)),u,_,rfl,⟨id,n+5,by omega,So,by omega,So,by omega,i3.mv (Zf _ _ Om),.inr ⟨rfl,by simp(disch:=omega) only[Zf,Ze,s1,s2];rfl⟩⟩,PoolOk_nil',Nat.zero_le _⟩
 ·have hb:¬ (400:Int) < w.size:=by omega
  refine W1 (Ye @PoolOk_nil' hb s1) ?_
  refine Ya (k51 (l:=[]) (v:=nilS) Li.nil (by simp)) ?_
  rintro _ H2 n2 q2 s2 ⟨u,rfl,id,i1,i2,i3⟩
  refine W1 (Ye s1 s2 @bsl_f) ?_
  obtain⟨M,hM⟩:∃ M,M=((H2.set (n1+6) (some (.row [u] 0 true))).set (n2+1) (some (.row [.int .i64 0,nilS] 2 true))):=⟨_,rfl⟩
  have m0:M n=some (.row [nilS] 0 true):=by rw[hM];simp(disch:=omega) only[Zf,Ze,s1,s2]
  have m1:M (n+1)=some (.row [nilS] 0 true):=by rw[hM];simp(disch:=omega) only[Zf,Ze,s1,s2]
  have m5:M (n+5)=some (.row [] 1 true):=by rw[hM];simp(disch:=omega) only[Zf,Ze,s1,s2]
  have mlo:∀ i,i < n->M i=H i:=by intro i hi;rw[hM];simp(disch:=omega) only[Zf,Ze,s1,s2]
  rw[← hM]
  refine Wp.bind (l129 w Om (H0:=M) (n0:=n) (c:=n1+6) (nb:=n2+4) (x0:=nilS) (R:=rdRun w w.size rs0) Om Om m0 m1 w.size _ _ _ ⟨rs0,⟨0,[],nilS,n2+2⟩,[],n2+1,id,[],u,by omega,rfl,⟨Nat.zero_le _,Nat.zero_le _,?_,Nat.le_refl _,?_⟩,by omega,⟨Pa,Po,Po,Po,Po,Po,by simp[Zn];rfl⟩,⟨rfl,?_,?_,?_,⟨?_,rfl,?_,by omega,by omega,by omega⟩,by omega,by omega,by omega,by omega,fun _ _=>rfl⟩⟩) ?_
  ·intro f hf;simp[rs0]at hf;rw[hf];exact Nat.le_refl _
  ·intro x hx;cases hx
  ·rw[hM];exact Ze _ _ _
  ·intro g hg
   simp only[List.mem_cons,List.not_mem_nil,or_false]at hg
   subst hg
   exact⟨At.nil,So,So,So,So⟩
  ·simp
  ·rw[hM];exact(Zf _ _ Om).trans (Ze _ _ _)
  ·exact i3.mv (by rw[hM];exact(Zf _ _ Om).trans (Zf _ _ Om))
  ·rintro⟨oe,oT,oH,on⟩ ⟨f1,f2⟩
   simp only at f1
   rcases f2 with⟨s,f,G,oid,pid,J,u2,rfl,hR,hB,⟨t1,t2,t4,t8,t9,t10,t11⟩,hI⟩|⟨h,a,hR,rfl,e1,e5,e6,e7,e4,u2,id2,j1,j2,j3,j4⟩
   ·simp only at t1 t2 t4 t8 t9 t10 t11 hI
    rw[rdAns_ok hbig hR]
    have l0:=(hI.low n Om).trans m0
    have l1:=(hI.low (n+1) Om).trans m1
    have l5:=(hI.low (n+5) Om).trans m5
    have llo:∀ i,i < n->oH i=H i:=fun i hi=>(hI.low i Om).trans (mlo i hi)
    have hstk:G.length<=s.at_:=by have:=hB.b3;rw[hI.es]at this;simp at this;omega
    have hb0:=hB.b0
    have hG:=sub1 (m:=G.length) Om
    have ho1:=hI.o1
    have ho2:=hI.o2
    have ho3:=hI.o3
    have hpid:=hI.pc.idn
    have hp1':=hI.p1
    by_cases hg0:G.length=0
    ·have hGn:G=[]:=List.length_eq_zero_iff.1 hg0
     subst hGn
     have hes:s.stk=[(f.p,f.xs)]:=hI.es
     obtain⟨F1,F2,F3,F4,F5⟩:=hI.fr f List.mem_cons_self
     have hrow:oH oid=some (.row (.int .i64 f.p :: f.v :: J) 2 true):=hI.row
     have hcc:=hI.pc.hc
     have hat:=hI.pc.at_
     have hb1:=hB.b1
     have hxs:=hB.b2 (f.p,f.xs) (by rw[hes];exact List.mem_cons_self)
     simp only at hxs
     have t10':oT 10=sl oid 0 1:=t10
     have c0:¬ (1:Int) < ((1:Nat):Int):=by decide
     have hx1:Zo 2 (sl oid 0 1) (.int .i64 0)=some (ptr oid 0):=rfl
     refine W1 (Yv t9 t10' c0 hcc) ?_
     refine Zv (k45 ((hat.lst hpid).mv Om Mo) (fun x hx=>by have:=hB.b4 x hx;omega) Om) ?_
     intro H3 n3 q3 s3
     by_cases hok:PoolOk s.out
     ·have hfin:rdFin w s=⟨s.out,f.xs,0,w.size⟩:=by unfold rdFin;rw[hes];simp only;rw[if_pos hok]
      rw[hfin]
      refine W1 (Yj hok t9 t10' hx1 hcc s3 @Wz hrow) ?_
      simp(disch:=omega)only[↓reduceIte,Zr,↓X0,X1,Nat.reduceEqDiff,Int.reduceEq,Nat.reduceAdd,Nat.reduceSub]
      refine Wp.appL (E:=eInt) (l:=[]) (id:=n3+1) (n:=on) (.inr ⟨rfl,Ze _ _ _⟩) ((F1.lst F3).mv (Nat.le_refl _) (Mm s3)) (by decide) (by simp only[List.length_nil];omega) ?_
      intro v' H4 a1 a2
      have hnt:notTup v'=true:=by rcases a1 with⟨rfl,_⟩|⟨rfl,_⟩ <;> rfl
      refine W1 (Yj t9 t1 t4 a2 hcc s3 l1 hnt) ?_
      exact Wp.pure ⟨So,(Mm (Ye a2 s3 llo)),u2,v',rfl,⟨pid,n3+6,by omega,So,by omega,So,by omega,hat.mv (by simp(disch:=omega) only[Zf,a2,s3]),by simpa using a1.mv (Zf _ _ Om)⟩,hok,by omega⟩
     ·have hfin:rdFin w s=⟨[],[],6,0⟩:=by unfold rdFin;rw[hes];simp only;rw[if_neg hok]
      rw[hfin]
      refine W1 (Yv hok t2 l0 s3) ?_
      refine Ya (k51 (l:=[]) (v:=nilS) Li.nil (by simp)) ?_
      rintro _ H4 n4 q4 s4 ⟨u4,rfl,id4,j1,j2,j3⟩
      refine W1 (Xm s3 s4 l1 t4 t8) ?_
      exact Wp.pure ⟨So,(Mm (Ye s4 s3 llo)),u4,_,rfl,⟨id4,n+5,by omega,So,by omega,So,by omega,j3.mv (Zf _ _ Om),.inr ⟨t8,by simp(disch:=omega) only[Zf,Ze,s3,s4,l5];rfl⟩⟩,PoolOk_nil',Nat.zero_le _⟩
    ·have hfin:rdFin w s=⟨[],[],4,f.p⟩:=by
      cases G with
      | nil=>exact absurd rfl hg0
      | cons g G=>
       have hes:s.stk=f.m :: g.m :: G.map RFr.m:=hI.es
       unfold rdFin;rw[hes];rfl
     rw[hfin]
     have c1:(1:Int) < ((G.length+1:Nat):Int):=by omega
     obtain⟨cs,hcs⟩:∃ cs,cs=rows G++(.int .i64 f.p :: f.v :: J):=⟨_,rfl⟩
     have hrow:oH oid=some (.row cs 2 true):=by rw[hI.row,hcs]
     have hget:cs[G.length * 2]?=some (.int .i64 f.p):=by
      rw[hcs,List.getElem?_append_right (by rw[Vj];omega),Vj,show G.length * 2 - G.length * 2=0 by omega];rfl
     have hx1:Zo 2 (sl oid 0 (G.length+1)) (.int .i64 (G.length:Int))=some (ptr oid (G.length * 2)):=idx_sl Om
     refine W1 (Yv t2 t10 c1 l0) ?_
     refine Ya (k51 (l:=[]) (v:=nilS) Li.nil (by simp)) ?_
     rintro _ H4 n4 q4 s4 ⟨u4,rfl,id4,j1,j2,j3⟩
     refine W1 (Yj s4 t10 hG hx1 hrow hget l1 (Zu t4 t8)) ?_
     exact Wp.pure ⟨So,(Mm (Zu s4 llo)),u4,_,rfl,⟨id4,n+5,by omega,So,by omega,So,by omega,j3.mv (Zf _ _ Om),.inr ⟨t8,by simp(disch:=omega) only[Zf,Ze,s4,l5];rfl⟩⟩,PoolOk_nil',Nat.zero_le _⟩
   ·simp only at e1 e5 e6 e7 e4 j2 j3 j4
    rw[rdAns_err hbig hR]
    simp(disch:=omega)only[↓reduceIte,Zr,↓X0,X1,Nat.reduceEqDiff,Int.reduceEq,Nat.reduceAdd,Nat.reduceSub,e4,e5,e6,e7]
    refine W1 (Xm j4 e4 e5 e6 e7) ?_
    refine Wp.pure ⟨So,fun i hi=>?_,u2,_,rfl,⟨id2,n+5,by omega,j2,by omega,So,by omega,j3,.inr ⟨rfl,?_⟩⟩,PoolOk_nil',Nat.zero_le _⟩
    ·show oH i=H i
     rw[e1 i Om Om];exact mlo i hi
    ·show oH (n+5)=_
     rw[e1 (n+5) Om Om];exact m5
def strsOk:Nat->List (Nat × Nat × Value)->Bool
 | _,[]=>true
 | k,(o,z,.string _) :: r=>o == k && (z == 1 && strsOk (k+1) r)
 | _,_ :: _=>false
def Vu:List (Nat × Nat × Value)->List ByteArray
 | []=>[]
 | (_,_,.string s) :: r=>s :: Vu r
 | _ :: r=>Vu r
theorem strs_fill:∀ (parts:List (Nat × Nat × Value)) (A:List Value),strsOk A.length parts=true->fill (A++List.replicate parts.length (.string ⟨#[]⟩)) parts=some (A++(Vu parts).flatMap eStr.cells)
 | [],A,_=>by simp[fill,Vu]
 | (o,z,.string s) :: r,A,h=>by
  simp only[strsOk,Bool.and_eq_true,beq_iff_eq]at h
  obtain⟨rfl,rfl,h⟩:=h
  have ih:=strs_fill r (A++[.string s]) (by simpa using h)
  have e:Yz (A++List.replicate (r.length+1) (.string ⟨#[]⟩)) A.length [.string s]=(A++[.string s])++List.replicate r.length (.string ⟨#[]⟩):=by
   have:=setAt_right A (List.replicate (r.length+1) (.string ⟨#[]⟩)) [.string s] 0
   refine this.trans ?_
   rw[List.replicate_succ,List.append_assoc]
   rfl
  rw[fill,List.length_cons,show Zs (.string s)=some [.string s]from rfl,Option.bind_some,if_pos (by simp),e,ih]
  simp[Vu,eStr]
theorem Wp.bslS (P:ByteArray->Bool){id cnt:Nat}{parts:List (Nat × Nat × Value)}{H:Hp}{β:Type}{g:Value × Hp->Option β}{Q:β->Prop}(h1:strsOk 0 parts=true)(hc:parts.length=cnt)(hcn:cnt<=1000)(hP:(Vu parts).all P=true) (hne:Vu parts≠[])
  (k:∀ (xs:List ByteArray) (H':Hp),xs≠[]->(∀ x∈xs,P x=true)->(∀ i,i≠id->H' i=H i)->At eStr id H' (sl id 0 cnt) xs->Wp (g (sl id 0 cnt,H')) Q):Wp ((Xx id 1 cnt [.string ⟨#[]⟩] parts H).bind g) Q:=by
 have hf:=strs_fill parts [] h1
 rw[List.nil_append,List.nil_append,hc]at hf
 have hlen:∀ (k:Nat) (p:List (Nat × Nat × Value)),strsOk k p=true->(Vu p).length=p.length:=by
  intro k p
  induction p generalizing k with
  | nil=>intro _;rfl
  | cons a r ih=>
   intro h
   obtain⟨o,z,v⟩:=a
   cases v <;> simp[strsOk]at h
   simp[Vu,ih (k+1) h.2.2]
 have hl:=hlen 0 parts h1
 obtain⟨e1,e2⟩:=bsl_new eStr (id:=id) (cnt:=cnt) (zero:=[.string ⟨#[]⟩]) (parts:=parts) (H:=H) (Vu parts) ⟨by show cnt * 1<=_;omega,rfl⟩ Om (by rw[show(List.replicate cnt [Value.string ⟨#[]⟩]).flatten=List.replicate cnt (Value.string ⟨#[]⟩)from by simp];exact hf)
 rw[show(Xx id 1 cnt [.string ⟨#[]⟩] parts H)=_ from e1]
 exact k (Vu parts) _ hne (fun x hx=>List.all_eq_true.1 hP x hx) (fun i hi=>Zf _ _ hi) e2
def tx0 (x:ByteArray):Bool:=decide (1<=x.size) && decide ((Zk x).headD 32≠32)
def sz12 (x:ByteArray):Bool:=decide (x.size<=12)
def tx12 (x:ByteArray):Bool:=tx0 x && decide (x.size<=12)
def tx400 (x:ByteArray):Bool:=tx0 x && decide (x.size<=400)
theorem tx0_app {a:ByteArray}(b:ByteArray)(h:tx0 a=true):tx0 (a++b)=true:=by
 simp only[tx0,Bool.and_eq_true,decide_eq_true_eq,ne_eq]at h ⊢
 obtain⟨h1,h2⟩:=h
 refine⟨by rw[ByteArray.size_append];omega,?_⟩
 rw[nums_app]
 cases hc:Zk a with
 | nil=>have:=Yn a;rw[hc]at this;simp at this;omega
 | cons y l=>rw[hc]at h2;simpa using h2
theorem Wp.saddL {x:Array UInt8}{b:ByteArray}{β:Type}{g:Value->Option β}{Q:β->Prop}(hx:tx12 ⟨x⟩=true)(hb:b.size<=100000)(k:∀ c,c.size<=12+b.size->tx0 c=true->Wp (g (.string c)) Q):Wp ((Zd .plain .add (.string ⟨x⟩) (.string b)).bind g) Q:=by
 simp only[tx12,Bool.and_eq_true,decide_eq_true_eq]at hx
 rw[s_add Om]
 exact k _ (by rw[ByteArray.size_append];omega) (tx0_app _ hx.1)
theorem Wp.saddR {x:Array UInt8}{a:ByteArray}{β:Type}{g:Value->Option β}{Q:β->Prop}(hx:decide (ByteArray.size ⟨x⟩<=12)=true) (ha:tx0 a=true)(hb:a.size<=100000)(k:∀ c,c.size<=a.size+12->tx0 c=true->Wp (g (.string c)) Q):Wp ((Zd .plain .add (.string a) (.string ⟨x⟩)).bind g) Q:=by
 simp only[decide_eq_true_eq]at hx
 rw[s_add Om]
 exact k _ (by rw[ByteArray.size_append];omega) (tx0_app _ ha)
theorem Wp.saddV {a b:ByteArray}{β:Type}{g:Value->Option β}{Q:β->Prop}(ha:tx0 a=true)(h1:a.size<=100000)(h2:b.size<=100000)(k:∀ c,c.size<=a.size+b.size->tx0 c=true->Wp (g (.string c)) Q):Wp ((Zd .plain .add (.string a) (.string b)).bind g) Q:=by
 rw[s_add Om]
 exact k _ (by rw[ByteArray.size_append];omega) (tx0_app _ ha)
theorem k148 (H:Hp)(n:Nat):RtN Tryz.prog 148 [] H n (fun r H' n'=>∃ xs:List ByteArray,xs≠[]/\(∀ x∈xs,tx400 x=true)/\New eStr n n' H' r xs):=by
 apply RtN.mk
 rw[c148];unfold S148
 refine Wp.bslS tx400 (by decide +kernel) (by decide +kernel) (by decide) (by decide +kernel) (by simp[Vu]) ?_
 intro xs H1 h1 h2 s1 h3
 refine W0 trivial ?_
 exact Wp.pure ⟨So,fun i hi=>s1 i Om,xs,h1,h2,n+1,by omega,So,h3⟩
structure CS where
 how:Int
 L:List Ins
 D:List Df
abbrev Env:=List (List ByteArray)
def Zw (op n i:Int):Ins:=⟨op,n,i,⟨#[]⟩⟩
def Xa (h:Int)(s:CS):CS:=if s.how=0 then⟨h,s.L,s.D⟩else s
def Yu (x:Ins)(s:CS):CS:=if s.how=0 then(if s.L.length=400 then⟨3,s.L,s.D⟩else⟨0,s.L++[x],s.D⟩)else s
def setN (L:List Ins)(at_:Nat):List Ins:=L.set at_ ⟨(gi L (at_:Int)).op,(L.length:Int),(gi L (at_:Int)).i,(gi L (at_:Int)).s⟩
def cTo (at_:Nat)(s:CS):CS:=if s.how=0 then⟨0,setN s.L at_,s.D⟩else s
def Vf:ByteArray:=⟨#[113,117,111,116,101]⟩
def wIf:ByteArray:=⟨#[105,102]⟩
def wFn:ByteArray:=⟨#[102,110]⟩
def wDo:ByteArray:=⟨#[100,111]⟩
def wLet:ByteArray:=⟨#[108,101,116]⟩
def Ud:ByteArray:=⟨#[100,101,102,105,110,101]⟩
def wMain:ByteArray:=⟨#[109,97,105,110]⟩
def Vq (s:ByteArray):Bool:=decide (s=Vf∨s=wIf∨s=wFn∨s=wDo∨s=wLet∨s=Ud)
def isVar (x:Nd):Bool:=decide (x.k=4) && !Vq x.s
def noDup (l:List ByteArray):Bool:=(List.range l.length).all fun i=>(Ua (gi l (i:Int)) (l.take i) 0).isNone
def Ys (p:List Nd)(l:List Int):List ByteArray × Int :=
 if(l.all fun v=>isVar (gi p v))=true/\l.length<=4 then
  (if noDup (l.map fun v=>(gi p v).s)=true then(l.map fun v=>(gi p v).s,0)else([],2))
 else([],1)
def cVar (s:ByteArray):Env->Nat->Option (Nat × Nat)
 | [],_=>none
 | f :: r,n=>match Ua s f 0 with
  | some i=>some (n,i)
  | none=>cVar s r (n+1)
def varIns (s:ByteArray)(e:Env):Ins:=match cVar s e 0 with
 | some (n,i)=>Zw 2 n i
 | none=>⟨3,0,0,s⟩
abbrev CEx:=Int->Env->CS->CS
def Vm (E:CEx)(e:Env):List Int->CS->CS
 | [],s=>s
 | v :: r,s=>r.foldl (fun s v=>E v e (Yu (Zw 9 0 0) s)) (E v e s)
def cFun (E:CEx)(names:List ByteArray)(body:List Int)(e:Env)(s:CS):CS :=
 let s1:=Yu (Zw 6 (s.L.length+2) names.length) s
 let s2:=Yu (Zw 5 0 0) s1
 let s3:=Vm E (names :: e) body s2
 let s4:=Yu (Zw 8 0 0) s3
 cTo s1.L.length s4
def cIf (E:CEx)(l:List Int)(e:Env)(s:CS):CS :=
 let s1:=E (gi l 1) e s
 let s2:=Yu (Zw 4 0 0) s1
 let s3:=E (gi l 2) e s2
 let s4:=Yu (Zw 5 0 0) s3
 let s5:=cTo s1.L.length s4
 let s6:=E (gi l 3) e s5
 cTo s3.L.length s6
def cFn (E:CEx)(p:List Nd)(params:List Int)(body:List Int)(e:Env)(s:CS):CS :=
 if(Ys p params).2=0 then cFun E (Ys p params).1 body e s else Xa (Ys p params).2 s
def cForm (E:CEx)(p:List Nd)(w:ByteArray)(l:List Int)(e:Env)(s:CS):CS :=
 if w=Vf/\l.length=2 then Yu (Zw 1 (gi l 1) 0) s
 else if w=wIf/\l.length=4 then cIf E l e s
 else if w=wDo/\1 < l.length then Vm E e (l.drop 1) s
 else if w=wFn/\2 < l.length then(if(Zi p (gi l 1)).2=true then cFn E p (Zi p (gi l 1)).1 (l.drop 2) e s else Xa 1 s)
 else if w=wLet/\3 < l.length then
  (if(Ys p [gi l 1]).2=0 then Yu (Zw 7 0 1) (E (gi l 2) e (cFun E (Ys p [gi l 1]).1 (l.drop 3) e s))else Xa (Ys p [gi l 1]).2 s)
 else Xa 1 s
def Xr (p:List Nd):Nat->CEx
 | 0,_,_,s=>s
 | k+1,v,e,s=>
  if s.how=0 then
   if(gi p v).k=1∨(gi p v).k=2∨(gi p v).k=3 then Yu (Zw 1 v 0) s
   else if(gi p v).k=4 then(if Vq (gi p v).s=true then Xa 1 s else Yu (varIns (gi p v).s e) s)
   else if(gi p v).k=5/\(Zi p v).2=true then
    (if(gi p (gi (Zi p v).1 0)).k=4/\Vq (gi p (gi (Zi p v).1 0)).s=true then cForm (Xr p k) p (gi p (gi (Zi p v).1 0)).s (Zi p v).1 e s
    else if 5 < (Zi p v).1.length then Xa 1 s
    else Yu (Zw 7 0 ((Zi p v).1.length - 1)) ((Zi p v).1.foldl (fun s x=>Xr p k x e s) s))
   else Xa 1 s
  else s
def hasDef (name:ByteArray)(D:List Df):Bool:=D.any fun d=>decide (d.s=name)
def Vp (E:CEx)(name:ByteArray)(params:List ByteArray)(body:List Int)(s:CS):CS :=
 if hasDef name s.D=true then Xa 2 s
 else Yu (Zw 8 0 0) (Vm E [params] body ⟨s.how,s.L,s.D++[⟨name,s.L.length,params.length⟩]⟩)
def cDefn (E:CEx)(p:List Nd)(l:List Int)(s:CS):CS :=
 if 2 < l.length/\(gi p (gi l 1)).k=5/\(Zi p (gi l 1)).2=true then
  (if isVar (gi p (gi (Zi p (gi l 1)).1 0))=true then
   (if(Ys p ((Zi p (gi l 1)).1.drop 1)).2=0 then Vp E (gi p (gi (Zi p (gi l 1)).1 0)).s (Ys p ((Zi p (gi l 1)).1.drop 1)).1 (l.drop 2) s
   else Xa (Ys p ((Zi p (gi l 1)).1.drop 1)).2 s)
  else Xa 1 s)
 else Xa 1 s
def isDefine (p:List Nd)(v:Int):Bool:=decide ((gi p v).k=5/\(Zi p v).2=true/\(gi p (gi (Zi p v).1 0)).k=4/\(gi p (gi (Zi p v).1 0)).s=Ud)
def cTop (E:CEx)(p:List Nd)(v:Int)(s:CS):CS :=
 if isDefine p v=true then cDefn E p (Zi p v).1 s else Vp E wMain [] [v] s
theorem cFail_how {h:Int}{s:CS}(hs:s.how≠0):Xa h s=s:=by unfold Xa;rw[if_neg hs]
theorem cFail_no {h:Int}{s:CS}(hh:h≠0):(Xa h s).how≠0:=by
 unfold Xa;split
 ·exact hh
 ·assumption
theorem cPut_how {x:Ins}{s:CS}(hs:s.how≠0):Yu x s=s:=by unfold Yu;rw[if_neg hs]
theorem cTo_how {a:Nat}{s:CS}(hs:s.how≠0):cTo a s=s:=by unfold cTo;rw[if_neg hs]
theorem setN_len (L:List Ins)(a:Nat):(setN L a).length=L.length:=by simp[setN]
def Goes (f:CS->CS):Prop:=∀ s,(s.how≠0->f s=s)/\s.L.length<=(f s).L.length/\(f s).D=s.D
theorem Goes.put (x:Ins):Goes (Yu x):=fun s=>⟨cPut_how,by unfold Yu;(repeat' split) <;> simp,by unfold Yu;(repeat' split) <;> rfl⟩
theorem Goes.fail (h:Int):Goes (Xa h):=fun s=>⟨cFail_how,by unfold Xa;split <;> simp,by unfold Xa;split <;> rfl⟩
theorem Goes.to (a:Nat):Goes (cTo a):=fun s=>⟨cTo_how,by unfold cTo;split <;> simp[setN_len],by unfold cTo;split <;> rfl⟩
theorem Goes.id:Goes (fun s=>s):=fun s=>⟨fun _=>rfl,Nat.le_refl _,rfl⟩
theorem Goes.comp {f g:CS->CS}(hf:Goes f)(hg:Goes g):Goes (fun s=>g (f s)):=fun s=>by
 obtain⟨a1,a2,a3⟩:=hf s
 obtain⟨b1,b2,b3⟩:=hg (f s)
 refine⟨fun h=>?_,Nat.le_trans a2 b2,b3.trans a3⟩
 have:=a1 h
 show g (f s)=s
 rw[this]at b1 ⊢
 exact b1 h
theorem Goes.fold {f:Int->CS->CS}(hf:∀ v,Goes (f v)):∀ l:List Int,Goes (fun s=>l.foldl (fun s v=>f v s) s)
 | []=>Goes.id
 | v :: l=>(hf v).comp (Goes.fold hf l)
theorem Goes.body {E:CEx}(hE:∀ v e,Goes (E v e)) (e:Env):∀ l:List Int,Goes (Vm E e l)
 | []=>Goes.id
 | v :: l=>(hE v e).comp (Goes.fold (f:=fun v s=>E v e (Yu (Zw 9 0 0) s)) (fun v=>(Goes.put _).comp (hE v e)) l)
theorem Goes.ite {c:Prop} [Decidable c] {f g:CS->CS}(hf:Goes f)(hg:Goes g):Goes (fun s=>if c then f s else g s):=by
 intro s
 by_cases h:c
 ·simp only[h,if_true];exact hf s
 ·simp only[h,if_false];exact hg s
theorem Goes.fun_ {E:CEx}(hE:∀ v e,Goes (E v e)) (names:List ByteArray)(body:List Int)(e:Env):Goes (cFun E names body e):=by
 intro s
 unfold cFun
 simp only
 have p1:=Goes.put (Zw 6 (s.L.length+2) names.length) s
 generalize Yu (Zw 6 (s.L.length+2) names.length) s=s1 at *
 have p2:=((((Goes.put (Zw 5 0 0)).comp (Goes.body hE (names :: e) body)).comp (Goes.put (Zw 8 0 0))).comp (Goes.to s1.L.length)) s1
 simp only at p2
 refine⟨fun h=>?_,by omega,p2.2.2.trans p1.2.2⟩
 have:=p1.1 h
 subst this
 exact p2.1 h
theorem Goes.if_ {E:CEx}(hE:∀ v e,Goes (E v e)) (l:List Int)(e:Env):Goes (cIf E l e):=by
 intro s
 unfold cIf
 simp only
 have p1:=hE (gi l 1) e s
 generalize E (gi l 1) e s=s1 at *
 have p2:=((Goes.put (Zw 4 0 0)).comp (hE (gi l 2) e)) s1
 simp only at p2
 generalize E (gi l 2) e (Yu (Zw 4 0 0) s1)=s3 at *
 have p3:=((((Goes.put (Zw 5 0 0)).comp (Goes.to s1.L.length)).comp (hE (gi l 3) e)).comp (Goes.to s3.L.length)) s3
 simp only at p3
 refine⟨fun h=>?_,by omega,p3.2.2.trans (p2.2.2.trans p1.2.2)⟩
 have h1:=p1.1 h
 subst h1
 have h2:=p2.1 h
 subst h2
 exact p3.1 h
theorem Goes.form {E:CEx}(hE:∀ v e,Goes (E v e)) (p:List Nd)(w:ByteArray)(l:List Int)(e:Env):Goes (cForm E p w l e):=by
 unfold cForm cFn
 refine Goes.ite (Goes.put _) (Goes.ite (Goes.if_ hE l e) (Goes.ite (Goes.body hE e _) (Goes.ite (Goes.ite (Goes.ite (Goes.fun_ hE _ _ e) (Goes.fail _)) (Goes.fail _)) (Goes.ite (Goes.ite ?_ (Goes.fail _)) (Goes.fail _)))))
 exact((Goes.fun_ hE _ _ e).comp (hE _ e)).comp (Goes.put _)
theorem Goes.expr (p:List Nd):∀ (k:Nat)(v:Int)(e:Env),Goes (Xr p k v e)
 | 0,v,e=>Goes.id
 | k+1,v,e=>by
  have hE:=Goes.expr p k
  intro s
  by_cases hs:s.how=0
  ·have:=(Goes.ite (c:=(gi p v).k=1∨(gi p v).k=2∨(gi p v).k=3) (Goes.put (Zw 1 v 0)) (Goes.ite (c:=(gi p v).k=4) (Goes.ite (c:=Vq (gi p v).s=true) (Goes.fail 1) (Goes.put (varIns (gi p v).s e))) (Goes.ite (c:=(gi p v).k=5/\(Zi p v).2=true) (Goes.ite (c:=(gi p (gi (Zi p v).1 0)).k=4/\Vq (gi p (gi (Zi p v).1 0)).s=true) (Goes.form hE p (gi p (gi (Zi p v).1 0)).s (Zi p v).1 e) (Goes.ite (c:=5 < (Zi p v).1.length) (Goes.fail 1) ((Goes.fold (f:=fun x s=>Xr p k x e s) (fun x=>hE x e) (Zi p v).1).comp (Goes.put (Zw 7 0 ((Zi p v).1.length - 1)))))) (Goes.fail 1)))) s
   rw[Xr,if_pos hs]
   exact this
  ·rw[Xr,if_neg hs]
   exact⟨fun _=>rfl,Nat.le_refl _,rfl⟩
def Wi (p:List Nd):List Int->Nat->CS->CS × Nat
 | [],i,s=>(s,i)
 | v :: r,i,s=>
  if(cTop (Xr p p.length) p v s).how=0 then Wi p r (i+1) (cTop (Xr p p.length) p v s)else(cTop (Xr p p.length) p v s,i)
def Small (s:CS):Prop:=(∀ x∈s.L,x.s.size<=1048576)/\∀ d∈s.D,d.s.size<=1048576
def Keeps (f:CS->CS):Prop:=∀ s,Small s->Small (f s)
theorem Keeps.id:Keeps (fun s=>s):=fun s h=>h
theorem Keeps.comp {f g:CS->CS}(hf:Keeps f)(hg:Keeps g):Keeps (fun s=>g (f s)):=fun s h=>hg _ (hf _ h)
theorem Keeps.ite {c:Prop} [Decidable c] {f g:CS->CS}(hf:c->Keeps f)(hg:¬ c->Keeps g):Keeps (fun s=>if c then f s else g s):=by
 intro s h
 by_cases hc:c
 ·simp only[hc,if_true];exact hf hc s h
 ·simp only[hc,if_false];exact hg hc s h
theorem Keeps.put {x:Ins}(hx:x.s.size<=1048576):Keeps (Yu x):=by
 intro s h
 unfold Yu
 split
 ·split
  ·exact h
  ·refine⟨fun y hy=>?_,h.2⟩
   rcases List.mem_append.1 hy with hy|hy
   ·exact h.1 y hy
   ·simp at hy;rw[hy];exact hx
 ·exact h
theorem Vh (a b c:Int):(Zw a b c).s.size<=1048576:=by show(ByteArray.size ⟨#[]⟩)<=1048576;decide
theorem Keeps.fail (x:Int):Keeps (Xa x):=by
 intro s h;unfold Xa;split <;> exact h
theorem Keeps.to (a:Nat):Keeps (cTo a):=by
 intro s h
 unfold cTo
 split
 ·refine⟨fun y hy=>?_,h.2⟩
  unfold setN at hy
  rcases List.mem_or_eq_of_mem_set hy with hy|hy
  ·exact h.1 y hy
  ·rw[hy]
   show(gi s.L (a:Int)).s.size<=1048576
   by_cases ha:a < s.L.length
   ·rw[Yq ha];exact h.1 _ (List.getElem_mem ha)
   ·have:gi s.L (a:Int)=default:=by
     unfold gi
     rw[List.getD_eq_getElem?_getD,List.getElem?_eq_none (by simpa using ha)];rfl
    rw[this];show(ByteArray.size ⟨#[]⟩)<=1048576;decide
 ·exact h
theorem Keeps.fold {f:Int->CS->CS}:∀ l:List Int,(∀ v∈l,Keeps (f v))->Keeps (fun s=>l.foldl (fun s v=>f v s) s)
 | [],_=>Keeps.id
 | v :: l,hf=>(hf v List.mem_cons_self).comp (Keeps.fold l fun w hw=>hf w (List.mem_cons_of_mem _ hw))
theorem Keeps.body {E:CEx}{e:Env}:∀ l:List Int,(∀ v∈l,Keeps (E v e))->Keeps (Vm E e l)
 | [],_=>Keeps.id
 | v :: l,hE=>(hE v List.mem_cons_self).comp (Keeps.fold (f:=fun v s=>E v e (Yu (Zw 9 0 0) s)) l fun w hw=>(Keeps.put (Vh _ _ _)).comp (hE w (List.mem_cons_of_mem _ hw)))
theorem Keeps.fun_ {E:CEx}{names:List ByteArray}{body:List Int}{e:Env}(hE:∀ v∈body,∀ e,Keeps (E v e)):Keeps (cFun E names body e):=by
 intro s h
 unfold cFun
 simp only
 exact Keeps.to _ _ (Keeps.put (Vh _ _ _) _ (Keeps.body body (fun v hv=>hE v hv _) _ (Keeps.put (Vh _ _ _) _ (Keeps.put (Vh _ _ _) _ h))))
theorem Keeps.if_ {E:CEx}{l:List Int}{e:Env}(h4:l.length=4)(hE:∀ v∈l,∀ e,Keeps (E v e)):Keeps (cIf E l e):=by
 intro s h
 have m1:=Yb (l:=l) (i:=1) Om Om
 have m2:=Yb (l:=l) (i:=2) Om Om
 have m3:=Yb (l:=l) (i:=3) Om Om
 unfold cIf
 simp only
 exact Keeps.to _ _ (hE _ m3 _ _ (Keeps.to _ _ (Keeps.put (Vh _ _ _) _ (hE _ m2 _ _ (Keeps.put (Vh _ _ _) _ (hE _ m1 _ _ h))))))
theorem Keeps.form {E:CEx}{p:List Nd}{w:ByteArray}{l:List Int}{e:Env}(hE:∀ v∈l,∀ e,Keeps (E v e)):Keeps (cForm E p w l e):=by
 unfold cForm cFn
 refine Keeps.ite (fun _=>Keeps.put (Vh _ _ _)) fun _=>Keeps.ite (fun h=>Keeps.if_ h.2 hE) fun _=>Keeps.ite (fun _=>Keeps.body _ fun v hv=>hE v (List.mem_of_mem_drop hv) _) fun _=>Keeps.ite (fun _=>Keeps.ite (fun _=>Keeps.ite (fun _=>Keeps.fun_ fun v hv=>hE v (List.mem_of_mem_drop hv)) fun _=>Keeps.fail _) fun _=>Keeps.fail _) fun _=>Keeps.ite (fun h=>Keeps.ite (fun _=>?_) fun _=>Keeps.fail _) fun _=>Keeps.fail _
 exact((Keeps.fun_ (names:=(Ys p [gi l 1]).1) (body:=l.drop 3) (e:=e) fun v hv=>hE v (List.mem_of_mem_drop hv)).comp (hE _ (Yb Om Om) e)).comp (Keeps.put (Vh _ _ _))
theorem varIns_sz {w:ByteArray}(hw:w.size<=1048576)(e:Env):(varIns w e).s.size<=1048576:=by
 unfold varIns;split
 ·exact Vh _ _ _
 ·exact hw
theorem chain_memS {l:List Nd}(hp:PoolOk l):∀ (f:Nat)(v:Int),0<=v->v < l.length->∀ y∈(chain l f v).1,0<=y/\y < v
 | 0,v,_,_,y,hy=>by simp[chain]at hy
 | f+1,v,h0,h1,y,hy=>by
  unfold chain at hy
  by_cases h5:(gi l v).k=5
  ·rw[if_pos h5]at hy
   have hk:=(hp.at h0 h1).pair h5
   rcases List.mem_cons.1 hy with rfl|h
   ·exact hk.1
   ·have:=chain_memS hp f (gi l v).b hk.2.1 Om y h
    omega
  ·rw[if_neg h5]at hy;simp at hy
theorem node_sz {p:List Nd}(hp:PoolOk p){v:Int}(h0:0<=v)(h1:v < p.length):(gi p v).s.size<=1048576:=by
 have:=hp.at h0 h1
 rcases this with h|h|h|h|h|h|h|h|h <;> obtain⟨_,_,h3,_⟩:=h
 all_goals first
  | (rw[h3];show(ByteArray.size ⟨#[]⟩)<=1048576;decide)
  | (simp only[Yd,Bool.and_eq_true,decide_eq_true_eq]at h3;omega)
theorem Keeps.expr {p:List Nd}(hp:PoolOk p):∀ (k:Nat)(v:Int),0<=v->v < p.length->∀ e,Keeps (Xr p k v e)
 | 0,v,_,_,e=>Keeps.id
 | k+1,v,h0,h1,e=>by
  have hL:=chain_memS hp (v.toNat+1) v h0 h1
  have hE:∀ y∈(Zi p v).1,∀ e,Keeps (Xr p k y e):=fun y hy e=>Keeps.expr hp k y (hL y hy).1 (by have:=hL y hy;omega) e
  intro s hs
  by_cases h:s.how=0
  ·rw[Xr,if_pos h]
   exact(Keeps.ite (c:=(gi p v).k=1∨(gi p v).k=2∨(gi p v).k=3) (fun _=>Keeps.put (Vh 1 v 0)) fun _=>Keeps.ite (c:=(gi p v).k=4) (fun _=>Keeps.ite (c:=Vq (gi p v).s=true) (fun _=>Keeps.fail 1) fun _=>Keeps.put (varIns_sz (node_sz hp h0 h1) e)) fun _=>Keeps.ite (c:=(gi p v).k=5/\(Zi p v).2=true) (fun _=>Keeps.ite (c:=(gi p (gi (Zi p v).1 0)).k=4/\Vq (gi p (gi (Zi p v).1 0)).s=true) (fun _=>Keeps.form (p:=p) (w:=(gi p (gi (Zi p v).1 0)).s) (e:=e) hE) fun _=>Keeps.ite (c:=5 < (Zi p v).1.length) (fun _=>Keeps.fail 1) fun _=>(Keeps.fold (f:=fun x s=>Xr p k x e s) (Zi p v).1 fun x hx=>hE x hx e).comp (Keeps.put (Vh 7 0 ((Zi p v).1.length - 1)))) fun _=>Keeps.fail 1) s hs
  ·rw[Xr,if_neg h];exact hs
theorem Keeps.define {E:CEx}{name:ByteArray}{params:List ByteArray}{body:List Int}(hn:name.size<=1048576)(hE:∀ v∈body,∀ e,Keeps (E v e)):Keeps (Vp E name params body):=by
 intro s h
 unfold Vp
 split
 ·exact Keeps.fail _ _ h
 ·refine Keeps.put (Vh _ _ _) _ (Keeps.body body (fun v hv=>hE v hv _) _ ⟨h.1,fun d hd=>?_⟩)
  rcases List.mem_append.1 hd with hd|hd
  ·exact h.2 d hd
  ·simp at hd;rw[hd];exact hn
theorem Keeps.top {p:List Nd}(hp:PoolOk p){v:Int}(h0:0<=v)(h1:v < p.length)(k:Nat):Keeps (cTop (Xr p k) p v):=by
 intro s hs
 have hL:=chain_memS hp (v.toNat+1) v h0 h1
 unfold cTop
 split
 ·rename_i hd
  have hd:=of_decide_eq_true hd
  have hmem:∀ y∈(Zi p v).1,0<=y/\y < p.length:=fun y hy=>by have:=hL y hy;omega
  unfold cDefn
  split
  ·rename_i hc
   have m1:=hmem _ (Yb (l:=(Zi p v).1) (i:=1) Om Om)
   have hL1:=chain_memS hp ((gi (Zi p v).1 1).toNat+1) _ m1.1 m1.2
   have hpos:0 < (Zi p (gi (Zi p v).1 1)).1.length:=by
    rw[chainOf_eq hp m1.1 m1.2,if_pos hc.2.1];simp
   have m2:=hL1 _ (Yb (l:=(Zi p (gi (Zi p v).1 1)).1) (i:=0) Om Om)
   split
   ·split
    ·exact Keeps.define (node_sz hp m2.1 Om) (fun y hy e=>Keeps.expr hp k y (hmem y (List.mem_of_mem_drop hy)).1 (hmem y (List.mem_of_mem_drop hy)).2 e) _ hs
    ·exact Keeps.fail _ _ hs
   ·exact Keeps.fail _ _ hs
  ·exact Keeps.fail _ _ hs
 ·exact Keeps.define (by decide) (fun y hy e=>by simp at hy;rw[hy];exact Keeps.expr hp k v h0 h1 e) _ hs
structure CA where
 p:List Nd
 L:List Ins
 D:List Df
 how:Int
 at_:Int
def inPool (p:List Nd)(l:List Int):Prop:=∀ v∈l,0<=v/\v < (p.length:Int)
instance (p:List Nd) (l:List Int):Decidable (inPool p l):=by unfold inPool; infer_instance
def Yo (p:List Nd)(l:List Int):CA :=
 if PoolOk p/\inPool p l then
  (if(Wi p l 0 ⟨0,[],[]⟩).1.how=0 then
   (if Xd p (Wi p l 0 ⟨0,[],[]⟩).1.L (Wi p l 0 ⟨0,[],[]⟩).1.D then⟨p,(Wi p l 0 ⟨0,[],[]⟩).1.L,(Wi p l 0 ⟨0,[],[]⟩).1.D,0,l.length⟩else⟨[],[],[],3,0⟩)
  else if(Wi p l 0 ⟨0,[],[]⟩).1.how=3 then⟨[],[],[],3,0⟩else⟨[],[],[],(Wi p l 0 ⟨0,[],[]⟩).1.how,(Wi p l 0 ⟨0,[],[]⟩).2⟩)
 else⟨[],[],[],3,0⟩
def Inc (s:CS):Prop:=(∀ d∈s.D,d.at_ < (s.L.length:Int))/\s.D.Pairwise (fun a b=>a.at_ < b.at_)
theorem cPut_ok {x:Ins}{s:CS}(h:(Yu x s).how=0):s.how=0/\(Yu x s).L.length=s.L.length+1/\(Yu x s).D=s.D:=by
 unfold Yu at h ⊢
 by_cases h0:s.how=0
 ·rw[if_pos h0]at h ⊢
  by_cases h4:s.L.length=400
  ·rw[if_pos h4]at h;exact absurd h (by show¬ (3:Int)=0;decide)
  ·rw[if_neg h4];exact⟨h0,by simp,rfl⟩
 ·rw[if_neg h0]at h;exact absurd h h0
theorem cDefine_inc {E:CEx}(hE:∀ v e,Goes (E v e)){name:ByteArray}{params:List ByteArray}{body:List Int}{s:CS}(hi:Inc s)(h:(Vp E name params body s).how=0):Inc (Vp E name params body s)/\(Vp E name params body s).D.length=s.D.length+1:=by
 unfold Vp at h ⊢
 by_cases hd:hasDef name s.D=true
 ·rw[if_pos hd]at h;exact absurd h (cFail_no (by decide))
 ·rw[if_neg hd]at h ⊢
  obtain⟨h1,h2,h3⟩:=cPut_ok h
  obtain⟨g1,g2,g3⟩:=Goes.body hE [params] body ⟨s.how,s.L,s.D++[⟨name,s.L.length,params.length⟩]⟩
  simp only at g2 g3
  rw[g3]at h3
  refine⟨⟨?_,?_⟩,by rw[h3];simp⟩
  ·intro d hd
   rw[h3]at hd
   rcases List.mem_append.1 hd with hd|hd
   ·have:=hi.1 d hd;omega
   ·simp only[List.mem_cons,List.not_mem_nil,or_false]at hd
    rw[hd];simp only;omega
  ·rw[h3,List.pairwise_append]
   refine⟨hi.2,by simp,?_⟩
   intro a ha b hb
   simp only[List.mem_cons,List.not_mem_nil,or_false]at hb
   rw[hb];exact hi.1 a ha
theorem cTop_inc {p:List Nd}{E:CEx}(hE:∀ v e,Goes (E v e)){v:Int}{s:CS}(hi:Inc s)(h:(cTop E p v s).how=0):Inc (cTop E p v s)/\(cTop E p v s).D.length=s.D.length+1:=by
 unfold cTop at h ⊢
 split at h
 ·rename_i hd
  rw[if_pos hd]
  unfold cDefn at h ⊢
  split at h
  ·rename_i h1
   rw[if_pos h1]
   split at h
   ·rename_i h2
    rw[if_pos h2]
    split at h
    ·rename_i h3
     rw[if_pos h3]
     exact cDefine_inc hE hi h
    ·rename_i h3;exact absurd h (cFail_no h3)
   ·exact absurd h (cFail_no (by decide))
  ·exact absurd h (cFail_no (by decide))
 ·rename_i hd
  rw[if_neg hd]
  exact cDefine_inc hE hi h
theorem cAll_inc (p:List Nd):∀ (l:List Int)(i:Nat)(s:CS),s.how=0->Inc s->((Wi p l i s).1.how=0->Inc (Wi p l i s).1/\(Wi p l i s).1.D.length=s.D.length+l.length)/\((Wi p l i s).1.how≠0->(Wi p l i s).2 < i+l.length)
 | [],i,s,h0,hi=>⟨fun _=>⟨hi,rfl⟩,fun h=>absurd h0 h⟩
 | v :: r,i,s,h0,hi=>by
  rw[Wi]
  by_cases h:(cTop (Xr p p.length) p v s).how=0
  ·rw[if_pos h]
   obtain⟨a1,a2⟩:=cTop_inc (Goes.expr p p.length) hi h
   obtain⟨b1,b2⟩:=cAll_inc p r (i+1) _ h a1
   refine⟨fun h'=>⟨(b1 h').1,by rw[(b1 h').2,a2,List.length_cons];omega⟩,fun h'=>?_⟩
   have:=b2 h'
   rw[List.length_cons];omega
  ·rw[if_neg h]
   exact⟨fun h'=>absurd h' h,fun _=>by simp only[List.length_cons];omega⟩
theorem Inc.nil:Inc ⟨0,[],[]⟩:=by
 refine⟨fun d hd=>?_,List.Pairwise.nil⟩
 simp at hd
def CompNo (p:List Nd)(l:List Int):Prop:=(Yo p l).how≠0/\(Yo p l).L=[]/\(Yo p l).D=[]/\0<=(Yo p l).at_/\((Yo p l).at_ < (l.length:Int)∨(Yo p l).at_=0)
def CompYes (p:List Nd)(l:List Int):Prop:=(Yo p l).how=0/\Xd (Yo p l).p (Yo p l).L (Yo p l).D/\(Yo p l).at_=l.length/\(Yo p l).D.length=l.length/\(Yo p l).D.Pairwise (fun a b=>a.at_ < b.at_)
theorem compAns_two (p:List Nd)(l:List Int):CompNo p l∨CompYes p l:=by
 unfold CompNo CompYes Yo
 by_cases h1:PoolOk p/\inPool p l
 ·rw[if_pos h1]
  have hA:=cAll_inc p l 0 ⟨0,[],[]⟩ rfl Inc.nil
  by_cases h2:(Wi p l 0 ⟨0,[],[]⟩).1.how=0
  ·rw[if_pos h2]
   obtain⟨a1,a2⟩:=hA.1 h2
   split
   ·rename_i h3
    exact .inr ⟨rfl,h3,rfl,by simpa using a2,a1.2⟩
   ·exact .inl ⟨by decide,rfl,rfl,by decide,.inr rfl⟩
  ·rw[if_neg h2]
   have:=hA.2 h2
   split
   ·exact .inl ⟨by decide,rfl,rfl,by decide,.inr rfl⟩
   ·exact .inl ⟨h2,rfl,rfl,So,.inl So⟩
 ·rw[if_neg h1]
  exact .inl ⟨by decide,rfl,rfl,by decide,.inr rfl⟩
theorem code_op {l:List Nd}{li:List Ins}{ld:List Df}(h:Xd l li ld){j:Nat}(hj:j < ld.length):Xb ld (gi ld (j:Int)).s=j/\0<=(gi ld (j:Int)).at_/\(gi ld (j:Int)).at_ < (li.length:Int)/\(gi li (gi ld (j:Int)).at_).op≠0:=by
 obtain⟨-,-,-,h4,h5⟩:=h
 obtain⟨d1,d2,d3,d4⟩:=h5 j hj
 refine⟨d2,d3.1,by omega,?_⟩
 have hi:=h4 (gi ld (j:Int)).at_.toNat Om
 rw[show(((gi ld (j:Int)).at_.toNat:Nat):Int)=(gi ld (j:Int)).at_ by omega]at hi
 generalize gi li (gi ld (j:Int)).at_=x at hi
 unfold InsOk at hi
 omega
theorem ins_sz {x:Ins}{k m a:Int}(h:InsOk x k m a):x.s.size<=1048576:=by
 have e:(⟨#[]⟩:ByteArray).size=0:=rfl
 unfold InsOk at h
 have hn:Yd x.s=true->x.s.size<=1048576:=fun h=>by
  simp only[Yd,Bool.and_eq_true,decide_eq_true_eq]at h;omega
 have he:x.s=⟨#[]⟩->x.s.size<=1048576:=fun h=>by rw[h];decide
 rcases h with h|h|h|h|h|h|h
 ·exact he h.2.2.2
 ·exact he h.2.2.2
 ·exact hn h.2.2.2
 ·exact he h.2.2.2
 ·exact he h.2.2.2
 ·exact he h.2.2.2
 ·exact he h.2.2.2
theorem code_sz {l:List Nd}{li:List Ins}{ld:List Df}(h:Xd l li ld):(∀ x∈l,x.s.size<=1048576)/\(∀ x∈li,x.s.size<=1048576)/\(∀ x∈ld,x.s.size<=1048576):=by
 obtain⟨h1,-,-,h4,h5⟩:=h
 refine⟨fun x hx=>?_,fun x hx=>?_,fun x hx=>?_⟩
 ·obtain⟨k,hk,rfl⟩:=List.mem_iff_getElem.1 hx
  have:=node_sz h1 (v:=(k:Int)) Om Om
  rw[Yq hk]at this
  exact this
 ·obtain⟨k,hk,rfl⟩:=List.mem_iff_getElem.1 hx
  have:=ins_sz (h4 k hk)
  rw[Yq hk]at this
  exact this
 ·obtain⟨k,hk,rfl⟩:=List.mem_iff_getElem.1 hx
  have:=(h5 k hk).1
  rw[Yq hk]at this
  simp only[Yd,Bool.and_eq_true,decide_eq_true_eq]at this
  omega
def Some' (s:RS):Prop:=match s.stk with
 | []=>False
 | [f]=>f.2≠[]
 | _ :: _ :: _=>True
theorem Some'.hd {s:RS}{f:Int × List Int}{r:List (Int × List Int)}(h:s.stk=f :: r)(h2:f.2≠[]):Some' s:=by
 unfold Some';rw[h]
 cases r with
 | nil=>exact h2
 | cons a r=>trivial
theorem rdStep_some {w:ByteArray}{s:RS}(h:Some' s∨(s=rs0/\(Zk w).getD 0 0≠32)):(∀ s',Xl w s=.ok s'->Some' s')/\(∀ r,Xl w s=.error r->r.1≠0):=by
 have hne:s.stk≠[]:=by
  rcases h with h|⟨rfl,-⟩
  ·intro e;unfold Some' at h;rw[e]at h;exact h
  ·simp[rs0]
 obtain⟨f,r,hs⟩:∃ f r,s.stk=f :: r:=by
  cases hc:s.stk with
  | nil=>exact absurd hc hne
  | cons f r=>exact⟨f,r,rfl⟩
 unfold Xl
 simp only
 split
 ·rename_i h32
  refine⟨fun s' e=>?_,fun r e=>by cases e⟩
  rcases h with h|⟨rfl,hb⟩
  ·cases e;exact h
  ·exact absurd h32 hb
 split
 ·refine⟨fun s' e=>?_,fun r e=>by cases e⟩
  cases e
  unfold Some';rw[hs];trivial
 split
 ·rw[hs]
  cases r with
  | nil=>exact⟨fun s' e=>(by cases e),fun r e=>by cases e;exact(by decide:(5:Int)≠0)⟩
  | cons g r=>exact⟨fun s' e=>(by cases e;exact Some'.hd rfl (by simp)),fun r e=>by cases e⟩
 split
 ·split
  ·rw[hs]
   exact⟨fun s' e=>(by cases e;exact Some'.hd rfl (by simp)),fun r e=>by cases e⟩
  ·exact⟨fun s' e=>(by cases e),fun r e=>by cases e;exact(by decide:(3:Int)≠0)⟩
 ·exact⟨fun s' e=>(by cases e),fun r e=>by cases e;exact(by decide:(2:Int)≠0)⟩
theorem rdRun_some {w:ByteArray}:∀ (k:Nat)(s:RS),Some' s->(∀ s',rdRun w k s=.ok s'->Some' s')/\(∀ r,rdRun w k s=.error r->r.1≠0)
 | 0,s,h=>⟨fun s' e=>(by cases e;exact h),fun r e=>by cases e⟩
 | k+1,s,h=>by
  rw[rdRun]
  split
  ·obtain⟨a,b⟩:=rdStep_some (w:=w) (.inl h)
   cases hc:Xl w s with
   | ok s'=>exact rdRun_some k s' (a s' hc)
   | error r=>exact⟨fun s' e=>(by cases e),fun r' e=>by cases e;exact b r hc⟩
  ·exact⟨fun s' e=>(by cases e;exact h),fun r e=>by cases e⟩
theorem rdAns_some {w:ByteArray}(hw:tx0 w=true)(h:(Vx w).how=0):(Vx w).list≠[]:=by
 simp only[tx0,Bool.and_eq_true,decide_eq_true_eq]at hw
 obtain⟨h1,h2⟩:=hw
 by_cases hbig:400 < w.size
 ·rw[rdAns_big hbig]at h;exact absurd h (by show¬ (1:Int)=0;decide)
 have hl:=Yn w
 have hb:(Zk w).getD 0 0≠32:=by
  cases hc:Zk w with
  | nil=>rw[hc]at hl;simp at hl;omega
  | cons a l=>rw[hc]at h2;simpa using h2
 obtain⟨k,hk⟩:∃ k,w.size=k+1:=⟨w.size - 1,by omega⟩
 obtain⟨a,b⟩:=rdStep_some (w:=w) (.inr ⟨rfl,hb⟩)
 have hrun:(∀ s',rdRun w w.size rs0=.ok s'->Some' s')/\(∀ r,rdRun w w.size rs0=.error r->r.1≠0):=by
  rw[hk,rdRun,if_pos (show rs0.at_ < w.size by show 0 < _;omega)]
  cases hc:Xl w rs0 with
  | ok s'=>exact rdRun_some k s' (a s' hc)
  | error r=>exact⟨fun s' e=>(by cases e),fun r' e=>by cases e;exact b r hc⟩
 cases hR:rdRun w w.size rs0 with
 | error r=>
  rw[rdAns_err hbig (a:=r.1) (b:=r.2) hR]at h
  exact absurd h (hrun.2 r hR)
 | ok s=>
  have hs:=hrun.1 s hR
  rw[rdAns_ok hbig hR]at h ⊢
  unfold rdFin at h ⊢
  unfold Some' at hs
  cases hc:s.stk with
  | nil=>rw[hc]at hs;exact absurd hs (fun h=>h)
  | cons f r=>
   rw[hc]at hs h
   cases r with
   | nil=>
    simp only at hs h ⊢
    by_cases hp:PoolOk s.out
    ·rw[if_pos hp];exact hs
    ·rw[if_neg hp]at h;exact absurd h (by show¬ (6:Int)=0;decide)
   | cons g r=>exact absurd h (by show¬ (4:Int)=0;decide)
theorem comp_len {p:List Nd}{l:List Int}(hl:l≠[])(h:(Yo p l).how=0):0 < (Yo p l).L.length:=by
 rcases compAns_two p l with h1|⟨-,h2,-,h4,-⟩
 ·exact absurd h h1.1
 ·have:=List.length_pos_iff.2 hl
  obtain⟨-,a,b,-⟩:=code_op h2 (j:=0) Om
  omega
def wP1:ByteArray:=⟨#[40,112,114,105,110,116,32,49,41]⟩
def pP1:List Nd:=[⟨4,0,⟨#[112,114,105,110,116]⟩,0,0⟩,⟨3,1,⟨#[]⟩,0,0⟩,⟨1,0,⟨#[]⟩,0,0⟩,⟨5,0,⟨#[]⟩,1,2⟩,⟨5,0,⟨#[]⟩,0,3⟩]
theorem cP1_how:(Yo pP1 [4]).how=0:=by decide +kernel
theorem numM_one:numM [49]=(1,true):=by
 rw[numM_eq (x:=1) (by decide) (by decide) (by decide)]
 simp[decOf,digs_lt (n:=1) (by decide)]
theorem rP1:Vx wP1=⟨pP1,[4],0,9⟩:=by
 have n1:Zk wP1=[40,112,114,105,110,116,32,49,41]:=by decide +kernel
 have w1:wlen (Zk wP1) 1=5:=by decide +kernel
 have w7:wlen (Zk wP1) 7=1:=by decide +kernel
 have e1:wP1.extract 1 6=⟨#[112,114,105,110,116]⟩:=by decide +kernel
 have e7:wP1.extract 7 8=⟨#[49]⟩:=by decide +kernel
 have x1:wordN ⟨#[112,114,105,110,116]⟩=(⟨4,0,⟨#[112,114,105,110,116]⟩,0,0⟩,true):=by
  unfold wordN
  rw[if_neg (by decide +kernel),if_neg (by decide +kernel),numM_nd (by decide +kernel),if_neg (by decide)]
  rw[show Yd ⟨#[112,114,105,110,116]⟩=true from by decide +kernel]
 have x7:wordN ⟨#[49]⟩=(⟨3,1,⟨#[]⟩,0,0⟩,true):=by
  unfold wordN
  rw[if_neg (by decide +kernel),if_neg (by decide +kernel),show Zk ⟨#[49]⟩=[49]from by decide +kernel,numM_one,if_pos rfl]
 have hz:wP1.size=9:=rfl
 have s0:Xl wP1 rs0=.ok ⟨1,[(0,[]),(0,[])],[]⟩:=rd_op (b:=40) (by rw[n1];rfl) rfl
 have s1:Xl wP1 ⟨1,[(0,[]),(0,[])],[]⟩=.ok ⟨6,[(0,[0]),(0,[])],[⟨4,0,⟨#[112,114,105,110,116]⟩,0,0⟩]⟩:=by
  have:=rd_wd (w:=wP1) (s:=⟨1,[(0,[]),(0,[])],[]⟩) (b:=112) (e:=6) (f:=(0,[])) (r:=[(0,[])]) (by rw[n1];rfl) (by decide) (by decide) (by decide) (by decide +kernel) (by rw[w1]) (by rw[e1,x1]) rfl
  rw[e1,x1]at this
  exact this
 have s2:Xl wP1 ⟨6,[(0,[0]),(0,[])],[⟨4,0,⟨#[112,114,105,110,116]⟩,0,0⟩]⟩=.ok ⟨7,[(0,[0]),(0,[])],[⟨4,0,⟨#[112,114,105,110,116]⟩,0,0⟩]⟩:=rd_sp (b:=32) (by rw[n1];rfl) rfl
 have s3:Xl wP1 ⟨7,[(0,[0]),(0,[])],[⟨4,0,⟨#[112,114,105,110,116]⟩,0,0⟩]⟩=.ok ⟨8,[(0,[0,1]),(0,[])],[⟨4,0,⟨#[112,114,105,110,116]⟩,0,0⟩,⟨3,1,⟨#[]⟩,0,0⟩]⟩:=by
  have:=rd_wd (w:=wP1) (s:=⟨7,[(0,[0]),(0,[])],[⟨4,0,⟨#[112,114,105,110,116]⟩,0,0⟩]⟩) (b:=49) (e:=8) (f:=(0,[0])) (r:=[(0,[])]) (by rw[n1];rfl) (by decide) (by decide) (by decide) (by decide +kernel) (by rw[w7]) (by rw[e7,x7]) rfl
  rw[e7,x7]at this
  exact this
 have s4:Xl wP1 ⟨8,[(0,[0,1]),(0,[])],[⟨4,0,⟨#[112,114,105,110,116]⟩,0,0⟩,⟨3,1,⟨#[]⟩,0,0⟩]⟩=.ok ⟨9,[(0,[4])],pP1⟩:=rd_cl (b:=41) (f:=(0,[0,1])) (g:=(0,[])) (r:=[]) (by rw[n1];rfl) rfl rfl
 have hrun:rdRun wP1 wP1.size rs0=.ok ⟨9,[(0,[4])],pP1⟩:=by
  show rdRun wP1 (8+1) rs0=_
  rw[rdRun_ok (by decide) s0,rdRun_ok (by decide) s1,rdRun_ok (by decide) s2,rdRun_ok (by decide) s3,rdRun_ok (by decide) s4,rdRun_end (by decide)]
 rw[rdAns_ok (by decide) hrun]
 unfold rdFin
 simp only
 rw[if_pos (by decide +kernel)]
 rfl
theorem aP1:(Yo (Vx wP1).pool (Vx wP1).list).how=0:=by rw[rP1];exact cP1_how
end Go.Proofs.YtcffcnipmgkjfaaGreat.Ax
