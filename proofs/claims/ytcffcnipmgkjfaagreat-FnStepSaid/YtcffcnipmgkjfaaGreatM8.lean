/- What the law needs: laws of the abstract machine, and contracts of functions. -/
import Derived.Test.YtcffcnipmgkjfaaGreatM2
import Derived.Test.YtcffcnipmgkjfaaGreatM7
import Derived.Test.YtcffcnipmgkjfaaGreatM3
import Derived.Test.YtcffcnipmgkjfaaGreatM5
set_option linter.unusedVariables false
set_option linter.unusedSimpArgs false
set_option maxHeartbeats 8000000
namespace Go.Proofs.YtcffcnipmgkjfaaGreat.Ax
open Go
theorem addLen (m:Mc)(x:List Nd):(m.add x).p.length=m.p.length+x.length:=by simp[Mc.add]
theorem listLen (xs:List Int)(m:Mc):(mList xs m).p.length=m.p.length+(xs.length+1):=by simp[mList,Mc.add,lNodes_len]
theorem saveV_eq (m:Mc)(q:Int)(xs:List Int):Wn ((m.p.length:Int) :: xs) (m.add [ndInt q])=mSaveV xs m:=by
 unfold Wn mSaveV Mc.add
 simp only[List.length_append,List.length_cons,List.length_nil]
 omega
theorem quoE {x:Int}(h:0<=x/\x<=1000000000):IntKind.i64.wrap (x.tdiv 8)=x / 8:=by
 rw[Int.tdiv_eq_ediv_of_nonneg h.1,Wo Om]
def mChk (n:Int):MR->MR
 | .ok m=>if 0<=m.a/\m.a<=n - 1 then .ok m else .error 7
 | .error h=>.error h
theorem mChk_ok {n:Int}{m:Mc}(h:0<=m.a/\m.a<=n - 1):mChk n (.ok m)=.ok m:=if_pos h
theorem mChk_no {n:Int}{m:Mc}(h:¬ (0<=m.a/\m.a<=n - 1)):mChk n (.ok m)=.error 7:=if_neg h
theorem mEnd_chk (n:Int)(m:Mc)(r:MR):mEnd n m (mChk n r)=mEnd n m r:=by
 cases r with
 | error h=>rfl
 | ok m1=>
  by_cases h:0<=m1.a/\m1.a<=n - 1
  ·rw[mChk_ok h]
  ·rw[mChk_no h]
   unfold mEnd
   simp only
   rw[if_pos h]
section
variable {c id n:Nat}{H:Hp}{R:List Value}{v:Value}{m:Mc}
theorem PC.addI (h:SM c id n H R v m)(hl:m.p.length<=1000000)(x:Nd):RtA Tryz.prog 101 [ptr c 0,.agg ⟨x.cells⟩] c id H n (fun r H' n'=>r=.int .i64 m.p.length/\∃ v' id',n<=id'/\SM c id' n' H' R v' (m.add [x])):=k101 h Om x
theorem PC.pairI (h:SM c id n H R v m)(hl:m.p.length<=1000000)(a b:Int):RtA Tryz.prog 125 [ptr c 0,.int .i64 a,.int .i64 b] c id H n (fun r H' n'=>r=.int .i64 m.p.length/\∃ v' id',n<=id'/\SM c id' n' H' R v' (m.add [Xt a b])):=k125 h Om a b
theorem PC.listI (h:SM c id n H R v m){w:Value}{xs:List Int}(hw:Li eInt n H w xs)(hoc:Off c w)(hod:Off id w)(hl:m.p.length+xs.length<=1000000):RtA Tryz.prog 140 [ptr c 0,w] c id H n (fun r H' n'=>r=.int .i64 (Wn xs m)/\∃ v' id',n<=id'/\SM c id' n' H' R v' (mList xs m)):=k140 h hw hoc hod hl
theorem PC.addS (h:SM c id n H R v m)(hl:m.p.length<=1000000)(x:Nd):RtA Tryz.prog 88 [ptr c 0,.agg ⟨x.cells⟩] c id H n (fun r H' n'=>r=.int .i64 m.p.length/\∃ v' id',n<=id'/\SM c id' n' H' R v' (m.add [x])):=k88 h Om x
theorem PC.listS (h:SM c id n H R v m){w:Value}{xs:List Int}(hw:Li eInt n H w xs)(hoc:Off c w)(hod:Off id w)(hl:m.p.length+xs.length<=1000000):RtA Tryz.prog 137 [ptr c 0,w] c id H n (fun r H' n'=>r=.int .i64 (Wn xs m)/\∃ v' id',n<=id'/\SM c id' n' H' R v' (mList xs m)):=k137 h hw hoc hod hl
end
theorem k122 {n0 c id n:Nat}{H:Hp}{v x1 x2 x3 w:Value}{m:Mc}{l:List Nd}{li:List Ins}{ld:List Df}{xs:List Int}{b:Nat}(h:SM c id n H [x1,x2,x3] v m)(hw:Wf b m)(hb:b<=100000)(hC:Cd n0 H x1 x2 x3 l li ld)(hn0:n0<=c/\n0<=id)(hll:li.length<=400)(ha:0<=m.a/\m.a<=1000)(x:Nd)(hx:0<=x.n/\x.n<=1000000000)(hxs:Li eInt n H w xs)(hoc:Off c w)(hod:Off id w)(hxl:xs.length<=1000) :
  RtA Tryz.prog 122 [ptr c 0,.agg ⟨x.cells⟩,w] c id H n (MRes (mChk li.length (mEnter li.length x xs (m.a+1) m)) c id n [x1,x2,x3]):=by
 apply RtA.of
 rw[c122];unfold S122 mEnter
 obtain⟨xk,xn,xst,xa,xb⟩:=x
 simp only at hx ⊢
 have hc:H c=some (.row [v,.int .i64 m.a,.int .i64 m.s,.int .i64 m.e,.int .i64 m.d,.int .i64 m.t,.int .i64 m.k,.int .i64 m.r,x1,x2,x3] 0 true):=h.hc
 have hcn:=h.cn
 have hid:=h.idn
 have hne:=h.ne
 have hl:=hw.len
 have hrem:xn.tmod 8=xn % 8:=Int.tmod_eq_emod_of_nonneg hx.1
 have hquo:=quoE hx
 have hlen:=hxs.len
 by_cases c1:xn % 8=(xs.length:Int)
 case neg=>
  rw[if_pos c1]
  refine W1 (Yv @Nd.cells.eq_1 hlen hrem c1) ?_
  exact Wp.pure ⟨So,Mo,Yh (h.mv So Mo Mo) (.inr rfl) (by decide)⟩
 rw[if_neg (fun h=>h c1)]
 refine W1 (Xq @Nd.cells.eq_1 hlen hrem c1 hc hquo) ?_
 refine Zv (k42 (hC.i.mv Om Mo) Om _) ?_
 intro H1 n1 q1 s1
 have e9:(0<=xn / 8/\xn / 8<=(li.length:Int) - 1)=(xn / 8 < (li.length:Int)):=propext Om
 by_cases c2:xn / 8 < (li.length:Int)
 case neg=>
  rw[if_pos c2]
  refine W1 (Ye s1 e9 c2) ?_
  exact Wp.pure ⟨So,(Mm s1),Yh (h.mv So (Mm s1) (Mm s1)) (.inr rfl) (by decide)⟩
 rw[if_neg (fun h=>h c2),mChk_ok So]
 have wA:IntKind.i64.wrap (m.a+1)=m.a+1:=Wo Om
 refine W1 (Xm s1 hc e9 c2 wA) ?_
 refine Zj ((h.mv Om (Mm s1) (Mm s1)).addI Om (ndInt (m.a+1))) ?_
 rintro _ H2 n2 q2 s2 ⟨rfl,v2,id2,i2,hS2⟩
 have f2:=addLen m [ndInt (m.a+1)]
 simp only[List.length_cons,List.length_nil]at f2
 generalize hm2:m.add [ndInt (m.a+1)]=m2 at hS2 f2
 have hs2:m2.s=m.s/\m2.e=m.e:=by subst hm2;exact⟨rfl,rfl⟩
 have b2:H2 n=some (.row [.int .i64 xk,.int .i64 xn,.string xst,.int .i64 xa,.int .i64 xb] 0 true):=by simp(disch:=omega) only[s2,s1,Ze]
 have hc2:H2 c=some (.row [v2,.int .i64 m2.a,.int .i64 m2.s,.int .i64 m2.e,.int .i64 m2.d,.int .i64 m2.t,.int .i64 m2.k,.int .i64 m2.r,x1,x2,x3] 0 true):=hS2.hc
 have hid2:=hS2.idn
 refine W1 hc2 ?_
 refine Uc eInt [(m.p.length:Int),m2.s,m2.e] (by decide) rfl rfl ?_
 refine W0 trivial ?_
 refine Zj ((hS2.mv Om Mo Mo).listI ((At.of rfl (Ze _ _ _)).lst Om) (Off.sl Om) (Off.sl Om) (by simp only[List.length_cons,List.length_nil];omega)) ?_
 rintro _ H3 n3 q3 s3 ⟨rfl,v3,id3,i3,hS3⟩
 have f3:=listLen [(m.p.length:Int),m2.s,m2.e] m2
 simp only[List.length_cons,List.length_nil]at f3
 generalize hr3:Wn [(m.p.length:Int),m2.s,m2.e] m2=r3
 generalize hm3:mList [(m.p.length:Int),m2.s,m2.e] m2=m3 at hS3 f3
 have hc3:H3 c=some (.row [v3,.int .i64 m3.a,.int .i64 m3.s,.int .i64 m3.e,.int .i64 m3.d,.int .i64 m3.t,.int .i64 m3.k,.int .i64 m3.r,x1,x2,x3] 0 true):=hS3.hc
 have hid3:=hS3.idn
 refine W1 hc3 ?_
 refine Zj ((hS3.mv Om rfl rfl).pairI Om _ _) ?_
 rintro _ H4 n4 q4 s4 ⟨rfl,v4,id4,i4,hS4⟩
 have f4:=addLen m3 [Xt r3 m3.d]
 simp only[List.length_cons,List.length_nil]at f4
 generalize hm4:m3.add [Xt r3 m3.d]=m4 at hS4 f4
 have hc4:H4 c=some (.row [v4,.int .i64 m4.a,.int .i64 m4.s,.int .i64 m4.e,.int .i64 m4.d,.int .i64 m4.t,.int .i64 m4.k,.int .i64 m4.r,x1,x2,x3] 0 true):=hS4.hc
 have hid4:=hS4.idn
 refine W1 hc4 ?_
 refine Zj ((hS4.to (m':={ m4 with d:=(m3.p.length:Int) }) Om (Ze _ _ _) (Zf _ _ hS4.ne) rfl).listI (hxs.mv2 hoc hod Om (Mm (Yv s4 s3 s2 s1))) hoc (hxs.off Om) So) ?_
 rintro _ H5 n5 q5 s5 ⟨rfl,v5,id5,i5,hS5⟩
 have f5:=listLen xs { m4 with d:=(m3.p.length:Int) }
 generalize hr5:Wn xs { m4 with d:=(m3.p.length:Int) }=r5
 generalize hm5:mList xs { m4 with d:=(m3.p.length:Int) }=m5 at hS5 f5
 have hc5:H5 c=some (.row [v5,.int .i64 m5.a,.int .i64 m5.s,.int .i64 m5.e,.int .i64 m5.d,.int .i64 m5.t,.int .i64 m5.k,.int .i64 m5.r,x1,x2,x3] 0 true):=hS5.hc
 have hid5:=hS5.idn
 have b5:H5 n=some (.row [.int .i64 xk,.int .i64 xn,.string xst,.int .i64 xa,.int .i64 xb] 0 true):=by simp(disch:=omega) only[s5,s4,s3,Zf,b2]
 simp only at f5
 refine W1 (Zu hc5 b5) ?_
 refine Zj ((hS5.mv Om rfl rfl).pairI Om _ _) ?_
 rintro _ H6 n6 q6 s6 ⟨rfl,v6,id6,i6,hS6⟩
 have f6:=addLen m5 [Xt r5 xa]
 simp only[List.length_cons,List.length_nil]at f6
 generalize hm6:m5.add [Xt r5 xa]=m6 at hS6 f6
 have hc6:H6 c=some (.row [v6,.int .i64 m6.a,.int .i64 m6.s,.int .i64 m6.e,.int .i64 m6.d,.int .i64 m6.t,.int .i64 m6.k,.int .i64 m6.r,x1,x2,x3] 0 true):=hS6.hc
 have hid6:=hS6.idn
 refine W1 hc6 ?_
 refine Zj ((hS6.to (m':={ m6 with e:=(m5.p.length:Int) }) Om (Ze _ _ _) (Zf _ _ hS6.ne) rfl).addI So Va) ?_
 rintro _ H7 n7 q7 s7 ⟨rfl,v7,id7,i7,hS7⟩
 have hid7:=hS7.idn
 have b7:H7 n=some (.row [.int .i64 xk,.int .i64 xn,.string xst,.int .i64 xa,.int .i64 xb] 0 true):=by simp(disch:=omega) only[s7,s6,Zf,b5]
 generalize hm7:Mc.add { m6 with e:=(m5.p.length:Int) } [Va]=m7 at hS7
 have hc7:H7 c=some (.row [v7,.int .i64 m7.a,.int .i64 m7.s,.int .i64 m7.e,.int .i64 m7.d,.int .i64 m7.t,.int .i64 m7.k,.int .i64 m7.r,x1,x2,x3] 0 true):=hS7.hc
 refine W1 (Ye hc7 b7 hquo) ?_
 refine Wp.pure ⟨So,(Mm (Wt s7 s6 s5 s4 s3 s2 s1)),MRes.ok (v':=v7) (id':=id7) ?_ (.inl Om)⟩
 have hfin:SM c id7 (n7+9) _ [x1,x2,x3] v7 { m7 with s:=(m6.p.length:Int),a:=xn / 8 }:=hS7.to Om (Ze _ _ _) (Zf _ _ hS7.ne) rfl
 refine cast ?_ hfin
 have e1:=saveV_eq m (m.a+1) [m.s,m.e]
 rw[hm2]at e1
 rw[← hm7,← hm6,← hr5,← hm5,← hm4,← hm3,← hr3,hs2.1,hs2.2,e1,← hm2]
 rfl
theorem k124 {n0 c id n:Nat}{H:Hp}{v x1 x2 x3 w:Value}{m:Mc}{l:List Nd}{li:List Ins}{ld:List Df}{xs:List Int}{b:Nat}(h:SM c id n H [x1,x2,x3] v m)(hw:Wf b m)(hb:b<=100000)(hC:Cd n0 H x1 x2 x3 l li ld)(hn0:n0<=c/\n0<=id)(hll:li.length<=400)(st:Int)(hst:In m st)(hxs:Li eInt n H w xs)(hoc:Off c w)(hod:Off id w)(hxl:xs.length<=1000) :
  RtA Tryz.prog 124 [ptr c 0,.int .i64 st,w] c id H n (MRes (mChk li.length (Ws st xs m)) c id n [x1,x2,x3]):=by
 apply RtA.of
 rw[c124];unfold S124
 have hc:H c=some (.row [v,.int .i64 m.a,.int .i64 m.s,.int .i64 m.e,.int .i64 m.d,.int .i64 m.t,.int .i64 m.k,.int .i64 m.r,x1,x2,x3] 0 true):=h.hc
 have hcn:=h.cn
 have hid:=h.idn
 have hne:=h.ne
 have hl:=hw.len
 have hlen:=hxs.len
 by_cases c1:xs.length=1
 case neg=>
  rw[show Ws st xs m=.error 2 from if_pos c1]
  refine W1 (Zu hlen (show¬ (xs.length:Int)=1 by omega)) ?_
  exact Wp.pure ⟨So,Mo,Yh (h.mv So Mo Mo) (.inr rfl) (by decide)⟩
 have c1i:(xs.length:Int)=1:=by omega
 refine W1 (Zu hlen c1i) ?_
 refine Ya (kw96 (h.li.mv Om Mo) (hw.w hb) Om hc rfl st hst.1 hst.2) ?_
 rintro _ H1 n1 q1 s1 ⟨u,rfl,idu,iu1,iu2,hU⟩
 have hch:=fun(i:Int) (h0:0<=i) (h1:i < ((Zi m.p st).1.length:Int))=>hw.chain hst h0 h1
 have hul:=(hU.lst iu2).len
 have hU1:=hU.lst iu2
 have hnu:notTup u=true:=by rcases hU with⟨h,_⟩|⟨h,_⟩ <;> rw[h] <;> rfl
 generalize hC0:Zi m.p st=C at hU hch hul hU1 ⊢
 obtain⟨ch,ok⟩:=C
 simp only at hU hch hul hU1 ⊢
 have eno:¬ (ok=true/\ch.length=4/\(gi m.p (gi ch 0)).k=3)->Ws st xs m=.error 7:=by
  intro h3
  unfold Ws
  rw[if_neg (fun h=>h c1),hC0,if_neg h3]
 have eok:(ok=true/\ch.length=4/\(gi m.p (gi ch 0)).k=3)->Ws st xs m=.ok (mPut (gi xs 0) { m with a:=(gi m.p (gi ch 0)).n,s:=gi ch 1,e:=gi ch 2,d:=gi ch 3 }):=by
  intro h3
  unfold Ws
  rw[if_neg (fun h=>h c1),hC0,if_pos h3]
 have fin:∀ (H':Hp) (n':Nat),n<=n'->(∀ i,i < n->H' i=H i)->¬ (ok=true/\ch.length=4/\(gi m.p (gi ch 0)).k=3)->Wp (some (Value.int .i64 7,H',n')) (fun q=>n<=q.2.2/\(∀ i,i < n->i≠c->i≠id->q.2.1 i=H i)/\MRes (mChk li.length (Ws st xs m)) c id n [x1,x2,x3] q.1 q.2.1 q.2.2):=by
  intro H' n' h1 h2 h3
  rw[eno h3]
  exact Wp.pure ⟨h1,fun i hi _ _=>h2 i hi,Yh (h.mv h1 (h2 _ hcn) (h2 _ hid)) (.inr rfl) (by decide)⟩
 cases ok with
 | false=>
  refine W1 trivial ?_
  refine fin _ _ ?_ ?_ (fun h=>by cases h.1)
  ·omega
  ·exact(Mm s1)
 | true=>
 by_cases c4:ch.length=4
 case neg=>
  have c4i:¬ (ch.length:Int)=4:=by omega
  refine W1 (Zu hul c4i) ?_
  refine fin _ _ ?_ ?_ (fun h=>c4 h.2.1)
  ·omega
  ·exact(Mm s1)
 have c4i:(ch.length:Int)=4:=by omega
 have r0:=hch 0 Om Om
 have g0:=hU1.iAll (i:=0) Om Om
 have gx:=(h.li.mv (H':=H1) (Nat.le_refl _) (Mm s1)).nAll r0.1 r0.2
 have hok:=hw.at r0
 by_cases c3:(gi m.p (gi ch 0)).k=3
 case neg=>
  refine W1 (Wt hul c4i hc s1 g0 gx c3) ?_
  refine fin _ _ ?_ ?_ (fun h=>c3 h.2.2)
  ·omega
  ·exact(Mm s1)
 have hnum:=hok.num c3
 rw[eok ⟨rfl,c4,c3⟩]
 refine W1 (Wt hul c4i hc s1 g0 gx c3) ?_
 refine Zv (k42 (hC.i.mv Om (Mm s1)) Om _) ?_
 intro H2 n2 q2 s2
 by_cases c5:0<=(gi m.p (gi ch 0)).n/\(gi m.p (gi ch 0)).n<=(li.length:Int) - 1
 case neg=>
  rw[mChk_no c5]
  refine W1 (Ye s2 s1 c5) ?_
  exact Wp.pure ⟨So,(Mm (Zu s2 s1)),Yh (h.mv So (Mm (Zu s2 s1)) (Mm (Zu s2 s1))) (.inr rfl) (by decide)⟩
 rw[mChk_ok c5]
 have k0:=(hU1.mv (H':=H2) (m:=n2) Om (Mm s2)).iAll (i:=0) Om Om
 have k1:=(hU1.mv (H':=H2) (m:=n2) Om (Mm s2)).iAll (i:=1) Om Om
 have k2:=(hU1.mv (H':=H2) (m:=n2) Om (Mm s2)).iAll (i:=2) Om Om
 have k3:=(hU1.mv (H':=H2) (m:=n2) Om (Mm s2)).iAll (i:=3) Om Om
 have gy:=(h.li.mv (H':=H2) (Nat.le_refl _) (Mm (Zu s2 s1))).nAll r0.1 r0.2
 have kx:=(hxs.mv2 (H':=(H2.set c (some (.row [v,.int .i64 (gi m.p (gi ch 0)).n,.int .i64 (gi ch 1),.int .i64 (gi ch 2),.int .i64 (gi ch 3),.int .i64 m.t,.int .i64 m.k,.int .i64 m.r,x1,x2,x3] 0 true)))) hoc hod (Nat.le_refl _) (Mm (Zu s2 s1))).iAll (i:=0) Om Om
 refine W1 (Yj s2 s1 hc c5 @and_self k0 k1 (Yv k2 k3 gy kx)) ?_
 refine Zj (k97 (m:={ m with a:=(gi m.p (gi ch 0)).n,s:=gi ch 1,e:=gi ch 2,d:=gi ch 3 }) (h.to Om (Ze _ _ _) (Mm (Zu s2 s1)) rfl) So _) ?_
 rintro _ H3 n3 q3 s3 ⟨rfl,v3,id3,i3,hS3⟩
 refine W0 trivial ?_
 exact Wp.pure ⟨So,(Mm (Ye s3 s2 s1)),MRes.ok (hS3.mv So rfl rfl) (.inl Om)⟩
theorem NodeOk.sz {x:Nd}{m:Int}(h:NodeOk x m):x.s.size<=12:=by
 have e:∀ s:ByteArray,s=⟨#[]⟩->s.size<=12:=by rintro _ rfl;decide
 have hn:Yd x.s=true->x.s.size<=12:=fun h=>by
  unfold Yd at h
  rw[Bool.and_eq_true,decide_eq_true_iff]at h
  exact h.1.2
 rcases h with h|h|h|h|h|h|h|h|h
 ·exact e _ h.2.2.1
 ·exact e _ h.2.2.1
 ·exact e _ h.2.2.1
 ·exact hn h.2.2.1
 ·exact e _ h.2.2.1
 ·exact e _ h.2.2.1
 ·exact e _ h.2.2.1
 ·exact e _ h.2.2.1
 ·exact e _ h.2.2.1
theorem NodesOk.sz:∀ {l:List Nd}{i:Nat},NodesOk l i->∀ x∈l,x.s.size<=12
 | [],_,_,x,hx=>by cases hx
 | y :: l,i,h,x,hx=>by
  rcases List.mem_cons.1 hx with rfl|hx
  ·exact h.1.sz
  ·exact h.2.sz x hx
theorem primOut_badk {l:List Nd}{k:Int}{xs:List Int}{q:Int}(h:Yw l k xs=.bad q):q=3∨q=4:=by
 unfold Yw at h
 split at h
 ·cases h;exact .inl rfl
 ·split at h
  ·cases h
  ·split at h
   ·cases h
   ·split at h
    ·cases h
    ·cases h;exact .inr rfl
theorem argsI' (k:Int)(hk:0<=k/\k<=99)(H:Hp)(n:Nat):Rt Tryz.prog 141 [.int .i64 k] H n (.int .i64 (Yk k)):=k141 k Om H n
theorem argsS' (k:Int)(hk:0<=k/\k<=99)(H:Hp)(n:Nat):Rt Tryz.prog 152 [.int .i64 k] H n (.int .i64 (Yk k)):=k152 k Om H n
def mBuilt (k:Int)(xs:List Int)(next:Int)(m:Mc):MR :=
 if Yk k≠(xs.length:Int)then .error 2
 else if 12 < k then .ok { mList xs m with r:=Wn xs m,k:=k,t:=1 }
 else mPrim k xs next m
theorem primArgs_pos {k:Int}{j:Nat}(h:Yk k=(j:Int)):1<=k/\k<=19:=by
 unfold Yk at h
 split at h
 ·assumption
 ·omega
structure Cl (n0 c id n:Nat)(H:Hp)(x1 x2 x3 v w:Value)(R:List Value)(m:Mc)(l:List Nd)(li:List Ins)(ld:List Df)(b:Nat)(xs:List Int):Prop where
 h:SM c id n H R v m
 hw:Wf b m
 hb:b<=100000
 hC:Cd n0 H x1 x2 x3 l li ld
 hn0:n0<=c/\n0<=id
 hll:li.length<=400
 ha:0<=m.a/\m.a+1<=(li.length:Int) - 1
 hxs:Li eInt n H w xs
 hoc:Off c w
 hod:Off id w
 hxl:xs.length<=1000
 hr:∀ x∈xs,In m x
 hP:xs.length=2->PoolOk m.p
theorem kp123 {n0 c id n:Nat}{H:Hp}{x1 x2 x3 v w:Value}{m:Mc}{l:List Nd}{li:List Ins}{ld:List Df}{b:Nat}{xs:List Int}(K:Cl n0 c id n H x1 x2 x3 v w [x1,x2,x3] m l li ld b xs)(k:Int)(hk:0<=k/\k<=99)(h18:k≠18) :
  RtA Tryz.prog 123 [ptr c 0,.int .i64 k,w] c id H n (MRes (mChk li.length (mBuilt k xs (m.a+1) m)) c id n [x1,x2,x3]):=by
 obtain⟨h,hw,hb,hC,hn0,hll,ha,hxs,hoc,hod,hxl,hr,hP⟩:=K
 apply RtA.of
 rw[c123];unfold S123 mBuilt
 have hc:H c=some (.row [v,.int .i64 m.a,.int .i64 m.s,.int .i64 m.e,.int .i64 m.d,.int .i64 m.t,.int .i64 m.k,.int .i64 m.r,x1,x2,x3] 0 true):=h.hc
 have hcn:=h.cn
 have hid:=h.idn
 have hne:=h.ne
 have hl:=hw.len
 have hlen:=hxs.len
 refine W0 trivial ?_
 refine Zv (argsI' k hk _ _) ?_
 intro H1 n1 q1 s1
 by_cases c1:Yk k=(xs.length:Int)
 case neg=>
  rw[if_pos c1]
  refine W1 (Zu hlen c1) ?_
  exact Wp.pure ⟨So,(Mm s1),Yh (h.mv So (Mm s1) (Mm s1)) (.inr rfl) (by decide)⟩
 rw[if_neg (fun h=>h c1)]
 have hk1:=primArgs_pos c1
 by_cases c2:12 < k
 ·rw[if_pos c2,mChk_ok (by simp only[mList,Mc.add];omega)]
  refine W1 (Yv hlen c1 h18 c2) ?_
  refine Zj ((h.mv Om (Mm s1) (Mm s1)).listI (hxs.mv Om (Mm s1)) hoc hod Om) ?_
  rintro _ H2 n2 q2 s2 ⟨rfl,v2,id2,i2,hS2⟩
  generalize Wn xs m=r2
  generalize mList xs m=m2 at hS2 ⊢
  have hc2:H2 c=some (.row [v2,.int .i64 m2.a,.int .i64 m2.s,.int .i64 m2.e,.int .i64 m2.d,.int .i64 m2.t,.int .i64 m2.k,.int .i64 m2.r,x1,x2,x3] 0 true):=hS2.hc
  refine W1 hc2 ?_
  exact Wp.pure ⟨So,(Mm (Zu s2 s1)),MRes.ok (hS2.to So (Ze _ _ _) (Zf _ _ hS2.ne) rfl) (.inl Om)⟩
 rw[if_neg c2]
 refine W1 (Yv hlen c1 h18 c2) ?_
 refine Zj (k142 (h.mv Om (Mm s1) (Mm s1)) (hw.w hb) (fun x hx=>by have:=hw.ok.sz x hx;omega) (hxs.mv Om (Mm s1)) k (fun h11=>hP (by rw[h11]at c1;have:Yk 11=2:=rfl;omega)) Om c1.symm hr) ?_
 rintro _ H2 n2 q2 s2 hP2
 unfold mPrim
 cases hO:Yw m.p k xs with
 | bad q=>
  rw[hO]at hP2
  obtain⟨rfl,hS2⟩:=hP2
  rcases primOut_badk hO with rfl|rfl
  ·refine W0 trivial ?_
   exact Wp.pure ⟨So,(Mm (Zu s2 s1)),Yh (hS2.mv So rfl rfl) (.inr rfl) (by decide)⟩
  ·refine W0 trivial ?_
   exact Wp.pure ⟨So,(Mm (Zu s2 s1)),Yh (hS2.mv So rfl rfl) (.inr rfl) (by decide)⟩
 | old i=>
  rw[hO]at hP2
  obtain⟨rfl,hS2⟩:=hP2
  simp only
  rw[mChk_ok So]
  refine W0 trivial ?_
  refine Zj (k97 (m:=m) (hS2.mv Om rfl rfl) Om i) ?_
  rintro _ H3 n3 q3 s3 ⟨rfl,v3,id3,i3,hS3⟩
  have ea:(mPut i m).a=m.a:=rfl
  generalize mPut i m=m3 at hS3 ea ⊢
  have hc3:H3 c=some (.row [v3,.int .i64 m3.a,.int .i64 m3.s,.int .i64 m3.e,.int .i64 m3.d,.int .i64 m3.t,.int .i64 m3.k,.int .i64 m3.r,x1,x2,x3] 0 true):=hS3.hc
  have wA:IntKind.i64.wrap (m3.a+1)=m.a+1:=by rw[ea];exact Wo Om
  refine W1 (Zu hc3 wA) ?_
  exact Wp.pure ⟨So,(Mm (Ye s3 s2 s1)),MRes.ok (hS3.to So (Ze _ _ _) (Zf _ _ hS3.ne) rfl) (.inl Om)⟩
 | add x=>
  rw[hO]at hP2
  obtain⟨rfl,v2,id2,i2,hS2⟩:=hP2
  simp only
  rw[mChk_ok So]
  have hl2:=addLen m [x]
  simp only[List.length_cons,List.length_nil]at hl2
  refine W0 trivial ?_
  refine Zj (k97 (m:=m.add [x]) (hS2.mv Om rfl rfl) Om _) ?_
  rintro _ H3 n3 q3 s3 ⟨rfl,v3,id3,i3,hS3⟩
  have ea:(mPut m.p.length (m.add [x])).a=m.a:=rfl
  generalize mPut m.p.length (m.add [x])=m3 at hS3 ea ⊢
  have hc3:H3 c=some (.row [v3,.int .i64 m3.a,.int .i64 m3.s,.int .i64 m3.e,.int .i64 m3.d,.int .i64 m3.t,.int .i64 m3.k,.int .i64 m3.r,x1,x2,x3] 0 true):=hS3.hc
  have wA:IntKind.i64.wrap (m3.a+1)=m.a+1:=by rw[ea];exact Wo Om
  refine W1 (Zu hc3 wA) ?_
  exact Wp.pure ⟨So,(Mm (Ye s3 s2 s1)),MRes.ok (hS3.to So (Ze _ _ _) (Zf _ _ hS3.ne) rfl) (.inl Om)⟩
def IsCC (m:Mc)(f:Int):Prop:=(gi m.p f).k=8/\(gi m.p f).n=18
theorem mCall_fun {n next:Int}{fuel:Nat}{f:Int}{xs:List Int}{m:Mc}(h:(gi m.p f).k=6):Wd n next fuel f xs m=mEnter n (gi m.p f) xs next m:=by
 cases fuel <;> unfold Wd <;> rw[if_pos h]
theorem mCall_kont {n next:Int}{fuel:Nat}{f:Int}{xs:List Int}{m:Mc}(h:(gi m.p f).k=7):Wd n next fuel f xs m=Ws (gi m.p f).a xs m:=by
 cases fuel <;> unfold Wd <;> rw[if_neg Om,if_neg Om,if_pos h]
theorem mCall_no {n next:Int}{fuel:Nat}{f:Int}{xs:List Int}{m:Mc}(h:(gi m.p f).k≠6/\(gi m.p f).k≠7/\(gi m.p f).k≠8):Wd n next fuel f xs m=.error 3:=by
 cases fuel <;> unfold Wd <;> rw[if_neg h.1,if_neg h.2.2,if_neg h.2.1]
theorem mCall_prim {n next:Int}{fuel:Nat}{f:Int}{xs:List Int}{m:Mc}(h:(gi m.p f).k=8) (h18:(gi m.p f).n≠18):Wd n next fuel f xs m=mBuilt (gi m.p f).n xs next m:=by
 unfold mBuilt
 cases fuel <;> unfold Wd <;> rw[if_neg Om,if_pos h] <;> simp only[h18,if_false]
theorem mCall_cc0 {n next:Int}{fuel:Nat}{f:Int}{xs:List Int}{m:Mc}(h:IsCC m f)(h1:xs.length≠1):Wd n next fuel f xs m=.error 2:=by
 have e:Yk (gi m.p f).n≠(xs.length:Int):=by rw[h.2];intro e;have:Yk 18=1:=rfl;omega
 cases fuel <;> unfold Wd <;> rw[if_neg (by have:=h.1;omega),if_pos h.1,if_pos e]
def ccM (next:Int)(m:Mc):Mc:=(mSave next [m.s,m.e,m.d] m).add [ndKont (mSaveV [m.s,m.e,m.d] m)]
def ccV (next:Int)(m:Mc):Int:=((mSave next [m.s,m.e,m.d] m).p.length:Int)
theorem mCall_cc {n next:Int}{fuel:Nat}{f:Int}{xs:List Int}{m:Mc}(h:IsCC m f)(h1:xs.length=1):Wd n next (fuel+1) f xs m=Wd n next fuel (gi xs 0) [ccV next m] (ccM next m):=by
 have e:¬ Yk (gi m.p f).n≠(xs.length:Int):=by rw[h.2,h1];intro e;exact e rfl
 conv=>lhs;unfold Wd
 rw[if_neg (by have:=h.1;omega),if_pos h.1,if_neg e,if_pos h.2]
 rfl
theorem kc95 {n0 c id n:Nat}{H:Hp}{x1 x2 x3 v w:Value}{m:Mc}{l:List Nd}{li:List Ins}{ld:List Df}{b:Nat}{xs:List Int}(K:Cl n0 c id n H x1 x2 x3 v w [x1,x2,x3] m l li ld b xs)(f:Int)(hf:In m f)(hcc:¬ IsCC m f)(fuel:Nat) :
  RtA Tryz.prog 95 [ptr c 0,.int .i64 f,w] c id H n (MRes (mChk li.length (Wd li.length (m.a+1) fuel f xs m)) c id n [x1,x2,x3]):=by
 obtain⟨h,hw,hb,hC,hn0,hll,ha,hxs,hoc,hod,hxl,hr,hP⟩:=(show _ from K)
 apply RtA.of
 rw[c95];unfold S95
 have hc:H c=some (.row [v,.int .i64 m.a,.int .i64 m.s,.int .i64 m.e,.int .i64 m.d,.int .i64 m.t,.int .i64 m.k,.int .i64 m.r,x1,x2,x3] 0 true):=h.hc
 have hcn:=h.cn
 have hid:=h.idn
 have hne:=h.ne
 have gx:=h.li.nAll hf.1 hf.2
 have hok:=hw.at hf
 have hK:∀ (o:Option Obj),Cl n0 c id (n+10) (H.set (n+10) o) x1 x2 x3 v w [x1,x2,x3] m l li ld b xs:=fun o=>⟨h.mv Om Mo Mo,hw,hb,hC.mv Mo,hn0,hll,ha,hxs.mv Om Mo,hoc,hod,hxl,hr,hP⟩
 have six:(gi m.p f).k=6->0<=(gi m.p f).n/\(gi m.p f).n<=1000000000:=fun h=>by rcases hok with h'|h'|h'|h'|h'|h'|h'|h'|h' <;> omega
 have eight:(gi m.p f).k=8->0<=(gi m.p f).n/\(gi m.p f).n<=99:=fun h=>by rcases hok with h'|h'|h'|h'|h'|h'|h'|h'|h' <;> omega
 have seven:(gi m.p f).k=7->In m (gi m.p f).a:=fun h=>by have:=hok.one (.inr h);have:=hf.2;exact⟨by omega,by omega⟩
 by_cases c6:(gi m.p f).k=6
 ·rw[mCall_fun c6]
  have hn6:=six c6
  generalize gi m.p f=x at gx c6 hn6 ⊢
  obtain⟨xk,xn,xs',xa,xb⟩:=x
  simp only[Nd.cells]at gx c6 hn6
  refine W1 (Ye hc gx c6) ?_
  obtain⟨h',_,_,hC',_,_,_,hxs',_,_,_,_,_⟩:=hK (some (.row [.int .i64 6,.int .i64 xn,.string xs',.int .i64 xa,.int .i64 xb] 0 true))
  refine Zj (k122 (h'.mv Om rfl rfl) hw hb hC' hn0 hll Om ⟨6,xn,xs',xa,xb⟩ hn6 (hxs'.up Om) hoc hod hxl) ?_
  rintro _ H2 n2 q2 s2 ⟨q,m',v',id',rfl,e2,e3,e4⟩
  refine W0 trivial ?_
  subst c6
  exact Wp.pure ⟨So,(Mm s2),q,m',v',id',rfl,by omega,e3,e4⟩
 by_cases c8:(gi m.p f).k=8
 ·have c18:(gi m.p f).n≠18:=fun h=>hcc ⟨c8,h⟩
  rw[mCall_prim c8 c18]
  have hn8:=eight c8
  generalize gi m.p f=x at gx c8 c18 hn8 ⊢
  obtain⟨xk,xn,xs',xa,xb⟩:=x
  simp only[Nd.cells]at gx c8 c18 hn8
  refine W1 (Ye hc gx c8) ?_
  obtain⟨h',_,_,hC',_,_,_,hxs',_,_,_,_,_⟩:=hK (some (.row [.int .i64 8,.int .i64 xn,.string xs',.int .i64 xa,.int .i64 xb] 0 true))
  refine Zj (kp123 ⟨h'.mv Om rfl rfl,hw,hb,hC',hn0,hll,ha,hxs'.up Om,hoc,hod,hxl,hr,hP⟩ xn hn8 c18) ?_
  rintro _ H2 n2 q2 s2 ⟨q,m',v',id',rfl,e2,e3,e4⟩
  refine W0 trivial ?_
  exact Wp.pure ⟨So,(Mm s2),q,m',v',id',rfl,by omega,e3,e4⟩
 by_cases c7:(gi m.p f).k=7
 ·rw[mCall_kont c7]
  have hn7:=seven c7
  generalize gi m.p f=x at gx c7 hn7 ⊢
  obtain⟨xk,xn,xs',xa,xb⟩:=x
  simp only[Nd.cells]at gx c7 hn7
  refine W1 (Ye hc gx c7) ?_
  obtain⟨h',_,_,hC',_,_,_,hxs',_,_,_,_,_⟩:=hK (some (.row [.int .i64 7,.int .i64 xn,.string xs',.int .i64 xa,.int .i64 xb] 0 true))
  refine Zj (k124 (h'.mv Om rfl rfl) hw hb hC' hn0 hll xa hn7 (hxs'.up Om) hoc hod hxl) ?_
  rintro _ H2 n2 q2 s2 ⟨q,m',v',id',rfl,e2,e3,e4⟩
  refine W0 trivial ?_
  exact Wp.pure ⟨So,(Mm s2),q,m',v',id',rfl,by omega,e3,e4⟩
 rw[mCall_no ⟨c6,c7,c8⟩]
 generalize gi m.p f=x at gx c6 c7 c8 ⊢
 obtain⟨xk,xn,xs',xa,xb⟩:=x
 simp only[Nd.cells]at gx c6 c7 c8
 refine W1 (Xm hc gx c6 c7 c8) ?_
 exact Wp.pure ⟨So,Mo,Yh (h.mv So Mo Mo) (.inr rfl) (by decide)⟩
theorem In.cc {m:Mc}{y:Int}(h:In m y)(next:Int):In (ccM next m) y:=((h.add _).add _).add _
theorem cc_gi {m:Mc}{y:Int}(h:In m y)(next:Int):gi (ccM next m).p y=gi m.p y:=by
 have h1:=h.add [ndInt next]
 have h2:=h1.add (lNodes (m.add [ndInt next]).p.length [(m.p.length:Int),m.s,m.e,m.d])
 exact((gi_app h2.2 h.1).trans (gi_app h1.2 h.1)).trans (gi_app h.2 h.1)
theorem cc_kont (m:Mc)(next:Int):gi (ccM next m).p (ccV next m)=ndKont (mSaveV [m.s,m.e,m.d] m):=gi_last _ _
theorem cc_wf {b:Nat}{m:Mc}(h:Wf b m){next:Int}(hn : -1000000000<=next/\next<=1000000000):Wf (b+7) (ccM next m):=by
 obtain⟨h1,h2⟩:=h.save (xs:=[m.s,m.e,m.d]) (by
  intro v hv
  simp only[List.mem_cons,List.not_mem_nil,or_false]at hv
  rcases hv with rfl|rfl|rfl
  ·exact h.s
  ·exact h.e
  ·exact h.d) hn
 exact h1.add (kont_ok h2) (by simp)
theorem cc_in (m:Mc)(next:Int):In (ccM next m) (ccV next m):=by
 unfold In ccM ccV Mc.add
 simp only[List.length_append,List.length_cons,List.length_nil]
 omega
def CallI (c n0:Nat)(x1 x2 x3:Value)(l:List Nd)(li:List Ins)(ld:List Df)(fuel:Nat):Prop :=
 ∀ (id n:Nat) (H:Hp) (v w:Value) (m:Mc) (b:Nat) (xs:List Int),Cl n0 c id n H x1 x2 x3 v w [x1,x2,x3] m l li ld b xs->b+10 * fuel<=100000->∀ f,In m f->(IsCC m f->1<=fuel)->(IsCC m f->xs.length=1->IsCC m (gi xs 0)->2<=fuel) ->
  RtA Tryz.prog 95 [ptr c 0,.int .i64 f,w] c id H n (MRes (mChk li.length (Wd li.length (m.a+1) fuel f xs m)) c id n [x1,x2,x3])
theorem kq123 {n0 c id n:Nat}{H:Hp}{x1 x2 x3 v w:Value}{m:Mc}{l:List Nd}{li:List Ins}{ld:List Df}{b:Nat}{xs:List Int}{fuel:Nat}(ih:CallI c n0 x1 x2 x3 l li ld fuel)(K:Cl n0 c id n H x1 x2 x3 v w [x1,x2,x3] m l li ld b xs)(hbf:b+7+10 * fuel<=100000)(h2:xs.length=1->IsCC m (gi xs 0)->1<=fuel) :
  RtA Tryz.prog 123 [ptr c 0,.int .i64 18,w] c id H n (MRes (mChk li.length (if xs.length≠1 then .error 2 else Wd li.length (m.a+1) fuel (gi xs 0) [ccV (m.a+1) m] (ccM (m.a+1) m))) c id n [x1,x2,x3]):=by
 obtain⟨h,hw,hb,hC,hn0,hll,ha,hxs,hoc,hod,hxl,hr,hP⟩:=K
 apply RtA.of
 rw[c123];unfold S123
 have hc:H c=some (.row [v,.int .i64 m.a,.int .i64 m.s,.int .i64 m.e,.int .i64 m.d,.int .i64 m.t,.int .i64 m.k,.int .i64 m.r,x1,x2,x3] 0 true):=h.hc
 have hcn:=h.cn
 have hid:=h.idn
 have hne:=h.ne
 have hl:=hw.len
 have hlen:=hxs.len
 refine W0 trivial ?_
 refine Zv (argsI' 18 Om _ _) ?_
 intro H1 n1 q1 s1
 have hp18:Yk 18=1:=rfl
 by_cases c1:xs.length=1
 case neg=>
  rw[if_pos c1]
  refine W1 (Ye hlen hp18 (show¬ (1:Int)=(xs.length:Int) by omega)) ?_
  exact Wp.pure ⟨So,(Mm s1),Yh (h.mv So (Mm s1) (Mm s1)) (.inr rfl) (by decide)⟩
 rw[if_neg (fun h=>h c1)]
 have c1i:(xs.length:Int)=1:=by omega
 have wA:IntKind.i64.wrap (m.a+1)=m.a+1:=Wo Om
 have hx0:=hr _ (Yb (l:=xs) (i:=0) Om Om)
 refine W1 (Xq hlen hp18 c1i s1 hc wA) ?_
 refine Zj ((h.mv Om (Mm s1) (Mm s1)).addI Om (ndInt (m.a+1))) ?_
 rintro _ H2 n2 q2 s2 ⟨rfl,v2,id2,i2,hS2⟩
 have f2:=addLen m [ndInt (m.a+1)]
 simp only[List.length_cons,List.length_nil]at f2
 have hid2:=hS2.idn
 have hc2:H2 c=some (.row [v2,.int .i64 m.a,.int .i64 m.s,.int .i64 m.e,.int .i64 m.d,.int .i64 m.t,.int .i64 m.k,.int .i64 m.r,x1,x2,x3] 0 true):=hS2.hc
 refine W1 hc2 ?_
 refine Uc eInt [(m.p.length:Int),m.s,m.e,m.d] (by decide) rfl rfl ?_
 refine W0 trivial ?_
 refine Zj ((hS2.mv Om Mo Mo).listI (m:=m.add [ndInt (m.a+1)]) ((At.of rfl (Ze _ _ _)).lst Om) (Off.sl Om) (Off.sl Om) (by simp only[List.length_cons,List.length_nil];omega)) ?_
 rintro _ H3 n3 q3 s3 ⟨rfl,v3,id3,i3,hS3⟩
 have f3:=listLen [(m.p.length:Int),m.s,m.e,m.d] (m.add [ndInt (m.a+1)])
 simp only[List.length_cons,List.length_nil]at f3
 have hid3:=hS3.idn
 rw[saveV_eq m (m.a+1) [m.s,m.e,m.d]]
 refine W1 trivial ?_
 refine Zj ((hS3.mv Om rfl rfl).addI (m:=mSave (m.a+1) [m.s,m.e,m.d] m) (by unfold mSave;omega) (ndKont (mSaveV [m.s,m.e,m.d] m))) ?_
 rintro _ H4 n4 q4 s4 ⟨rfl,v4,id4,i4,hS4⟩
 have hid4:=hS4.idn
 have g4:=(hxs.mv2 (H':=H4) hoc hod (Nat.le_refl _) (Mm (Yv s4 s3 s2 s1))).iAll (i:=0) Om Om
 have hm4:∀ i,i < n->i≠c->i≠id->H4 i=H i:=(Mm (Yv s4 s3 s2 s1))
 refine W1 (Zu g4 @bsl_i) ?_
 refine Zj (ih id4 _ _ v4 _ (ccM (m.a+1) m) (b+7) [ccV (m.a+1) m] ⟨hS4.mv Om Mo Mo,cc_wf hw Om,by omega,hC.mv (fun i hi=>by rw[Zf _ _ Om];exact hm4 i Om Om Om),by omega,hll,ha,(At.of rfl (Ze _ _ _)).lst Om,Off.sl Om,Off.sl Om,by simp,fun x hx=>by rw[List.mem_singleton]at hx;rw[hx];exact cc_in _ _,fun h=>by simp at h⟩ Om (gi xs 0) (hx0.cc _) (fun hcc=>h2 c1 (by unfold IsCC at hcc ⊢;rw[cc_gi hx0]at hcc;exact hcc)) (fun _ _ hcc=>by
  have e:gi [ccV (m.a+1) m] 0=ccV (m.a+1) m:=rfl
  unfold IsCC at hcc
  rw[e,cc_kont]at hcc
  exact absurd hcc.1 (show¬ (7:Int)=8 by decide))) ?_
 rintro _ H5 n5 q5 s5 ⟨q,m',v',id',rfl,e2,e3,e4⟩
 refine W0 trivial ?_
 exact Wp.pure ⟨So,(Mm (Zu s5 hm4)),q,m',v',id',rfl,by omega,e3,e4⟩
theorem callI {c n0:Nat}{x1 x2 x3:Value}{l:List Nd}{li:List Ins}{ld:List Df}:∀ fuel,CallI c n0 x1 x2 x3 l li ld fuel:=by
 intro fuel
 induction fuel with
 | zero=>
  intro id n H v w m b xs K hbf f hf h1 h2
  exact kc95 K f hf (fun h=>by have:=h1 h;omega) 0
 | succ fuel ih=>
  intro id n H v w m b xs K hbf f hf h1 h2
  by_cases hcc:IsCC m f
  case neg=>exact kc95 K f hf hcc (fuel+1)
  obtain⟨h,hw,hb,hC,hn0,hll,ha,hxs,hoc,hod,hxl,hr,hP⟩:=K
  apply RtA.of
  rw[c95];unfold S95
  have hc:H c=some (.row [v,.int .i64 m.a,.int .i64 m.s,.int .i64 m.e,.int .i64 m.d,.int .i64 m.t,.int .i64 m.k,.int .i64 m.r,x1,x2,x3] 0 true):=h.hc
  have hcn:=h.cn
  have hid:=h.idn
  have hne:=h.ne
  have gx:=h.li.nAll hf.1 hf.2
  have eR:Wd li.length (m.a+1) (fuel+1) f xs m=if xs.length≠1 then .error 2 else Wd li.length (m.a+1) fuel (gi xs 0) [ccV (m.a+1) m] (ccM (m.a+1) m):=by
   by_cases e1:xs.length=1
   ·rw[if_neg (fun h=>h e1),mCall_cc hcc e1]
   ·rw[if_pos e1,mCall_cc0 hcc e1]
  rw[eR]
  have h2':=h2 hcc
  unfold IsCC at hcc
  generalize gi m.p f=x at gx hcc
  obtain⟨xk,xn,xs',xa,xb⟩:=x
  simp only[Nd.cells]at gx hcc
  obtain⟨rfl,rfl⟩:=hcc
  refine W1 (Zu hc gx) ?_
  refine Zj (kq123 ih ⟨h.mv Om Mo Mo,hw,hb,hC.mv Mo,hn0,hll,ha,hxs.mv Om Mo,hoc,hod,hxl,hr,hP⟩ Om (fun e1 e2=>by have:=h2' e1 e2;omega)) ?_
  rintro _ H5 n5 q5 s5 ⟨q,m',v',id',rfl,e2,e3,e4⟩
  refine W0 trivial ?_
  exact Wp.pure ⟨So,(Mm s5),q,m',v',id',rfl,by omega,e3,e4⟩
theorem k95 {n0 c id n:Nat}{H:Hp}{x1 x2 x3 v w:Value}{m:Mc}{l:List Nd}{li:List Ins}{ld:List Df}{b:Nat}{xs:List Int}(K:Cl n0 c id n H x1 x2 x3 v w [x1,x2,x3] m l li ld b xs)(hb:b<=90000)(f:Int)(hf:In m f) :
  RtA Tryz.prog 95 [ptr c 0,.int .i64 f,w] c id H n (MRes (mChk li.length (Wd li.length (m.a+1) 3 f xs m)) c id n [x1,x2,x3]) :=
 callI 3 id n H v w m b xs K Om f hf (fun _=>by omega) (fun _ _ _=>by omega)
def PdOk (l:List Nd)(k:Int)(xs:List Int):Prop:=PoolOk l/\(1<=k/\k<=19)/\(xs.length:Int)=Yk k/\∀ x∈xs,0<=x/\x < (l.length:Int)
instance (l:List Nd) (k:Int) (xs:List Int):Decidable (PdOk l k xs):=by unfold PdOk; infer_instance
theorem bNd_ok (b:Bool)(m:Int):NodeOk (bNd b) m:=by
 refine .inr (.inl ⟨rfl,?_,rfl,rfl,rfl⟩)
 unfold bNd;cases b <;> simp
theorem nNd_ok {k:Int}(h : -1000000000<=k/\k<=1000000000)(m:Int):NodeOk (nNd k) m:=.inr (.inr (.inl ⟨rfl,h,rfl,rfl,rfl⟩))
theorem pNode_ok {l:List Nd}{k:Int}{xs:List Int}(hk:1<=k/\k<=12)(hxs:(xs.length:Int)=Yk k) (hr:∀ x∈xs,0<=x/\x < (l.length:Int)) (hn : -1000000000<=(Wu l k xs).n/\(Wu l k xs).n<=1000000000):NodeOk (Wu l k xs) (l.length:Int):=by
 rw[argsLen hk]at hxs
 unfold Wu at hn ⊢
 by_cases c6:k=6
 ·rw[if_pos c6]at hn ⊢
  rw[if_pos Om]at hxs
  have r0:=hr _ (Yb (l:=xs) (i:=0) Om Om)
  have r1:=hr _ (Yb (l:=xs) (i:=1) Om Om)
  exact .inr (.inr (.inr (.inr (.inl ⟨rfl,rfl,rfl,⟨r0.1,So⟩,⟨r1.1,So⟩⟩))))
 rw[if_neg c6]at hn ⊢
 by_cases c9:k=9
 ·rw[if_pos c9];exact bNd_ok _ _
 rw[if_neg c9]at hn ⊢
 by_cases c10:k=10
 ·rw[if_pos c10];exact bNd_ok _ _
 rw[if_neg c10]at hn ⊢
 by_cases c11:k=11
 ·rw[if_pos c11];exact bNd_ok _ _
 rw[if_neg c11]at hn ⊢
 by_cases c12:k=12
 ·rw[if_pos c12];exact bNd_ok _ _
 rw[if_neg c12]at hn ⊢
 unfold Xi at hn ⊢
 by_cases c1:k=1
 ·rw[if_pos c1]at hn ⊢;exact nNd_ok hn _
 rw[if_neg c1]at hn ⊢
 by_cases c2:k=2
 ·rw[if_pos c2]at hn ⊢;exact nNd_ok hn _
 rw[if_neg c2]at hn ⊢
 by_cases c3:k=3
 ·rw[if_pos c3]at hn ⊢;exact nNd_ok hn _
 rw[if_neg c3]at hn ⊢
 by_cases c4:k=4
 ·rw[if_pos c4];exact bNd_ok _ _
 rw[if_neg c4];exact bNd_ok _ _
theorem ByteArray.of_nums {a b:ByteArray}(h:Zk a=Zk b):a=b:=by
 have h2:a.data.toList=b.data.toList:=by
  unfold Zk at h
  exact(List.map_inj_right (fun x y hxy=>UInt8.toNat_inj.1 Om)).1 h
 cases a;cases b
 simpa using h2
theorem nums_str {l:List Int}(h:∀ x∈l,0<=x/\x < 256):Zk (Vo l)=l:=by
 simp only[Zk,Vo,List.map_map]
 conv=>rhs;rw[← List.map_id l]
 apply List.map_congr_left
 intro x hx
 have:=h x hx
 simp only[Function.comp,id,UInt8.toNat_ofNat']
 omega
theorem str_nums (s:ByteArray):Vo (Zk s)=s:=by
 apply ByteArray.of_nums
 apply nums_str
 intro x hx
 simp only[Zk,List.mem_map]at hx
 obtain⟨b,_,rfl⟩:=hx
 have:=b.toNat_lt
 omega
theorem nums_app (a b:ByteArray):Zk (a++b)=Zk a++Zk b:=by simp[Zk]
theorem str_app (a b:List Int):Vo (a++b)=Vo a++Vo b:=by
 simp[Vo,ByteArray.ext_iff]
def digs (n:Nat):List Int:=if n < 10 then[48+(n:Int)]else digs (n / 10)++[48+((n % 10:Nat):Int)]
termination_by n
decreasing_by omega
theorem digs_lt {n:Nat}(h:n < 10):digs n=[48+(n:Int)]:=by rw[digs,if_pos h]
theorem digs_ge {n:Nat}(h:¬ n < 10):digs n=digs (n / 10)++[48+((n % 10:Nat):Int)]:=by rw[digs,if_neg h]
theorem digs_len:∀ (k n:Nat),n < 10 ^ (k+1)->(digs n).length<=k+1
 | 0,n,h=>by rw[digs_lt (by simpa using h)];simp
 | k+1,n,h=>by
  by_cases h1:n < 10
  ·rw[digs_lt h1];simp
  ·rw[digs_ge h1,List.length_append]
   have:=digs_len k (n / 10) (by rw[Nat.pow_succ]at h;omega)
   simp;omega
theorem digs_rng:∀ (n:Nat),∀ x∈digs n,48<=x/\x<=57:=by
 intro n
 induction n using Nat.strongRecOn with
 | ind n ih=>
  intro x hx
  by_cases h1:n < 10
  ·rw[digs_lt h1]at hx;simp at hx;omega
  ·rw[digs_ge h1]at hx
   rcases List.mem_append.1 hx with h|h
   ·exact ih (n / 10) Om x h
   ·simp at h;omega
def decOf (x:Int):List Int:=if x < 0 then 45 :: digs x.natAbs else digs x.natAbs
theorem decOf_neg {x:Int}(h:x < 0):decOf x=45 :: digs x.natAbs:=by unfold decOf;rw[if_pos h]
theorem decOf_nat {x:Int}(h:¬ x < 0):decOf x=digs x.natAbs:=by unfold decOf;rw[if_neg h]
theorem decOf_rng (x:Int):∀ y∈decOf x,45<=y/\y<=57:=by
 intro y hy
 unfold decOf at hy
 split at hy
 ·rcases List.mem_cons.1 hy with h|h
  ·omega
  ·have:=digs_rng _ y h;omega
 ·have:=digs_rng _ y hy;omega
def Cut (o t o':List Int):Prop:=(o.length+t.length<=400->o'=o++t)/\(400 < o.length+t.length->400 < o'.length)
theorem Cut.refl (o:List Int):Cut o [] o:=⟨fun _=>by simp,fun h=>by simpa using h⟩
theorem Cut.app (o t:List Int):Cut o t (o++t):=⟨fun _=>rfl,fun h=>by simpa using h⟩
theorem Cut.full {o t o':List Int}(h:400 < o.length)(h2:o.length<=o'.length):Cut o t o':=⟨fun h3=>by omega,fun _=>by omega⟩
theorem Cut.seq {o t o1 u o2:List Int}(h1:Cut o t o1)(h2:Cut o1 u o2):Cut o (t++u) o2:=by
 refine⟨fun h=>?_,fun h=>?_⟩
 ·rw[List.length_append]at h
  have e1:=h1.1 Om
  have e2:=h2.1 (by rw[e1,List.length_append];omega)
  rw[e2,e1,List.append_assoc]
 ·rw[List.length_append]at h
  by_cases h3:o.length+t.length<=400
  ·have e1:=h1.1 h3
   exact h2.2 (by rw[e1,List.length_append];omega)
  ·have e1:=h1.2 Om
   exact h2.2 Om
theorem Cut.add {o t o1:List Int}(h1:Cut o t o1)(u:List Int):Cut o (t++u) (o1++u):=h1.seq (Cut.app _ _)
theorem nt_div (m:Nat):((m:Int)).tdiv 10=((m / 10:Nat):Int):=by rw[Int.tdiv_eq_ediv_of_nonneg Om];omega
theorem nt_mod (m:Nat):((m:Int)).tmod 10=((m % 10:Nat):Int):=by rw[Int.tmod_eq_emod_of_nonneg Om];omega
theorem digs_sz {m:Nat}(h:m<=1000000000000):(Vo (digs m)).size<=13:=by
 rw[strOf_size];exact digs_len 12 m Om
def digs0 (m:Nat):List Int:=if m=0 then[]else digs m
theorem digs0_step {m:Nat}(h:0 < m):digs0 m=digs0 (m / 10)++[48+((m % 10:Nat):Int)]:=by
 unfold digs0
 rw[if_neg Om]
 by_cases h1:m < 10
 ·rw[digs_lt h1,if_pos Om];simp;omega
 ·rw[digs_ge h1,if_neg Om]
theorem digs0_len {m:Nat}(h:m<=1000000000000):(digs0 m).length<=13:=by
 unfold digs0;split
 ·simp
 ·exact digs_len 12 m Om
theorem kN166 (m:Nat)(hm:m<=1000000000000)(H:Hp)(n:Nat):Rt Tryz.prog 166 [.int .i64 (m:Int)] H n (.string (Vo (digs m))):=by
 apply Rt.mk
 rw[c166];unfold S166
 have c0:¬ (m:Int) < 0:=by omega
 by_cases h:m=0
 ·subst h
  refine W1 (Zu (show¬ ((0:Nat):Int) < 0 by decide) (show((0:Nat):Int)=0 from rfl)) ?_
  exact Wp.pure ⟨So,Mo,by rw[digs_lt Om];rfl⟩
 ·have c1:¬ (m:Int)=0:=by omega
  refine W1 (Zu c0 c1) ?_
  refine Wp.bind (Zt (fun d T H' n'=>∃ (q:Nat) (o:List Int),q=d/\n<=n'/\(∀ i,i < n->H' i=H i)/\T 0=.int .i64 (q:Int)/\q<=1000000000000/\o.length<=13/\T 3=.string (Vo o)/\digs0 m=digs0 q++o) (fun o=>n<=o.n/\(∀ i,i < n->o.H i=H i)/\o.e=.exit 0/\o.t 3=.string (Vo (digs m))) ?_ m _ _ _ ⟨m,[],rfl,by omega,Mo,Pa,hm,by simp,by simp[Zn];rfl,by simp⟩) ?_
  ·rintro d T H' n' ⟨q,o,rfl,hn,s1,e0,hq,ho,e3,heq⟩
   unfold S166L0
   by_cases hq0:q=0
   ·subst hq0
    refine W0 (Zu e0 (show¬ (0:Int) < ((0:Nat):Int) by decide)) ?_
    refine Wp.pure (Nxt.exit ⟨So,s1,rfl,?_⟩)
    have:digs m=o:=by
     unfold digs0 at heq;rw[if_neg h,if_pos rfl,List.nil_append]at heq;exact heq
    simp[Zn,e3,this]
   ·have hq1:(0:Int) < (q:Int):=by omega
    have hw1:IntKind.i64.wrap (48+((q % 10:Nat):Int))=48+((q % 10:Nat):Int):=Wo Om
    have hw2:IntKind.u8.wrap (48+((q % 10:Nat):Int))=48+((q % 10:Nat):Int):=IntWalk.u8_in _ Om
    have hw3:IntKind.i64.wrap (((q / 10:Nat):Int))=((q / 10:Nat):Int):=Wo Om
    have ha:=s_add (a:=Vo [48+((q % 10:Nat):Int)]) (b:=Vo o) (by rw[strOf1_size,strOf_size];omega)
    refine W0 (Yj e0 e3 hq1 @nt_mod @nt_div hw1 hw2 (Yv hw3 @bsl_b @conv_b ha)) ?_
    have hst:=digs0_step (m:=q) Om
    rw[hst,List.append_assoc]at heq
    have hl:=congrArg List.length heq
    have hl2:=digs0_len hm
    rw[List.length_append]at hl
    refine Wp.pure (Nxt.go (q / 10) Om ⟨q / 10,[48+((q % 10:Nat):Int)]++o,rfl,by omega,(Mm s1),Po,by omega,by omega,by simp[Zn];rw[show(48+((q:Int) % 10)) :: o=[48+((q:Int) % 10)]++o from rfl,str_app],heq⟩)
  ·rintro⟨oe,ot,oH,on⟩ ⟨f1,f2,rfl,f4⟩
   simp only at f1 f2 f4
   refine W0 f4 ?_
   exact Wp.pure ⟨So,f2,f4⟩
theorem clKey_app {out m:List Int}{x:Nd}{i:Int}(h:NodeOk x i)(hi:i<=out.length):Xh (out++m) x=Xh out x:=by
 unfold Xh
 by_cases c5:x.k=5
 ·have:=h.pair c5
  rw[if_pos c5,if_pos c5,gi_app Om this.1.1,gi_app Om this.2.1]
 ·rw[if_neg c5,if_neg c5]
  by_cases c6:x.k=6∨x.k=7
  ·have:=h.one c6
   rw[if_pos c6,if_pos c6,gi_app Om this.1]
  ·rw[if_neg c6,if_neg c6]
theorem clKey_ok {out:List Int}{x:Nd}{i m:Int}(h:NodeOk x i)(h5:x.k=5->(0<=gi out x.a/\gi out x.a < m)/\(0<=gi out x.b/\gi out x.b < m)) (h6:x.k=6∨x.k=7->0<=gi out x.a/\gi out x.a < m):NodeOk (Xh out x) m:=by
 obtain⟨xk,xn,xs,xa,xb⟩:=x
 rcases h with h|h|h|h|h|h|h|h|h <;> obtain⟨e1,e2,e3,e4,e5⟩:=h <;> simp only at e1 e2 e3 e4 e5 h5 h6 <;> subst e1
 ·exact .inl ⟨rfl,e2,e3,e4,e5⟩
 ·exact .inr (.inl ⟨rfl,e2,e3,e4,e5⟩)
 ·exact .inr (.inr (.inl ⟨rfl,e2,e3,e4,e5⟩))
 ·exact .inr (.inr (.inr (.inl ⟨rfl,e2,e3,e4,e5⟩)))
 ·have:=h5 rfl
  exact .inr (.inr (.inr (.inr (.inl ⟨rfl,e2,e3,by show 0<=gi out xa/\gi out xa<=m - 1;omega,by show 0<=gi out xb/\gi out xb<=m - 1;omega⟩))))
 ·have:=h6 (.inl rfl)
  exact .inr (.inr (.inr (.inr (.inr (.inl ⟨rfl,e2,e3,by show 0<=gi out xa/\gi out xa<=m - 1;omega,e5⟩)))))
 ·have:=h6 (.inr rfl)
  exact .inr (.inr (.inr (.inr (.inr (.inr (.inl ⟨rfl,e2,e3,by show 0<=gi out xa/\gi out xa<=m - 1;omega,e5⟩))))))
 ·exact .inr (.inr (.inr (.inr (.inr (.inr (.inr (.inl ⟨rfl,e2,e3,e4,e5⟩)))))))
 ·exact .inr (.inr (.inr (.inr (.inr (.inr (.inr (.inr ⟨rfl,e2,e3,e4,e5⟩)))))))
def Moved (told:List Bool)(l R:List Nd)(M:List Int)(j:Int):Prop:=∀ i:Int,0<=i->i < j->gi told i=true->(0<=gi M i/\gi M i < (R.length:Int))/\gi R (gi M i)=Xh M (gi l i)
theorem inRun_moved {told:List Bool}{z:Int}{p l:List Nd}(hp:PoolOk l)(hpp:NodesOk p 0)(hc:∀ j:Int,0<=j->j < l.length->gi told j=true->HasAll told (gi l j)):∀ j:Nat,j<=l.length->NodesOk (Ym told z p (l.take j)).1 0/\(∃ r,(Ym told z p (l.take j)).1=p++r)/\Moved told l (Ym told z p (l.take j)).1 (Ym told z p (l.take j)).2 j
 | 0,_=>⟨by simpa[Ym]using hpp,⟨[],by simp[Ym]⟩,fun i h0 h1=>by omega⟩
 | j+1,hj=>by
  obtain⟨e1,⟨r,e2⟩,e3⟩:=inRun_moved hp hpp hc (z:=z) j Om
  have l1:(Ym told z p (l.take j)).2.length=j:=by rw[inRun_len,List.length_take];omega
  rw[inRun_take Om]
  generalize Ym told z p (l.take j)=A at *
  unfold Vk
  rw[l1]
  have hok:=hp.at (v:=(j:Int)) Om Om
  have hkeys:∀ (m:List Int) (i:Int),0<=i->i<=j->Xh (A.2++m) (gi l i)=Xh A.2 (gi l i):=fun m i h0 h1=>clKey_app (hp.at (v:=i) h0 Om) Om
  by_cases ht:gi told (j:Int)=true
  ·rw[if_pos ht]
   have hk:=hc (j:Int) Om Om ht
   refine⟨?_,⟨r++[Xh A.2 (gi l (j:Int))],by simp only;rw[e2,List.append_assoc]⟩,fun i h0 h1 hti=>?_⟩
   ·simp only
    rw[Wl]
    refine⟨e1,clKey_ok hok (fun c5=>?_) (fun c6=>?_),trivial⟩
    ·have hr:=hok.pair c5
     have a1:=(e3 _ hr.1.1 hr.1.2 (hk.1 c5).1).1
     have a2:=(e3 _ hr.2.1 hr.2.2 (hk.1 c5).2).1
     omega
    ·have hr:=hok.one c6
     have a1:=(e3 _ hr.1 hr.2 (hk.2 c6)).1
     omega
   ·simp only
    rw[hkeys _ i h0 Om]
    by_cases hij:i=j
    ·subst hij
     have q1:gi (A.2++[(A.1.length:Int)]) (j:Int)=A.1.length:=by rw[← l1];exact gi_last _ _
     rw[q1,gi_last,List.length_append]
     exact⟨⟨by omega,by simp;omega⟩,rfl⟩
    ·have h3:=e3 i h0 Om hti
     rw[gi_app Om h0,gi_app h3.1.2 h3.1.1,List.length_append]
     exact⟨⟨h3.1.1,by omega⟩,h3.2⟩
  ·rw[if_neg ht]
   refine⟨e1,⟨r,e2⟩,fun i h0 h1 hti=>?_⟩
   simp only
   by_cases hij:i=j
   ·subst hij;exact absurd hti ht
   ·rw[hkeys _ i h0 Om,gi_app Om h0]
    exact e3 i h0 Om hti
theorem reach_moved {p l:List Nd}(hp:PoolOk l)(hpp:NodesOk p 0)(roots:List Int)(z:Int):NodesOk (Ym (Xu l roots) z p l).1 0/\(∃ r,(Ym (Xu l roots) z p l).1=p++r)/\Moved (Xu l roots) l (Ym (Xu l roots) z p l).1 (Ym (Xu l roots) z p l).2 l.length:=by
 have:=inRun_moved (z:=z) hp hpp (fun j h0 h1 h=>reachM_closed hp roots h0 h1 h) l.length (Nat.le_refl _)
 rw[List.take_length]at this
 exact this
def Ext (m m1:Mc):Prop:=∃ r,m1.p=m.p++r
theorem Ext.refl (m:Mc):Ext m m:=⟨[],by simp⟩
theorem Ext.tr {a b c:Mc}(h:Ext a b)(h':Ext b c):Ext a c:=by
 obtain⟨r,h⟩:=h
 obtain⟨s,h'⟩:=h'
 exact⟨r++s,by rw[h',h,List.append_assoc]⟩
theorem Ext.add (m:Mc)(x:List Nd):Ext m (m.add x):=⟨x,rfl⟩
theorem Ext.put (v:Int)(m:Mc):Ext m (mPut v m):=⟨_,rfl⟩
def StOk (m:Mc):Prop:=(m.t=0/\m.k=0/\m.r=0)∨(m.t=1/\(13<=m.k/\m.k<=19)/\m.k≠18/\In m m.r)∨(m.t=2/\m.a=0/\m.k=0/\In m m.r)
def Rn (m:Mc):Prop:=m.t=0/\m.k=0/\m.r=0
def SRes (b:Nat)(m:Mc):MR->Prop
 | .ok m1=>Wf b m1/\Ext m m1/\StOk m1
 | .error q=>1<=q/\q<=7
theorem SRes.up {b c:Nat}{m:Mc}{r:MR}(h:SRes b m r)(hb:b<=c):SRes c m r:=by
 cases r with
 | error q=>exact h
 | ok m1=>exact⟨h.1.up hb,h.2.1,h.2.2⟩
theorem SRes.tr {b:Nat}{m m1:Mc}{r:MR}(h:SRes b m1 r)(he:Ext m m1):SRes b m r:=by
 cases r with
 | error q=>exact h
 | ok m2=>exact⟨h.1,he.tr h.2.1,h.2.2⟩
theorem Rn.st {m m1:Mc}(h:Rn m)(e:m1.t=m.t/\m1.k=m.k/\m1.r=m.r:=by exact⟨rfl,rfl,rfl⟩):StOk m1:=.inl ⟨e.1.trans h.1,e.2.1.trans h.2.1,e.2.2.trans h.2.2⟩
theorem go_SRes {b:Nat}{m:Mc}{r:MR}(next:Int)(h:SRes b m r)(hr:∀ m1,r=.ok m1->Rn m1):SRes b m (mGo next r):=by
 cases r with
 | error q=>exact h
 | ok m1=>exact⟨⟨h.1.ok,h.1.s,h.1.e,h.1.d,h.1.len⟩,h.2.1,(hr m1 rfl).st⟩
theorem var_SRes {b:Nat}{m:Mc}(hw:Wf b m)(hr:Rn m)(i j:Int):SRes (b+1) m (mVar i j m)/\∀ m1,mVar i j m=.ok m1->Rn m1:=by
 unfold mVar
 cases hF:mNth m.p i.toNat m.e with
 | none=>exact⟨⟨by decide,by decide⟩,fun m1 h=>by cases h⟩
 | some f=>
  have hf:=mNth_rng hw _ _ hw.e _ hF
  simp only
  cases hG:mNth m.p j.toNat f with
  | none=>exact⟨⟨by decide,by decide⟩,fun m1 h=>by cases h⟩
  | some y=>
   have hy:=mNth_rng hw _ _ hf _ hG
   exact⟨⟨hw.put hy,Ext.put _ _,hr.st⟩,fun m1 h=>by cases h;exact hr⟩
theorem in_last (m:Mc)(x:Nd):In (m.add [x]) (m.p.length:Int):=by
 unfold In Mc.add
 simp only[List.length_append,List.length_cons,List.length_nil]
 omega
theorem global_SRes {b:Nat}{m:Mc}{l:List Nd}{li:List Ins}{ld:List Df}(hw:Wf b m)(hr:Rn m)(hk:Xd l li ld)(s:ByteArray):SRes (b+3) m (mGlobal ld s m)/\∀ m1,mGlobal ld s m=.ok m1->Rn m1:=by
 unfold mGlobal
 have hrg:=defOf_rng ld s
 have hll:=hk.2.1
 by_cases hd:0<=Xb ld s
 ·rw[if_pos hd]
  have hdf:=hk.2.2.2.2 (Xb ld s).toNat Om
  unfold DfOk at hdf
  rw[show((Xb ld s).toNat:Int)=Xb ld s by omega]at hdf
  obtain⟨-,-,hat,har⟩:=hdf
  have h1:=hw.add (n':=b+1) (nil_ok _) (by simp)
  have h2:=h1.add (n':=b+2) (fun_ok (m:=m.add [Va]) (x:=8 * (gi ld (Xb ld s)).at_+(gi ld (Xb ld s)).args) Om (in_last m Va)) (by simp)
  rw[add2]
  have hi:=in_last (m.add [Va]) (ndFun (8 * (gi ld (Xb ld s)).at_+(gi ld (Xb ld s)).args) m.p.length)
  rw[addLen]at hi
  exact⟨⟨h2.put (by simpa using hi),((Ext.add _ _).tr (Ext.add _ _)).tr (Ext.put _ _),hr.st⟩,fun m1 h=>by cases h;exact hr⟩
 ·rw[if_neg hd]
  by_cases hp:Wh s=0
  ·rw[if_pos hp]
   exact⟨⟨by decide,by decide⟩,fun m1 h=>by cases h⟩
  ·rw[if_neg hp]
   have hpr:=primOf_rng s
   have h1:=hw.add (n':=b+1) (prim_ok (x:=Wh s) Om _) (by simp)
   exact⟨⟨(h1.put (in_last m _)).up Om,(Ext.add _ _).tr (Ext.put _ _),hr.st⟩,fun m1 h=>by cases h;exact hr⟩
theorem save_Ex (next:Int)(xs:List Int)(m:Mc):Ext m (mSave next xs m):=(Ext.add _ _).tr (Ext.add _ _)
theorem list_Ex (xs:List Int)(m:Mc):Ext m (mList xs m):=Ext.add _ _
theorem enter_SRes {b:Nat}{m:Mc}{xs:List Int}{n next:Int}(hw:Wf b m)(hr:Rn m)(hn : -1000000000<=next/\next<=1000000000)(x:Nd)(hx:In m x.a)(hxs:∀ y∈xs,In m y):SRes (b+20+xs.length) m (mEnter n x xs next m):=by
 unfold mEnter
 by_cases c1:x.n % 8=(xs.length:Int)
 case neg=>rw[if_pos c1];exact⟨by decide,by decide⟩
 rw[if_neg (fun h=>h c1)]
 by_cases c2:x.n / 8 < n
 case neg=>rw[if_pos c2];exact⟨by decide,by decide⟩
 rw[if_neg (fun h=>h c2)]
 simp only
 obtain⟨w1,i1⟩:=hw.save (xs:=[m.s,m.e]) (by
  intro v hv
  simp only[List.mem_cons,List.not_mem_nil,or_false]at hv
  rcases hv with rfl|rfl
  ·exact hw.s
  ·exact hw.e) hn
 simp only[List.length_cons,List.length_nil]at w1
 have d1:In (mSave next [m.s,m.e] m) m.d:=w1.d
 generalize hm1:mSave next [m.s,m.e] m=m1 at w1 i1 d1 ⊢
 have e1:Ext m m1:=by rw[← hm1];exact save_Ex _ _ _
 have hin1:∀ y,In m y->In m1 y:=fun y hy=>by
  obtain⟨r,e⟩:=e1
  refine⟨hy.1,?_⟩
  have:=hy.2
  rw[e,List.length_append];omega
 have r1:Rn m1:=by rw[← hm1];exact hr
 clear hm1
 have w2:=w1.add (n':=b+7) (pair_ok i1 d1) (by simp)
 have w2':Wf (b+7) { m1.add [Xt (mSaveV [m.s,m.e] m) m.d]with d:=(m1.p.length:Int) }:=⟨w2.ok,w2.s,w2.e,in_last m1 _,w2.len⟩
 generalize hm2:({ m1.add [Xt (mSaveV [m.s,m.e] m) m.d]with d:=(m1.p.length:Int) }:Mc)=m2 at w2' ⊢
 have e2:Ext m1 m2:=by rw[← hm2];exact⟨_,rfl⟩
 have hin2:∀ y,In m1 y->In m2 y:=fun y hy=>by
  obtain⟨r,e⟩:=e2
  refine⟨hy.1,?_⟩
  have:=hy.2
  rw[e,List.length_append];omega
 have r2:Rn m2:=by rw[← hm2];exact r1
 clear hm2
 obtain⟨w3,i3⟩:=w2'.list (xs:=xs) (fun y hy=>hin2 y (hin1 y (hxs y hy)))
 have x3:In (mList xs m2) x.a:=(hin2 _ (hin1 _ hx)).add _
 have e3:=list_Ex xs m2
 have r3:Rn (mList xs m2):=r2
 generalize mList xs m2=m3 at w3 i3 x3 e3 r3 ⊢
 have w4:=w3.add (n':=b+9+xs.length) (pair_ok i3 x3) (by simp;omega)
 have w4':Wf (b+9+xs.length) { m3.add [Xt (Wn xs m2) x.a]with e:=(m3.p.length:Int) }:=⟨w4.ok,w4.s,in_last m3 _,w4.d,w4.len⟩
 generalize hm4:({ m3.add [Xt (Wn xs m2) x.a]with e:=(m3.p.length:Int) }:Mc)=m4 at w4' ⊢
 have e4:Ext m3 m4:=by rw[← hm4];exact⟨_,rfl⟩
 have hp4:m4.p=(m3.add [Xt (Wn xs m2) x.a]).p:=by rw[← hm4]
 have hs4:In (m4.add [Va]) ((m3.add [Xt (Wn xs m2) x.a]).p.length:Int):=by rw[← hp4];exact in_last m4 _
 have r4:Rn m4:=by rw[← hm4];exact r3
 clear hm4
 have w5:=w4'.add (n':=b+20+xs.length) (nil_ok _) (by simp only[List.length_cons,List.length_nil];omega)
 exact⟨⟨w5.ok,hs4,w5.e,w5.d,w5.len⟩,(((e1.tr e2).tr e3).tr e4).tr (Ext.add _ _),r4.st⟩
theorem resume_SRes {b:Nat}{m:Mc}{xs:List Int}(hw:Wf b m)(hr:Rn m)(st:Int)(hst:In m st)(hxs:∀ y∈xs,In m y):SRes (b+1) m (Ws st xs m):=by
 unfold Ws
 by_cases c1:xs.length=1
 case neg=>rw[if_pos c1];exact⟨by decide,by decide⟩
 rw[if_neg (fun h=>h c1)]
 split
 ·rename_i h
  obtain⟨-,h4,h3⟩:=h
  have hch:=fun(i:Int) (h0:0<=i) (h1:i < ((Zi m.p st).1.length:Int))=>hw.chain hst h0 h1
  have w1:Wf b { m with a:=(gi m.p (gi (Zi m.p st).1 0)).n,s:=gi (Zi m.p st).1 1,e:=gi (Zi m.p st).1 2,d:=gi (Zi m.p st).1 3 }:=⟨hw.ok,hch 1 Om Om,hch 2 Om Om,hch 3 Om Om,hw.len⟩
  exact⟨w1.put (hxs _ (Yb Om Om)),⟨_,rfl⟩,hr.st⟩
 ·exact⟨by decide,by decide⟩
theorem Wf.nxt {w:Nat}{m:Mc}(h:Wf w m){u:Int}(hu:In m u)(h5:(gi m.p u).k=5):In m (gi m.p u).b:=by
 have hp:=(h.at hu).pair h5
 exact⟨hp.2.1,by have:=hu.2;omega⟩
theorem built_SRes {b:Nat}{m:Mc}{xs:List Int}{next:Int}(hw:Wf b m)(hr:Rn m)(k:Int)(h18:k≠18)(hxs:∀ y∈xs,In m y):SRes (b+2+xs.length) m (mBuilt k xs next m):=by
 unfold mBuilt
 by_cases c1:Yk k=(xs.length:Int)
 case neg=>rw[if_pos c1];exact⟨by decide,by decide⟩
 rw[if_neg (fun h=>h c1)]
 have hk:=primArgs_pos c1
 by_cases c2:12 < k
 ·rw[if_pos c2]
  obtain⟨w1,i1⟩:=hw.list hxs
  exact⟨⟨w1.ok,w1.s,w1.e,w1.d,by have:=w1.len;simp only at this ⊢;omega⟩,list_Ex xs m,.inr (.inl ⟨rfl,So,h18,i1⟩)⟩
 rw[if_neg c2]
 unfold mPrim
 cases hO:Yw m.p k xs with
 | bad q=>
  rcases primOut_badk hO with rfl|rfl
  ·exact⟨by decide,by decide⟩
  ·exact⟨by decide,by decide⟩
 | old i=>
  have hi:In m i:=by
   unfold Yw at hO
   split at hO
   ·cases hO
   ·rename_i hb
    rw[argsLen Om]at c1
    have h0:(0:Int) < xs.length:=by split at c1 <;> omega
    have r0:=hxs _ (Yb (l:=xs) (i:=0) Om h0)
    have h5:k=7∨k=8->(gi m.p (gi xs 0)).k=5:=fun h78=>by
     rcases Classical.em ((gi m.p (gi xs 0)).k=5)with h|h
     ·exact h
     ·exact absurd (List.any_eq_true.2 ⟨_,Yb (l:=xs) (i:=0) Om h0,by rcases h78 with h7|h7 <;> simp[Vi,h,h7]⟩) hb
    split at hO
    ·rename_i h7
     cases hO
     have hp:=(hw.at r0).pair (h5 (.inl h7))
     have:=r0.2
     exact⟨hp.1.1,by omega⟩
    ·split at hO
     ·rename_i h8
      cases hO
      exact hw.nxt r0 (h5 (.inr h8))
     ·split at hO <;> cases hO
  exact⟨⟨(hw.put hi).ok,(hw.put hi).s,(hw.put hi).e,(hw.put hi).d,by have:=(hw.put hi).len;simp only at this ⊢;omega⟩,⟨_,rfl⟩,hr.st⟩
 | add x=>
  have hx:NodeOk x (m.p.length:Int):=by
   unfold Yw at hO
   split at hO
   ·cases hO
   ·split at hO
    ·cases hO
    ·split at hO
     ·cases hO
     ·split at hO
      ·rename_i hn
       cases hO
       exact pNode_ok Om c1.symm hxs hn
      ·cases hO
  have w1:=hw.add (x:=[x]) (n':=b+1) ⟨hx,trivial⟩ (by simp)
  have w2:=w1.put (in_last m x)
  exact⟨⟨w2.ok,w2.s,w2.e,w2.d,by have:=w2.len;simp only at this ⊢;omega⟩,(Ext.add m [x]).tr ⟨_,rfl⟩,hr.st⟩
theorem call_SRes {n next:Int}(hn : -1000000000<=next/\next<=1000000000):∀ (fuel b:Nat)(m:Mc)(xs:List Int)(f:Int),Wf b m->Rn m->In m f->(∀ y∈xs,In m y)->(IsCC m f->1<=fuel)->(IsCC m f->xs.length=1->IsCC m (gi xs 0)->2<=fuel)->SRes (b+30+10 * fuel+xs.length) m (Wd n next fuel f xs m):=by
 intro fuel
 induction fuel with
 | zero=>
  intro b m xs f hw hr hf hxs h1 h2
  exact nocc b m xs f hw hr hf hxs 0 (fun h=>by have:=h1 h;omega)
 | succ fuel ih=>
  intro b m xs f hw hr hf hxs h1 h2
  by_cases hcc:IsCC m f
  case neg=>exact(nocc b m xs f hw hr hf hxs (fuel+1) hcc).up Om
  by_cases c1:xs.length=1
  case neg=>rw[mCall_cc0 hcc c1];exact⟨by decide,by decide⟩
  rw[mCall_cc hcc c1]
  have hx0:=hxs _ (Yb (l:=xs) (i:=0) Om Om)
  refine((ih (b+7) (ccM next m) [ccV next m] (gi xs 0) (cc_wf hw hn) hr (hx0.cc _) (fun y hy=>by rw[List.mem_singleton]at hy;rw[hy];exact cc_in _ _) (fun h=>by
   have:IsCC m (gi xs 0):=by unfold IsCC at h ⊢;rw[cc_gi hx0]at h;exact h
   have:=h2 hcc c1 this
   omega) (fun _ _ h=>by
   have e:gi [ccV next m] 0=ccV next m:=rfl
   unfold IsCC at h
   rw[e,cc_kont]at h
   exact absurd h.1 (show¬ (7:Int)=8 by decide))).up (by simp;omega)).tr ((save_Ex _ _ _).tr (Ext.add _ _))
where
 nocc (b:Nat) (m:Mc) (xs:List Int) (f:Int) (hw:Wf b m) (hr:Rn m) (hf:In m f) (hxs:∀ y∈xs,In m y) (fuel:Nat) (hcc:¬ IsCC m f):SRes (b+30+10 * 0+xs.length) m (Wd n next fuel f xs m):=by
  have hok:=hw.at hf
  have hf2:=hf.2
  by_cases c6:(gi m.p f).k=6
  ·rw[mCall_fun c6]
   have h1:=hok.one (.inl c6)
   exact(enter_SRes hw hr hn _ ⟨h1.1,by omega⟩ hxs).up Om
  by_cases c8:(gi m.p f).k=8
  ·have h18:(gi m.p f).n≠18:=fun h=>hcc ⟨c8,h⟩
   rw[mCall_prim c8 h18]
   exact(built_SRes hw hr _ h18 hxs).up Om
  by_cases c7:(gi m.p f).k=7
  ·rw[mCall_kont c7]
   have h1:=hok.one (.inr c7)
   exact(resume_SRes hw hr _ ⟨h1.1,by omega⟩ hxs).up Om
  rw[mCall_no ⟨c6,c7,c8⟩]
  exact⟨by decide,by decide⟩
theorem takes_wf {b:Nat}:∀ (k:Nat)(m:Mc)(vs:List Int)(m1:Mc),Wf b m->Xg k m=some (vs,m1)->vs.length=k/\(∀ y∈vs,In m y)/\∃ s,m1={ m with s:=s }/\Wf b m1
 | 0,m,vs,m1,hw,h=>by
  cases h
  exact⟨rfl,fun y hy=>by simp at hy,m.s,rfl,hw⟩
 | k+1,m,vs,m1,hw,h=>by
  rw[Xg]at h
  split at h
  ·cases h
  ·rename_i y m2 hM
   split at h
   ·cases h
   ·rename_i vs2 m3 hT
    cases h
    obtain⟨w2,hy,rfl⟩:=hw.take hM
    obtain⟨a1,a2,s,rfl,a3⟩:=takes_wf k _ _ _ w2 hT
    refine⟨by simp[a1],fun z hz=>?_,s,rfl,a3⟩
    rcases List.mem_append.1 hz with hz|hz
    ·exact a2 z hz
    ·rw[List.mem_singleton]at hz;rw[hz];exact hy
theorem calling_SRes {b:Nat}{m:Mc}{n many:Int}(hw:Wf b m)(hr:Rn m)(ha:0<=m.a/\m.a<=1000)(hm:0<=many/\many<=4):SRes (b+100) m (Wx n many m):=by
 unfold Wx
 split
 ·exact⟨by decide,by decide⟩
 ·cases hT:Xg (many.toNat+1) m with
  | none=>exact⟨by decide,by decide⟩
  | some z=>
   obtain⟨vs,m1⟩:=z
   obtain⟨a1,a2,s,rfl,a3⟩:=takes_wf _ _ _ _ hw hT
   simp only
   refine((call_SRes (n:=n) (next:=m.a+1) Om 3 b { m with s:=s } (vs.drop 1) (gi vs 0) a3 hr (a2 _ (Yb Om Om)) (fun y hy=>a2 y (List.mem_of_mem_drop hy)) (fun _=>by omega) (fun _ _ _=>by omega)).up ?_).tr ⟨[],by simp⟩
   rw[List.length_drop];omega
theorem back_SRes {b:Nat}{m:Mc}(hw:Wf b m)(hr:Rn m):SRes (b+1) m (mBack m):=by
 unfold mBack
 cases hM:mTake m with
 | none=>exact⟨by decide,by decide⟩
 | some q=>
  obtain⟨y,m1⟩:=q
  obtain⟨w1,hy,ep⟩:=hw.take hM
  simp only
  have hp1:m1.p=m.p:=by rw[ep]
  have hy1:In m1 y:=by unfold In;rw[hp1];exact hy
  have r1:Rn m1:=by rw[ep];exact hr
  clear ep
  have ex1:Ext m m1:=⟨[],by simp[hp1]⟩
  have hd:=w1.d
  have hokd:=w1.at hd
  split
  ·exact⟨⟨w1.ok,w1.s,w1.e,w1.d,by have:=w1.len;simp only at this ⊢;omega⟩,ex1,.inr (.inr ⟨rfl,rfl,r1.2.1,hy1⟩)⟩
  ·split
   ·exact⟨by decide,by decide⟩
   ·rename_i h5
    have h5:(gi m1.p m1.d).k=5:=Classical.not_not.1 h5
    have hpr:=hokd.pair h5
    have hst:In m1 (gi m1.p m1.d).a:=⟨by omega,by omega⟩
    split
    ·rename_i h
     obtain⟨-,h4,h3⟩:=h
     have hch:=fun(i:Int) (h0:0<=i) (h1:i < ((Zi m1.p (gi m1.p m1.d).a).1.length:Int))=>w1.chain hst h0 h1
     have w2:Wf b { m1 with a:=(gi m1.p (gi (Zi m1.p (gi m1.p m1.d).a).1 0)).n,s:=gi (Zi m1.p (gi m1.p m1.d).a).1 1,e:=gi (Zi m1.p (gi m1.p m1.d).a).1 2,d:=(gi m1.p m1.d).b }:=⟨w1.ok,hch 1 Om Om,hch 2 Om Om,⟨So,So⟩,w1.len⟩
     exact⟨w2.put hy1,ex1.tr ⟨_,rfl⟩,r1.st⟩
    ·exact⟨by decide,by decide⟩
theorem cp_ok {p q:List Nd}{v:Int}(hq:PoolOk q)(hp:NodesOk p 0)(hv:0<=v/\v < (q.length:Int)):NodesOk (Xy p q v).1 0/\(∃ r,(Xy p q v).1=p++r)/\0<=gi (Xy p q v).2 v/\gi (Xy p q v).2 v < ((Xy p q v).1.length:Int):=by
 obtain⟨h1,h2,h3⟩:=reach_moved hq hp [v] (-1)
 have hin:=reachM_in hq (one_root hv) (List.mem_singleton.2 rfl)
 have:=(h3 v hv.1 hv.2 hin).1
 exact⟨h1,h2,this⟩
theorem plain_SRes {b:Nat}{m:Mc}{l:List Nd}{li:List Ins}{ld:List Df}(hw:Wf b m)(hr:Rn m)(hk:Xd l li ld)(x:Ins)(ha:0<=m.a)(hx:InsOk x l.length li.length m.a):SRes (b+3010) m (mPlain l ld x m):=by
 have hlp:=hk.1.2
 have hll:=hk.2.1
 have hrg:0<=x.n/\x.n<=3000/\0<=x.i/\x.i<=4:=by
  rcases hx with h|h|h|h|h|h|h <;> omega
 unfold mPlain
 split
 ·rename_i c1
  have hxn:0<=x.n/\x.n < (l.length:Int):=by
   rcases hx with hx|hx|hx|hx|hx|hx|hx <;> omega
  obtain⟨h1,⟨r,h2⟩,h3,h4⟩:=cp_ok (v:=x.n) hk.1 hw.ok hxn
  have hcl:=cpRun_len m.p l x.n
  have hl:=hw.len
  have hle:m.p.length<=(Xy m.p l x.n).1.length:=by rw[h2,List.length_append];omega
  have hs:=hw.s
  have he:=hw.e
  have hd:=hw.d
  have w1:Wf (b+3000) { m with p:=(Xy m.p l x.n).1 }:=⟨h1,⟨hs.1,So⟩,⟨he.1,So⟩,⟨hd.1,So⟩,So⟩
  have w2:=w1.put (v:=gi (Xy m.p l x.n).2 x.n) ⟨h3,h4⟩
  exact⟨⟨w2.ok,w2.s,w2.e,w2.d,by have:=w2.len;simp only at this ⊢;omega⟩,⟨r++[Xt (gi (Xy m.p l x.n).2 x.n) m.s],by rw[← List.append_assoc,← h2];rfl⟩,hr.st⟩
 ·split
  ·have h:=var_SRes hw hr x.n x.i
   exact(go_SRes _ h.1 h.2).up Om
  ·split
   ·have h:=global_SRes hw hr hk x.s
    exact(go_SRes _ h.1 h.2).up Om
   ·split
    ·exact⟨⟨hw.ok,hw.s,hw.e,hw.d,by have:=hw.len;simp only at this ⊢;omega⟩,⟨[],by simp⟩,hr.st⟩
    ·split
     ·have w1:=hw.add (n':=b+1) (fun_ok (x:=8 * x.n+x.i) Om hw.e) (by simp)
      have w2:=w1.put (in_last m _)
      exact⟨⟨w2.ok,w2.s,w2.e,w2.d,by have:=w2.len;simp only at this ⊢;omega⟩,(Ext.add _ _).tr ⟨_,rfl⟩,hr.st⟩
     ·cases hM:mTake m with
      | none=>exact⟨by decide,by decide⟩
      | some q=>
       obtain⟨y,m1⟩:=q
       obtain⟨w1,hy,rfl⟩:=hw.take hM
       exact⟨⟨w1.ok,w1.s,w1.e,w1.d,by have:=w1.len;simp only at this ⊢;omega⟩,⟨[],by simp⟩,hr.st⟩
def rvAt (l:List Int)(i k:Nat):Int:=if k < i∨l.length - 1 - i < k then gi l ((l.length - 1 - k:Nat):Int)else gi l (k:Int)
def rvL (l:List Int)(i:Nat):List Int:=fam (rvAt l i) l.length
theorem rvL_len (l:List Int)(i:Nat):(rvL l i).length=l.length:=fam_len _ _
theorem rvL_gi (l:List Int)(i:Nat){k:Nat}(h:k < l.length):gi (rvL l i) (k:Int)=rvAt l i k:=fam_gi _ h
theorem rvL_0 (l:List Int):rvL l 0=l:=by
 apply List.ext_getElem (rvL_len l 0)
 intro k h1 h2
 have e:=rvL_gi l 0 h2
 rw[Yq h1]at e
 rw[e,rvAt,if_neg Om,Yq h2]
theorem rvL_end (l:List Int){i:Nat}(h:l.length<=2 * i+1):rvL l i=l.reverse:=by
 apply List.ext_getElem (by rw[rvL_len,List.length_reverse])
 intro k h1 h2
 have hk:k < l.length:=by rw[rvL_len]at h1;exact h1
 have e:=rvL_gi l i hk
 rw[Yq h1]at e
 rw[e,List.getElem_reverse,rvAt]
 by_cases hc:k < i∨l.length - 1 - i < k
 ·rw[if_pos hc,Yq Om]
 ·rw[if_neg hc,Yq hk]
  congr 1;omega
theorem rvL_next (l:List Int){i:Nat}(h:2 * i+1 < l.length):((rvL l i).set i (gi l ((l.length - 1 - i:Nat):Int))).set (l.length - 1 - i) (gi l (i:Int))=rvL l (i+1):=by
 apply List.ext_getElem (by simp[rvL_len])
 intro k h1 h2
 have hk:k < l.length:=by rw[rvL_len]at h2;exact h2
 have e:=rvL_gi l (i+1) hk
 rw[Yq h2]at e
 rw[e,List.getElem_set,List.getElem_set,rvAt]
 by_cases c1:l.length - 1 - i=k
 ·subst c1
  rw[if_pos rfl,if_pos Om]
  congr 1;omega
 ·rw[if_neg c1]
  by_cases c2:i=k
  ·subst c2
   rw[if_pos rfl,if_pos Om]
  ·rw[if_neg c2]
   have e2:=rvL_gi l i hk
   rw[Yq (by rw[rvL_len];exact hk)]at e2
   rw[e2,rvAt]
   by_cases c3:k < i∨l.length - 1 - i < k
   ·rw[if_pos c3,if_pos Om]
   ·rw[if_neg c3,if_neg Om]
theorem l94 {id n0:Nat}{H0:Hp}{l:List Int}(hl:l.length<=1000000)(hid:id < n0)(h:H0 id=some (.row (l.flatMap eInt.cells) 1 true)):∀ t n,n0<=n->t 0=sl id 0 l.length->t 2=.int .i64 0->t 3=.int .i64 ((l.length:Int) - 1) ->
  Wp (Zm (S94L0 (Call Tryz.prog) Zm) t H0 n) (fun out=>n<=out.n/\(∀ i,i < n0->i≠id->out.H i=H0 i)/\out.e=.exit 0/\out.H id=some (.row (l.reverse.flatMap eInt.cells) 1 true)):=by
 intro t n hn0 e0 e2 e3
 refine Zt (fun d T H' n'=>∃ i:Nat,d=l.length - i/\2 * i<=l.length+1/\n<=n'/\(∀ k,k < n0->k≠id->H' k=H0 k)/\T 0=sl id 0 l.length/\T 2=.int .i64 (i:Int)/\T 3=.int .i64 ((l.length:Int) - 1 - i)/\H' id=some (.row ((rvL l i).flatMap eInt.cells) 1 true)) _ ?_ (l.length - 0) t H0 n ⟨0,rfl,by omega,by omega,fun _ _ _=>rfl,e0,e2,by rw[e3];simp,by rw[rvL_0];exact h⟩
 rintro d T H' n' ⟨i,hd,hi,hn,hsm,e0,e2,e3,hat⟩
 unfold S94L0
 by_cases hlt:(i:Int) < (l.length:Int) - 1 - i
 ·have hj:l.length - 1 - i < l.length:=by omega
  have hil:i < l.length:=by omega
  have ej:((l.length:Int) - 1 - i)=((l.length - 1 - i:Nat):Int):=by omega
  have ia:=idx_sl (sz:=1) (id:=id) (k:=.i64) hil
  have ib:=idx_sl (sz:=1) (id:=id) (k:=.i64) hj
  rw[← ej]at ib
  rw[Nat.mul_one]at ia ib
  have hrl:(rvL l i).length=l.length:=rvL_len l i
  have fj:((rvL l i).flatMap eInt.cells)[l.length - 1 - i]?=some (.int .i64 (gi l ((l.length - 1 - i:Nat):Int))):=by
   have:=flat_cell eInt (l:=rvL l i) (j:=l.length - 1 - i) (f:=0) Om (by decide)
   rw[show(l.length - 1 - i) * eInt.sz+0=l.length - 1 - i from by show(l.length - 1 - i) * 1+0=_;omega]at this
   rw[this,← Yq Om,rvL_gi l i hj,rvAt,if_neg Om];rfl
  have fi:((rvL l i).flatMap eInt.cells)[i]?=some (.int .i64 (gi l (i:Int))):=by
   have:=flat_cell eInt (l:=rvL l i) (j:=i) (f:=0) Om (by decide)
   rw[show i * eInt.sz+0=i from by show i * 1+0=_;omega]at this
   rw[this,← Yq Om,rvL_gi l i hil,rvAt,if_neg Om];rfl
  have st1:=st_el1 (E:=eInt) (H:=H') (id:=id) (l:=rvL l i) hat (j:=i) Om (y:=gi l ((l.length - 1 - i:Nat):Int)) (c:=.int .i64 (gi l ((l.length - 1 - i:Nat):Int))) rfl rfl rfl
  have st2:=st_el1 (E:=eInt) (H:=H'.set id (some (.row (((rvL l i).set i (gi l ((l.length - 1 - i:Nat):Int))).flatMap eInt.cells) 1 true))) (id:=id) (l:=(rvL l i).set i (gi l ((l.length - 1 - i:Nat):Int))) (Ze _ _ _) (j:=l.length - 1 - i) (by rw[List.length_set];omega) (y:=gi l (i:Int)) (c:=.int .i64 (gi l (i:Int))) rfl rfl rfl
  rw[rvL_next l Om]at st2
  have w1:IntKind.i64.wrap ((i:Int)+1)=((i+1:Nat):Int):=by rw[Wo Om];omega
  have w2:IntKind.i64.wrap ((l.length:Int) - 1 - i - 1)=(l.length:Int) - 1 - ((i+1:Nat):Int):=by rw[Wo Om];omega
  refine W0 (Yj e0 e2 e3 hlt ia ib @ld_r (Yj hat @Yc fi fj st1 st2 w1 w2)) ?_
  refine Wp.pure (Nxt.go (l.length - (i+1)) Om ⟨i+1,rfl,by omega,by omega,fun k h1 h2=>?_,Pp e0,Po,Po,?_⟩)
  ·rw[Zf _ _ h2,Zf _ _ h2];exact hsm k h1 h2
  ·exact Ze _ _ _
 ·refine W0 (Yv e0 e2 e3 hlt) ?_
  refine Wp.pure (Nxt.exit ⟨So,hsm,rfl,?_⟩)
  simp only
  rw[hat,rvL_end l Om]
theorem k94 {id n:Nat}{H:Hp}{v:Value}{l:List Int}(h:At eInt id H v l)(hid:id < n)(hl:l.length<=1000000)(h1:1<=l.length):RtM Tryz.prog 94 [v] id H n (.tuple ⟨[]⟩) (fun H' n'=>At eInt id H' v l.reverse):=by
 apply RtM.of
 rw[c94];unfold S94
 rcases h with⟨_,rfl⟩|⟨rfl,h⟩
 ·simp at h1
 have w1:IntKind.i64.wrap ((l.length:Int) - 1)=(l.length:Int) - 1:=Wo Om
 refine W0 (Zu @len_sl w1) ?_
 refine Wp.bind (l94 (n0:=n) hl hid h _ _ Om Pa Pa Po) ?_
 rintro⟨oe,ot,oH,on⟩ ⟨f1,f2,f3,f4⟩
 simp only at f1 f2 f3 f4
 refine W0 trivial ?_
 exact Wp.pure ⟨So,f2,rfl,.inr ⟨by rw[List.length_reverse],f4⟩⟩
theorem slice1 {id:Nat}{H:Hp}{v:Value}{l:List Int}(h:At eInt id H v l)(hl:1<=l.length):∃ v',Yt 1 v (some (.int .i64 1)) none=some v'/\(∀ n,id < n->Li eInt n H v' (l.drop 1))/\(∀ c,id≠c->Off c v'):=by
 have h0:=h.lst (Nat.lt_succ_self id)
 obtain⟨v',e1,e2⟩:=h0.slice (by decide) (some (.int .i64 1)) none 1 l.length rfl (fun d hd=>by rw[hd];rfl) hl (Nat.le_refl _)
 have ed:(l.drop 1).take (l.length - 1)=l.drop 1:=List.take_of_length_le (by simp)
 rw[ed]at e2
 refine⟨v',e1,fun n hn=>e2.up Om,fun c hc=>?_⟩
 rcases h with⟨_,rfl⟩|⟨rfl,h⟩
 ·simp at hl
 by_cases h1:l.length=1
 ·have:Yt 1 (sl id 0 l.length) (some (.int .i64 1)) none=some emptyS:=by rw[h1];rfl
  rw[show eInt.sz=1 from rfl,this]at e1
  cases e1
  intro i o a k e
  cases e
 ·have:Yt 1 (sl id 0 l.length) (some (.int .i64 1)) none=some (sl id (0+1 * 1) (l.length - 1)):=by
   have h2:¬ 1=l.length:=fun h=>h1 h.symm
   simp[Yt,bnd,hl,h2]
  rw[show eInt.sz=1 from rfl,this]at e1
  cases e1
  exact Off.sl hc
theorem mTakes_step {d:Nat}{m:Mc}:Xg (d+1) m=(mTake m).bind fun q=>(Xg d q.2).map fun z=>(z.1++[q.1],z.2):=by
 rw[Xg]
 cases mTake m with
 | none=>rfl
 | some q=>
  obtain⟨y,m1⟩:=q
  simp only[Option.bind_some]
  cases Xg d m1 with
  | none=>rfl
  | some z=>rfl
theorem l58 {c id n0:Nat}{H0:Hp}{v x1 x2 x3:Value}{m:Mc}(h:SM c id n0 H0 [x1,x2,x3] v m){b:Nat}(hw:Wf b m)(k:Nat)(hk:k<=100):∀ t H n ia,n0<=n->(∀ i,i < n0->H i=H0 i)->n0<=ia->ia < n->H ia=some (.row [] 1 true)->t 0=ptr c 0->t 5=sl ia 0 0->t 22=.int .i64 (k:Int)->t 23=.int .i64 0 ->
  Wp (Zm (S58L0 (Call Tryz.prog) Zm) t H n) (fun out=>n<=out.n/\(∀ i,i < n0->i≠c->i≠id->out.H i=H0 i)/\∃ s,SM c id out.n out.H [x1,x2,x3] v { m with s:=s }/\((out.e=.exit 0/\out.t 0=ptr c 0/\∃ ia acc,n0<=ia/\ia < out.n/\At eInt ia out.H (out.t 5) acc/\acc.length=k/\Wf b { m with s:=s }/\(∀ x∈acc,In m x)/\Xg k m=some (acc.reverse,{ m with s:=s }))∨(out.e=.ret/\out.t 4=.int .i64 7/\Xg k m=none))):=by
 intro t H n ia hn0 hsm0 hia hian hHa e0 e5 e22 e23
 refine Zt (fun d T H' n'=>∃ (s:Int) (ia:Nat) (acc:List Int),acc.length+d=k/\n<=n'/\(∀ i,i < n0->i≠c->i≠id->H' i=H0 i)/\SM c id n' H' [x1,x2,x3] v { m with s:=s }/\n0<=ia/\ia < n'/\At eInt ia H' (T 5) acc/\Wf b { m with s:=s }/\(∀ x∈acc,In m x)/\T 0=ptr c 0/\T 22=.int .i64 (k:Int)/\T 23=.int .i64 (acc.length:Int)/\Xg k m=(Xg d { m with s:=s }).map (fun z=>(z.1++acc.reverse,z.2))) _ ?_ k t H n ⟨m.s,ia,[],by simp,by omega,fun i h1 _ _=>hsm0 i h1,h.mv hn0 (hsm0 _ h.cn) (hsm0 _ h.idn),hia,hian,.inr ⟨e5,hHa⟩,hw,fun x hx=>by simp at hx,e0,e22,e23,?_⟩
 case refine_2=>
  show Xg k m=_
  cases hM:Xg k { m with s:=m.s } with
  | none=>rfl
  | some z=>simp
 rintro d T H' n' ⟨s,ia,acc,hd,hn,hsm,hS,hia,hian,hat,hwS,hin,e0,e22,e23,hT⟩
 unfold S58L0
 have hcn:=h.cn
 have hid:=h.idn
 cases d with
 | zero=>
  have hlt:¬ (acc.length:Int) < (k:Int):=by omega
  refine W0 (Yv e0 e22 e23 hlt) ?_
  refine Wp.pure (Nxt.exit ⟨So,hsm,s,hS.mv So rfl rfl,.inl ⟨rfl,Pp e0,ia,acc,hia,So,by simpa[Zn]using hat,by omega,hwS,hin,?_⟩⟩)
  rw[hT];simp[Xg]
 | succ d=>
  have hlt:(acc.length:Int) < (k:Int):=by omega
  refine W0 (Yv e0 e22 e23 hlt) ?_
  refine Zj (k93 (hS.mv Om rfl rfl) hwS.s) ?_
  rintro r H1 n1 q1 s1 hR
  rw[mTakes_step]at hT
  cases hM:mTake { m with s:=s } with
  | none=>
   rw[hM]at hR hT
   obtain⟨rfl,hS1⟩:=hR
   refine W0 trivial ?_
   exact Wp.pure (Nxt.ret ⟨So,(Mm (Zu s1 hsm)),s,hS1.mv So rfl rfl,.inr ⟨rfl,Po,by rw[hT];rfl⟩⟩)
  | some q=>
   obtain⟨y,m1⟩:=q
   rw[hM]at hR hT
   obtain⟨rfl,hS1⟩:=hR
   obtain⟨hw1,hy,rfl⟩:=hwS.take hM
   have hat1:At eInt ia H1 (T 5) acc:=hat.mv (s1 _ Om Om Om)
   obtain⟨H3,f1,f2,f3⟩:=app_one (id1:=n1+4) (id2:=n1+5) (bytes:=8) y hat1 Om (by decide) Om
   have w1:IntKind.i64.wrap ((acc.length:Int)+1)=(((acc++[y]).length:Nat):Int):=by rw[Wo Om,List.length_append];simp
   refine W1 (Yv e23 @bsl_i f1 w1) ?_
   refine Wp.pure (Nxt.go d Om ⟨(gi m.p s).b,n1+5,acc++[y],by simp;omega,by omega,fun i h1 h2 h3=>?_,hS1.mv Om (f3 _ Om Om Om) (f3 _ Om Om Om),by omega,by omega,?_,hw1,?_,Pp e0,Pp e22,Po,?_⟩)
   ·rw[f3 _ Om Om Om,s1 _ Om h2 h3];exact hsm i h1 h2 h3
   ·simp only[Zn];exact .inr ⟨rfl,f2⟩
   ·intro x hx
    rcases List.mem_append.1 hx with hx|hx
    ·exact hin x hx
    ·rw[List.mem_singleton]at hx;rw[hx];exact hy
   ·rw[hT]
    simp only[Option.bind_some]
    show Option.map _ (Option.map _ (Xg d { m with s:=(gi m.p s).b }))=_
    cases Xg d { m with s:=(gi m.p s).b } with
    | none=>rfl
    | some z=>simp
theorem k58 {n0 c id n:Nat}{H:Hp}{v x1 x2 x3:Value}{m:Mc}{l:List Nd}{li:List Ins}{ld:List Df}{b:Nat}(h:SM c id n H [x1,x2,x3] v m)(hw:Wf b m)(hb:b<=90000)(hC:Cd n0 H x1 x2 x3 l li ld)(hn0:n0<=c/\n0<=id)(hll:li.length<=400)(ha:0<=m.a/\m.a<=(li.length:Int) - 1) (hp:PoolOk m.p)(many:Int)(hm:0<=many/\many<=4) :
  RtA Tryz.prog 58 [ptr c 0,.int .i64 many] c id H n (MRes (mChk li.length (Wx li.length many m)) c id n [x1,x2,x3]):=by
 apply RtA.of
 rw[c58];unfold S58 Wx
 have hc:H c=some (.row [v,.int .i64 m.a,.int .i64 m.s,.int .i64 m.e,.int .i64 m.d,.int .i64 m.t,.int .i64 m.k,.int .i64 m.r,x1,x2,x3] 0 true):=h.hc
 have hcn:=h.cn
 have hid:=h.idn
 have hne:=h.ne
 have hl:=hw.len
 have wA:IntKind.i64.wrap (m.a+1)=m.a+1:=Wo Om
 have wM:IntKind.i64.wrap (many+1)=((many.toNat+1:Nat):Int):=by rw[Wo Om];omega
 refine W1 (Zu hc wA) ?_
 refine Zv (k42 (hC.i.mv Om Mo) Om _) ?_
 intro H1 n1 q1 s1
 have e9:(0<=m.a+1/\m.a+1<=(li.length:Int) - 1)=(m.a+1 < (li.length:Int)):=propext Om
 by_cases c2:m.a+1 < (li.length:Int)
 case neg=>
  rw[if_pos c2]
  refine W1 (Ye s1 e9 c2) ?_
  exact Wp.pure ⟨So,(Mm s1),Yh (h.mv So (Mm s1) (Mm s1)) (.inr rfl) (by decide)⟩
 rw[if_neg (fun h=>h c2)]
 refine W1 (Xm s1 e9 c2 @Wz wM) ?_
 refine Wp.bind (l58 (n0:=n1) (H0:=H1) (h.mv Om (Mm s1) (Mm s1)) hw (many.toNat+1) Om _ _ _ n1 Om (fun i hi=>Zf _ _ Om) Om Om (Ze _ _ _) Pa Po Po Po) ?_
 rintro⟨oe,ot,oH,on⟩ ⟨f1,f2,s,f3,f4⟩
 simp only at f1 f2 f3 f4
 rcases f4 with⟨rfl,f5,ia,acc,i1,i2,i3,i4,i5,i6,i7⟩|⟨rfl,f5,f6⟩
 ·rw[i7]
  refine W0 trivial ?_
  refine Wp.rtm (k94 i3 Om Om Om) ?_
  rintro H2 n2 q2 s2 hat2
  have hrl:acc.reverse.length=many.toNat+1:=by rw[List.length_reverse];exact i4
  obtain⟨w,g1,g2,g3⟩:=slice1 hat2 Om
  have g0:=(hat2.lst (n:=n2) Om).iAll (i:=0) Om Om
  have hm2:∀ i,i < n->i≠c->i≠id->H2 i=H i:=fun i h1 h2 h3=>by rw[s2 _ Om Om,f2 _ Om h2 h3,s1 _ Om]
  have hin:∀ x∈acc.reverse,In m x:=fun x hx=>i6 x (List.mem_reverse.1 hx)
  refine W0 (Ye f5 g0 g1) ?_
  refine Zj (k95 (m:={ m with s:=s }) ⟨f3.mv Om (s2 _ Om Om) (s2 _ Om Om),i5,by omega,hC.mv (fun i hi=>hm2 i Om Om Om),hn0,hll,So,g2 _ Om,g3 _ Om,g3 _ Om,by simp;omega,fun x hx=>hin x (List.mem_of_mem_drop hx),fun _=>hp⟩ hb (gi acc.reverse 0) (hin _ (Yb Om Om))) ?_
  rintro _ H5 n5 q5 s5 ⟨q,m',v',id',rfl,e2,e3,e4⟩
  refine W0 trivial ?_
  exact Wp.pure ⟨So,(Mm (Zu s5 hm2)),q,m',v',id',rfl,by omega,e3,e4⟩
 ·rw[f6]
  refine W0 f5 ?_
  exact Wp.pure ⟨So,(Mm (Zu f2 s1)),by simp only[f5];exact Yh f3 (.inr rfl) (by decide)⟩
theorem k59 {n0 c id n:Nat}{H:Hp}{v x1 x2 x3:Value}{m:Mc}{l:List Nd}{li:List Ins}{ld:List Df}{b:Nat}(h:SM c id n H [x1,x2,x3] v m)(hw:Wf b m)(hb:b<=100000)(hC:Cd n0 H x1 x2 x3 l li ld)(hn0:n0<=c/\n0<=id)(hll:li.length<=400)(hl1:1<=li.length) :
  RtA Tryz.prog 59 [ptr c 0] c id H n (MRes (mChk li.length (mBack m)) c id n [x1,x2,x3]):=by
 apply RtA.of
 rw[c59];unfold S59 mBack
 have hcn:=h.cn
 have hid:=h.idn
 have hne:=h.ne
 refine W0 trivial ?_
 refine Zj (k93 (h.mv Om rfl rfl) hw.s) ?_
 rintro r H1 n1 q1 s1 hR
 cases hM:mTake m with
 | none=>
  rw[hM]at hR
  obtain⟨rfl,hS1⟩:=hR
  refine W0 trivial ?_
  exact Wp.pure ⟨So,(Mm s1),Yh (hS1.mv So rfl rfl) (.inr rfl) (by decide)⟩
 | some q=>
 obtain⟨y,m1⟩:=q
 rw[hM]at hR
 obtain⟨rfl,hS1⟩:=hR
 obtain⟨hw1,hy,-⟩:=hw.take hM
 simp only
 have hl:=hw1.len
 have hc1:H1 c=some (.row [v,.int .i64 m1.a,.int .i64 m1.s,.int .i64 m1.e,.int .i64 m1.d,.int .i64 m1.t,.int .i64 m1.k,.int .i64 m1.r,x1,x2,x3] 0 true):=hS1.hc
 have hid1:=hS1.idn
 have gd:=hS1.li.nAll hw1.d.1 hw1.d.2
 have hokd:=hw1.at hw1.d
 have hd:=hw1.d
 by_cases c1:(gi m1.p m1.d).k=1
 ·rw[if_pos c1,mChk_ok So]
  generalize gi m1.p m1.d=x at gd c1
  obtain⟨xk,xn,xs,xa,xb⟩:=x
  simp only[Nd.cells]at gd c1
  refine W1 (Ye hc1 gd c1) ?_
  exact Wp.pure ⟨So,(Mm s1),MRes.ok (hS1.to So (Ze _ _ _) Mo rfl) (.inr rfl)⟩
 rw[if_neg c1]
 by_cases c5:(gi m1.p m1.d).k=5
 case neg=>
  rw[if_pos c5]
  generalize gi m1.p m1.d=x at gd c1 c5
  obtain⟨xk,xn,xs,xa,xb⟩:=x
  simp only[Nd.cells]at gd c1 c5
  refine W1 (Yv hc1 gd c1 c5) ?_
  exact Wp.pure ⟨So,(Mm s1),Yh (hS1.mv So Mo Mo) (.inr rfl) (by decide)⟩
 rw[if_neg (fun h=>h c5)]
 have hpr:=hokd.pair c5
 have hst:In m1 (gi m1.p m1.d).a:=⟨by omega,by omega⟩
 generalize gi m1.p m1.d=x at gd c1 c5 hst ⊢
 obtain⟨xk,xn,xs,xa,xb⟩:=x
 simp only[Nd.cells]at gd c1 c5 hst
 simp only
 subst c5
 refine W1 (Ye hc1 gd c1) ?_
 refine Ya (kw96 (hS1.li.mv Om Mo) (hw1.w hb) (show c < _ by omega) ((Zf _ _ Om).trans hc1) rfl xa hst.1 hst.2) ?_
 rintro _ H2 n2 q2 s2 ⟨u,rfl,idu,iu1,iu2,hU⟩
 have hch:=fun(i:Int) (h0:0<=i) (h1:i < ((Zi m1.p xa).1.length:Int))=>hw1.chain hst h0 h1
 have hul:=(hU.lst iu2).len
 have hU1:=hU.lst iu2
 have hnu:notTup u=true:=by rcases hU with⟨h,_⟩|⟨h,_⟩ <;> rw[h] <;> rfl
 generalize hR:(if(Zi m1.p xa).2=true/\(Zi m1.p xa).1.length=3/\(gi m1.p (gi (Zi m1.p xa).1 0)).k=3 then .ok (mPut y { m1 with a:=(gi m1.p (gi (Zi m1.p xa).1 0)).n,s:=gi (Zi m1.p xa).1 1,e:=gi (Zi m1.p xa).1 2,d:=xb })else .error 7:MR)=res
 generalize hC0:Zi m1.p xa=C at hU hch hul hU1 hR ⊢
 obtain⟨ch,ok⟩:=C
 simp only at hU hch hul hU1 hR ⊢
 have hm2:∀ i,i < n1->H2 i=H1 i:=fun i hi=>by rw[s2 _ Om,Zf _ _ Om]
 have hb2:H2 (n1+15)=some (.row [.int .i64 5,.int .i64 xn,.string xs,.int .i64 xa,.int .i64 xb] 0 true):=by rw[s2 _ Om];exact Ze _ _ _
 have fin:∀ (H':Hp) (n':Nat),n1<=n'->(∀ i,i < n1->H' i=H1 i)->¬ (ok=true/\ch.length=3/\(gi m1.p (gi ch 0)).k=3)->Wp (some (Value.int .i64 7,H',n')) (fun q=>n<=q.2.2/\(∀ i,i < n->i≠c->i≠id->q.2.1 i=H i)/\MRes (mChk li.length res) c id n [x1,x2,x3] q.1 q.2.1 q.2.2):=by
  intro H' n' h1 h2 h3
  rw[if_neg h3]at hR
  rw[← hR]
  exact Wp.pure ⟨So,fun i hi a1 a2=>by simp only;rw[h2 _ Om];exact s1 i Om a1 a2,Yh (hS1.mv h1 (h2 _ Om) (h2 _ hid1)) (.inr rfl) (by decide)⟩
 cases ok with
 | false=>
  refine W1 trivial ?_
  refine fin _ _ ?_ ?_ (fun h=>by cases h.1)
  ·omega
  ·exact hm2
 | true=>
 by_cases c4:ch.length=3
 case neg=>
  have c4i:¬ (ch.length:Int)=3:=by omega
  refine W1 (Zu hul c4i) ?_
  refine fin _ _ ?_ ?_ (fun h=>c4 h.2.1)
  ·omega
  ·exact hm2
 have c4i:(ch.length:Int)=3:=by omega
 have r0:=hch 0 Om Om
 have g0:=hU1.iAll (i:=0) Om Om
 have gx:=(hS1.li.mv (H':=H2) (Nat.le_refl _) hm2).nAll r0.1 r0.2
 have hok:=hw1.at r0
 by_cases c3:(gi m1.p (gi ch 0)).k=3
 case neg=>
  refine W1 (Wt hul c4i hm2 hc1 g0 gx c3) ?_
  refine fin _ _ ?_ ?_ (fun h=>c3 h.2.2)
  ·omega
  ·exact hm2
 have hnum:=hok.num c3
 rw[if_pos ⟨rfl,c4,c3⟩]at hR
 subst hR
 refine W1 (Wt hul c4i hm2 hc1 g0 gx c3) ?_
 refine Zv (k42 (hC.i.mv Om (fun i hi=>by rw[hm2 _ Om];exact s1 i Om Om Om)) Om _) ?_
 intro H3 n3 q3 s3
 have hm3:∀ i,i < n1->H3 i=H1 i:=fun i hi=>by rw[s3 _ Om];exact hm2 i hi
 by_cases c6:0<=(gi m1.p (gi ch 0)).n/\(gi m1.p (gi ch 0)).n<=(li.length:Int) - 1
 case neg=>
  rw[mChk_no c6]
  refine W1 (Yv s3 hm2 hc1 c6) ?_
  exact Wp.pure ⟨So,(Mm (Zu hm3 s1)),Yh (hS1.mv So (Mm hm3) (Mm hm3)) (.inr rfl) (by decide)⟩
 rw[mChk_ok c6]
 have k0:=(hU1.mv (H':=H3) (m:=n3) Om (Mm s3)).iAll (i:=0) Om Om
 have k1:=(hU1.mv (H':=H3) (m:=n3) Om (Mm s3)).iAll (i:=1) Om Om
 have k2:=(hU1.mv (H':=H3) (m:=n3) Om (Mm s3)).iAll (i:=2) Om Om
 have gy:=(hS1.li.mv (H':=H3) (Nat.le_refl _) hm3).nAll r0.1 r0.2
 have hb3:H3 (n1+15)=some (.row [.int .i64 5,.int .i64 xn,.string xs,.int .i64 xa,.int .i64 xb] 0 true):=by rw[s3 _ Om];exact hb2
 have hc3:H3 c=some (.row [v,.int .i64 m1.a,.int .i64 m1.s,.int .i64 m1.e,.int .i64 m1.d,.int .i64 m1.t,.int .i64 m1.k,.int .i64 m1.r,x1,x2,x3] 0 true):=by rw[hm3 _ Om];exact hc1
 refine W1 (Yj hc3 hb3 c6 @and_self k0 k1 k2 gy) ?_
 refine Zj (k97 (m:={ m1 with a:=(gi m1.p (gi ch 0)).n,s:=gi ch 1,e:=gi ch 2,d:=xb }) (hS1.to Om (Ze _ _ _) (Mm hm3) rfl) So _) ?_
 rintro _ H4 n4 q4 s4 ⟨rfl,v4,id4,i4,hS4⟩
 refine W0 trivial ?_
 exact Wp.pure ⟨So,(Mm (Ye s4 hm3 s1)),MRes.ok (hS4.mv So rfl rfl) (.inl Om)⟩
def PlR (c id n:Nat)(H:Hp)(R:List Value)(res:MR)(o:Out):Prop :=
 n<=o.n/\(∀ i,i < n->i≠c->i≠id->o.H i=H i)/\∃ m' v' id',(n<=id'∨id'=id)/\SM c id' o.n o.H R v' m' /\
  ((o.e=.normal/\o.t 0=ptr c 0/\∃ q nx,o.t 6=.int .i64 q/\o.t 5=.int .i64 nx/\((q≠0/\res=.error q)∨(q=0/\res=.ok { m' with a:=nx })))∨(o.e=.ret/\o.t 4=.int .i64 7/\res=.error 7))
theorem go_res {res:MR}{next q:Int}{m':Mc}(h:match res with|.ok m1=>q=0/\m'=m1|.error h=>q=h/\h≠0):(q≠0/\mGo next res=.error q)∨(q=0/\mGo next res=.ok { m' with a:=next }):=by
 cases res with
 | ok m1=>obtain⟨rfl,rfl⟩:=h;exact .inr ⟨rfl,rfl⟩
 | error e=>obtain⟨rfl,h0⟩:=h;exact .inl ⟨h0,rfl⟩
theorem InsOk.rng {x:Ins}{k m a:Int}(h:InsOk x k m a)(hk:k<=3000)(hm:m<=400)(ha:0<=a):0<=x.n/\x.n<=3000/\0<=x.i/\x.i<=4:=by
 rcases h with h|h|h|h|h|h|h <;> omega
theorem k60 {n0 c id n:Nat}{H:Hp}{v x1 x2 x3:Value}{m:Mc}{l:List Nd}{li:List Ins}{ld:List Df}{b:Nat}(h:SM c id n H [x1,x2,x3] v m)(hw:Wf b m)(hb:b<=3000)(hC:Cd n0 H x1 x2 x3 l li ld)(hn0:n0<=c/\n0<=id)(hk:Xd l li ld)(x:Ins)(ha:0<=m.a/\m.a<=(li.length:Int) - 1) (hx:InsOk x l.length li.length m.a) :
  RtA Tryz.prog 60 [ptr c 0,.agg ⟨x.cells⟩] c id H n (MRes (mChk li.length (mPlain l ld x m)) c id n [x1,x2,x3]):=by
 apply RtA.of
 rw[c60];unfold S60
 have hll:=hk.2.1
 have hlp:=hk.1.2
 have hrg:=hx.rng Om Om ha.1
 have hc:H c=some (.row [v,.int .i64 m.a,.int .i64 m.s,.int .i64 m.e,.int .i64 m.d,.int .i64 m.t,.int .i64 m.k,.int .i64 m.r,x1,x2,x3] 0 true):=h.hc
 have hcn:=h.cn
 have hid:=h.idn
 have hne:=h.ne
 have hl:=hw.len
 have wA:IntKind.i64.wrap (m.a+1)=m.a+1:=Wo Om
 generalize hres:mPlain l ld x m=res
 unfold mPlain at hres
 obtain⟨xo,xn,xi,xs⟩:=x
 simp only at hrg hres
 refine W1 (Ye @Ins.cells.eq_1 hc wA) ?_
 have hm1:∀ o i,i < n->(H.set n o) i=H i:=fun o i hi=>Zf _ _ Om
 refine Wp.bind (R:=PlR c id n H [x1,x2,x3] res) ?_ ?_
 ·by_cases c1:xo=1
  ·rw[decide_eq_true c1]
   rw[if_pos c1]at hres
   rw[c1]
   have hxn:0<=xn/\xn < (l.length:Int):=by
    rcases hx with hx|hx|hx|hx|hx|hx|hx <;> simp only at hx <;> omega
   have hcl:=cpRun_len m.p l xn
   refine W1 hc ?_
   refine Zj (k98 (h.mv Om Mo Mo) (hC.p.mv Om Mo) (hC.p.off Om) (hC.p.off Om) hk.1 xn hxn Om) ?_
   rintro _ H2 n2 q2 s2 ⟨rfl,v2,id2,i2,hS2⟩
   refine W0 trivial ?_
   refine Zj (k97 (m:={ m with p:=(Xy m.p l xn).1 }) (hS2.mv Om rfl rfl) So _) ?_
   rintro _ H3 n3 q3 s3 ⟨rfl,v3,id3,i3,hS3⟩
   refine W0 trivial ?_
   have hi2:n<=id2∨id2=id:=by omega
   exact Wp.pure ⟨So,fun i a1 a2 a3=>by simp only;rw[s3 i Om a2 Om,s2 i Om a2 a3,hm1 _ _ a1],_,v3,id3,.inl (by have:=hS2.idn;omega),hS3,.inl ⟨rfl,Pa,0,m.a+1,Po,Po,.inr ⟨rfl,hres.symm⟩⟩⟩
  rw[decide_eq_false c1]
  rw[if_neg c1]at hres
  by_cases c2:xo=2
  ·rw[if_pos c2]at hres
   have hx20:xn<=20/\xi<=3:=by
    rcases hx with hx|hx|hx|hx|hx|hx|hx <;> simp only at hx <;> omega
   rw[c2]
   refine W1 trivial ?_
   refine Zj (k99 (h.mv Om Mo Mo) hw Om xn xi Om Om) ?_
   rintro _ H2 n2 q2 s2 ⟨q,m',v',id',rfl,e2,e3,e4⟩
   refine W0 trivial ?_
   refine Wp.pure ⟨So,(Mm s2),m',v',id',by omega,e3,.inl ⟨rfl,Pa,q,m.a+1,Po,Po,?_⟩⟩
   rw[← hres]
   exact go_res e4
  rw[if_neg c2]at hres
  by_cases c3:xo=3
  ·rw[if_pos c3]at hres
   rw[c3]
   refine W1 ((show¬ (3:Int)=2 by decide)) ?_
   refine Zj (k100 (h.mv Om Mo Mo) Om (hC.mv Mo) hn0 hk xs) ?_
   rintro _ H2 n2 q2 s2 ⟨q,m',v',id',rfl,e2,e3,e4⟩
   refine W0 trivial ?_
   refine Wp.pure ⟨So,(Mm s2),m',v',id',by omega,e3,.inl ⟨rfl,Pa,q,m.a+1,Po,Po,?_⟩⟩
   rw[← hres]
   exact go_res e4
  rw[if_neg c3]at hres
  by_cases c5:xo=5
  ·rw[if_pos c5]at hres
   rw[c5]
   refine W1 (Zu (show¬ (5:Int)=2 by decide) (show¬ (5:Int)=3 by decide)) ?_
   exact Wp.pure ⟨So,Mo,m,v,id,.inr rfl,h.mv So Mo Mo,.inl ⟨rfl,Pa,0,xn,Po,Po,.inr ⟨rfl,hres.symm⟩⟩⟩
  rw[if_neg c5]at hres
  by_cases c6:xo=6
  ·rw[if_pos c6]at hres
   rw[c6]
   have w1:IntKind.i64.wrap (8 * xn)=8 * xn:=Wo Om
   have w2:IntKind.i64.wrap (8 * xn+xi)=8 * xn+xi:=Wo Om
   refine W1 (Xq (show¬ (6:Int)=2 by decide) (show¬ (6:Int)=3 by decide) (show¬ (6:Int)=5 by decide) hc w1 w2) ?_
   refine Zj (k101 (h.mv Om Mo Mo) Om (ndFun (8 * xn+xi) m.e)) ?_
   rintro _ H2 n2 q2 s2 ⟨rfl,v2,id2,i2,hS2⟩
   refine W0 trivial ?_
   refine Zj (k97 (m:=m.add [ndFun (8 * xn+xi) m.e]) (hS2.mv Om rfl rfl) (by have:=addLen m [ndFun (8 * xn+xi) m.e];simp only[List.length_cons,List.length_nil]at this;omega) _) ?_
   rintro _ H3 n3 q3 s3 ⟨rfl,v3,id3,i3,hS3⟩
   refine W0 trivial ?_
   exact Wp.pure ⟨So,(Mm (Zu s3 s2)),_,v3,id3,.inl Om,hS3,.inl ⟨rfl,Pa,0,m.a+1,Po,Po,.inr ⟨rfl,hres.symm⟩⟩⟩
  rw[if_neg c6]at hres
  refine W1 (Yv c2 c3 c5 c6) ?_
  refine Zj (k93 (h.mv Om Mo Mo) hw.s) ?_
  rintro r H2 n2 q2 s2 hR
  cases hM:mTake m with
  | none=>
   rw[hM]at hR hres
   obtain⟨rfl,hS2⟩:=hR
   refine W0 trivial ?_
   exact Wp.pure ⟨So,(Mm s2),m,v,id,.inr rfl,hS2.mv So rfl rfl,.inr ⟨rfl,Po,hres.symm⟩⟩
  | some q=>
   obtain⟨y,m1⟩:=q
   rw[hM]at hR hres
   obtain⟨rfl,hS2⟩:=hR
   obtain⟨hw1,hy,ep⟩:=hw.take hM
   have hy1:In m1 y:=by rw[ep];exact hy
   simp only at hres
   have hc2:H2 c=some (.row [v,.int .i64 m1.a,.int .i64 m1.s,.int .i64 m1.e,.int .i64 m1.d,.int .i64 m1.t,.int .i64 m1.k,.int .i64 m1.r,x1,x2,x3] 0 true):=hS2.hc
   have hid2:=hS2.idn
   have gy:=hS2.li.nAll hy1.1 hy1.2
   have b2:H2 n=some (.row [.int .i64 xo,.int .i64 xn,.int .i64 xi,.string xs] 0 true):=by simp(disch:=omega) only[s2,Ze]
   have eqa:m1.a=m.a:=by rw[ep]
   generalize gi m1.p y=z at gy hres
   obtain⟨zk,zn,zs,za,zb⟩:=z
   simp only[Nd.cells]at gy hres
   have hS3:∀ n',n2<=n'->SM c id n' (H2.set (n2+11) (some (.row [.int .i64 zk,.int .i64 zn,.string zs,.int .i64 za,.int .i64 zb] 0 true))) [x1,x2,x3] v m1:=fun n' hn'=>hS2.mv hn' (Zf _ _ (by have:=hS2.cn;omega)) (Zf _ _ Om)
   have hm3:∀ i,i < n->i≠c->i≠id->(H2.set (n2+11) (some (.row [.int .i64 zk,.int .i64 zn,.string zs,.int .i64 za,.int .i64 zb] 0 true))) i=H i:=fun i a1 a2 a3=>by rw[Zf _ _ Om,s2 i Om a2 a3,hm1 _ _ a1]
   by_cases c4:xo=4
   ·by_cases z2:zk=2
    ·by_cases z0:zn=0
     ·rw[if_pos ⟨c4,z2,z0⟩]at hres
      rw[z2,z0]at gy hS3 hm3
      rw[c4]at b2
      refine W1 (Ye hc2 gy b2) ?_
      exact Wp.pure ⟨So,hm3,m1,v,id,.inr rfl,hS3 _ So,.inl ⟨rfl,Pa,0,xn,Po,Po,.inr ⟨rfl,hres.symm⟩⟩⟩
     ·rw[if_neg (fun h=>z0 h.2.2)]at hres
      rw[z2]at gy hS3 hm3
      rw[c4]at b2
      refine W1 (Yv hc2 gy b2 z0) ?_
      exact Wp.pure ⟨So,hm3,m1,v,id,.inr rfl,hS3 _ So,.inl ⟨rfl,Pa,0,m.a+1,Po,Po,.inr ⟨rfl,by rw[← hres]⟩⟩⟩
    ·rw[if_neg (fun h=>z2 h.2.1)]at hres
     rw[c4]at b2
     refine W1 (Yv hc2 gy b2 z2) ?_
     exact Wp.pure ⟨So,hm3,m1,v,id,.inr rfl,hS3 _ So,.inl ⟨rfl,Pa,0,m.a+1,Po,Po,.inr ⟨rfl,by rw[← hres]⟩⟩⟩
   ·rw[if_neg (fun h=>c4 h.1)]at hres
    refine W1 (Yv hc2 gy b2 c4) ?_
    exact Wp.pure ⟨So,hm3,m1,v,id,.inr rfl,hS3 _ So,.inl ⟨rfl,Pa,0,m.a+1,Po,Po,.inr ⟨rfl,by rw[← hres]⟩⟩⟩
 ·rintro⟨oe,ot,oH,on⟩ ⟨f1,f2,m',v',id',f3,f4,f5⟩
  simp only at f1 f2 f3 f4 f5
  have hc3:oH c=some (.row [v',.int .i64 m'.a,.int .i64 m'.s,.int .i64 m'.e,.int .i64 m'.d,.int .i64 m'.t,.int .i64 m'.k,.int .i64 m'.r,x1,x2,x3] 0 true):=f4.hc
  have hidn:=f4.idn
  have hcn':=f4.cn
  rcases f5 with⟨rfl,g0,q,nx,g6,g5,⟨hq,hr⟩|⟨rfl,hr⟩⟩|⟨rfl,g4,hr⟩
  ·rw[hr]
   refine W1 (Xm g0 g5 g6 hq hc3) ?_
   refine Wp.pure ⟨So,fun i a1 a2 a3=>by simp only;rw[Zf _ _ a2];exact f2 i a1 a2 a3,?_⟩
   simp only[Zn,g6,Nat.reduceEqDiff,↓reduceIte]
   exact Yh (f4.to (m':={ m' with a:=nx }) Om (Ze _ _ _) (Zf _ _ f4.ne) rfl) f3 hq
  ·rw[hr]
   refine W1 (Yv g0 g5 g6 hc3) ?_
   refine Zv (k42 ((hC.i.mv (H':=oH) (m:=on) Om (fun i hi=>f2 i Om Om Om)).up Om) Om _) ?_
   intro H5 n5 q5 s5
   by_cases c9:0<=nx/\nx<=(li.length:Int) - 1
   ·rw[mChk_ok c9]
    refine W1 (Wt c9 @and_self s5 hc3 g0 g5 g6) ?_
    refine Wp.pure ⟨So,fun i a1 a2 a3=>by simp only;rw[Zf _ _ a2,s5 _ Om];exact f2 i a1 a2 a3,?_⟩
    simp only[Zn,g6,Nat.reduceEqDiff,↓reduceIte]
    exact MRes.ok (f4.to (m':={ m' with a:=nx }) Om (Ze _ _ _) (by rw[Zf _ _ f4.ne,s5 _ Om]) rfl) f3
   ·rw[mChk_no c9]
    refine W1 (Xq c9 s5 hc3 g0 g5 g6) ?_
    exact Wp.pure ⟨So,fun i a1 a2 a3=>by simp only;rw[s5 _ Om];exact f2 i a1 a2 a3,Yh (f4.mv So (s5 _ Om) (s5 _ Om)) f3 (by decide)⟩
  ·rw[hr]
   refine W0 g4 ?_
   exact Wp.pure ⟨So,f2,by simp only[g4];exact Yh f4 f3 (by decide)⟩
theorem mRaw_err {l:List Nd}{li:List Ins}{ld:List Df}{m:Mc}{q:Int}(h:mChk li.length (mRaw l li ld m)=.error q):mEnd li.length m (mRaw l li ld m)=mFail m q:=by
 rw[← mEnd_chk,h];rfl
theorem mRaw_ok {l:List Nd}{li:List Ins}{ld:List Df}{m m1:Mc}(h:mChk li.length (mRaw l li ld m)=.ok m1):mEnd li.length m (mRaw l li ld m)=if 3000 < m1.p.length then mFail m 6 else m1:=by
 rw[← mEnd_chk,h]
 have ha:0<=m1.a/\m1.a<=(li.length:Int) - 1:=by
  cases hr:mRaw l li ld m with
  | error e=>rw[hr]at h;cases h
  | ok m2=>
   rw[hr]at h
   by_cases hc:0<=m2.a/\m2.a<=(li.length:Int) - 1
   ·rw[mChk_ok hc]at h;cases h;exact hc
   ·rw[mChk_no hc]at h;cases h
 unfold mEnd
 simp only
 rw[if_neg (fun h=>h ha)]
structure MOk (l:List Nd)(li:List Ins)(ld:List Df)(m:Mc):Prop where
 k:Xd l li ld
 p:PoolOk m.p
 w:Wf 3000 m
 a:0<=m.a/\m.a<=(li.length:Int) - 1
theorem MachOk.mok {l:List Nd}{li:List Ins}{ld:List Df}{m:Mc}(h:MachOk l li ld m.p m.a m.s m.e m.d m.t m.k m.r)(ht:m.t=0):MOk l li ld m:=by
 obtain⟨h1,h2,h3,h4,h5,h6⟩:=h
 refine⟨h1,h2,⟨h2.1,h3,h4,h5,h2.2⟩,?_⟩
 rcases h6 with h|h|h|h
 ·exact h.2.1
 ·omega
 ·omega
 ·omega
theorem MOk.ins {l:List Nd}{li:List Ins}{ld:List Df}{m:Mc}(h:MOk l li ld m):InsOk (gi li m.a) l.length li.length m.a:=by
 have:=h.k.2.2.2.1 m.a.toNat (by have:=h.a;omega)
 rw[show(m.a.toNat:Int)=m.a by have:=h.a;omega]at this
 exact this
abbrev mcV (u:Value)(m:Mc):Value:=.agg ⟨[u,.int .i64 m.a,.int .i64 m.s,.int .i64 m.e,.int .i64 m.d,.int .i64 m.t,.int .i64 m.k,.int .i64 m.r]⟩
theorem k29 {n:Nat}{H:Hp}{v x1 x2 x3:Value}{m:Mc}{l:List Nd}{li:List Ins}{ld:List Df}(hm:Li eNode n H v m.p)(hC:Cd n H x1 x2 x3 l li ld)(hM:MOk l li ld m) :
  RtN Tryz.prog 29 [.agg ⟨[x1,x2,x3]⟩,mcV v m] H n (fun w H' n'=>∃ u,w=mcV u (mEnd li.length m (mRaw l li ld m))/\New eNode n n' H' u (mEnd li.length m (mRaw l li ld m)).p):=by
 apply RtN.mk
 rw[c29];unfold S29 mcV
 have hll:=hM.k.2.1
 have ha:=hM.a
 have hpl:=hM.w.len
 refine W1 trivial ?_
 refine Ya (k28 (hm.mv Om Mo) Om m.a m.s m.e m.d m.t m.k m.r) ?_
 rintro _ H1 n1 q1 s1 ⟨u,rfl,id,i1,i2,i3⟩
 have gi1:=(hC.i.mv (H':=H1.set (n+7) (some (.row [u,.int .i64 m.a,.int .i64 m.s,.int .i64 m.e,.int .i64 m.d,.int .i64 m.t,.int .i64 m.k,.int .i64 m.r,x1,x2,x3] 0 true))) (Nat.le_refl _) (Mm s1)).sAll (i:=m.a) ha.1 Om
 have hins:=hM.ins
 have hS0:SM (n+7) id n1 (H1.set (n+7) (some (.row [u,.int .i64 m.a,.int .i64 m.s,.int .i64 m.e,.int .i64 m.d,.int .i64 m.t,.int .i64 m.k,.int .i64 m.r,x1,x2,x3] 0 true))) [x1,x2,x3] u m:=⟨Ze _ _ _,rfl,i3.mv (Zf _ _ Om),by omega,by omega,by omega⟩
 have hres:mRaw l li ld m=if(gi li m.a).op=7 then Wx li.length (gi li m.a).i m else if(gi li m.a).op=8 then mBack m else mPlain l ld (gi li m.a) m:=rfl
 generalize gi li m.a=x at gi1 hins hres
 obtain⟨xo,xn,xi,xs⟩:=x
 simp only[Ins.cells]at gi1 hres
 refine W1 (Zu s1 gi1) ?_
 have hm1:∀ o i,i < n+7->((H1.set (n+7) (some (.row [u,.int .i64 m.a,.int .i64 m.s,.int .i64 m.e,.int .i64 m.d,.int .i64 m.t,.int .i64 m.k,.int .i64 m.r,x1,x2,x3] 0 true))).set (n1+7) o) i=((((H.set n (some (.row [x1,x2,x3] 0 true))).set (n+1) (some (.row [v,.int .i64 m.a,.int .i64 m.s,.int .i64 m.e,.int .i64 m.d,.int .i64 m.t,.int .i64 m.k,.int .i64 m.r] 0 true))).set (n+2) (some (.row [nilS,.int .i64 0,.int .i64 0,.int .i64 0,.int .i64 0,.int .i64 0,.int .i64 0,.int .i64 0] 0 true)))) i:=fun o i hi=>by rw[Zf _ _ Om,Zf _ _ Om,s1 _ Om]
 refine Wp.bind (R:=fun(o:Out)=>o.e=.normal/\n1<=o.n/\(∀ i,i < n+7->i≠id->o.H i=((((H.set n (some (.row [x1,x2,x3] 0 true))).set (n+1) (some (.row [v,.int .i64 m.a,.int .i64 m.s,.int .i64 m.e,.int .i64 m.d,.int .i64 m.t,.int .i64 m.k,.int .i64 m.r] 0 true))).set (n+2) (some (.row [nilS,.int .i64 0,.int .i64 0,.int .i64 0,.int .i64 0,.int .i64 0,.int .i64 0,.int .i64 0] 0 true)))) i)/\o.t 3=ptr (n+1) 0/\o.t 4=ptr (n+2) 0/\o.t 5=ptr (n+7) 0/\∃ q m' v' id',o.t 6=.int .i64 q/\n+9<=id'/\SM (n+7) id' o.n o.H [x1,x2,x3] v' m'/\(match mChk li.length (mRaw l li ld m)with|.ok m1=>q=0/\m'=m1|.error h=>q=h/\h≠0)) ?_ ?_
 ·have hCs:∀ o,Cd n ((H1.set (n+7) (some (.row [u,.int .i64 m.a,.int .i64 m.s,.int .i64 m.e,.int .i64 m.d,.int .i64 m.t,.int .i64 m.k,.int .i64 m.r,x1,x2,x3] 0 true))).set (n1+7) o) x1 x2 x3 l li ld:=fun o=>hC.mv (fun i hi=>by rw[Zf _ _ Om,Zf _ _ Om,s1 _ Om,Zf _ _ Om,Zf _ _ Om,Zf _ _ Om])
  have hSs:∀ o k,n1<=k->SM (n+7) id k ((H1.set (n+7) (some (.row [u,.int .i64 m.a,.int .i64 m.s,.int .i64 m.e,.int .i64 m.d,.int .i64 m.t,.int .i64 m.k,.int .i64 m.r,x1,x2,x3] 0 true))).set (n1+7) o) [x1,x2,x3] u m:=fun o k hk=>hS0.mv hk (Zf _ _ Om) (Zf _ _ Om)
  by_cases c7:xo=7
  ·rw[if_pos c7]at hres
   rw[decide_eq_true c7,hres,c7]
   have hxi:0<=xi/\xi<=4:=(hins.rng (by have:=hM.k.1.2;omega) Om ha.1).2.2
   refine W1 trivial ?_
   refine Zj (k58 (hSs _ _ Om) hM.w Om (hCs _) ⟨by omega,by omega⟩ hll ha hM.p xi hxi) ?_
   rintro _ H2 n2 q2 s2 ⟨q,m',v',id',rfl,e2,e3,e4⟩
   refine W0 trivial ?_
   exact Wp.pure ⟨rfl,So,fun i a1 a2=>by simp only;rw[s2 i Om Om a2];exact hm1 _ _ a1,Po,Po,Po,q,m',v',id',Po,by omega,e3,e4⟩
  rw[if_neg c7]at hres
  rw[decide_eq_false c7]
  by_cases c8:xo=8
  ·rw[if_pos c8]at hres
   rw[hres,c8]
   refine W1 trivial ?_
   refine Zj (k59 (hSs _ _ Om) hM.w Om (hCs _) ⟨by omega,by omega⟩ hll Om) ?_
   rintro _ H2 n2 q2 s2 ⟨q,m',v',id',rfl,e2,e3,e4⟩
   refine W0 trivial ?_
   exact Wp.pure ⟨rfl,So,fun i a1 a2=>by simp only;rw[s2 i Om Om a2];exact hm1 _ _ a1,Po,Po,Po,q,m',v',id',Po,by omega,e3,e4⟩
  rw[if_neg c8]at hres
  rw[hres]
  refine W1 c8 ?_
  refine Zj (k60 (hSs _ _ Om) hM.w Om (hCs _) ⟨by omega,by omega⟩ hM.k ⟨xo,xn,xi,xs⟩ ha hins) ?_
  rintro _ H2 n2 q2 s2 ⟨q,m',v',id',rfl,e2,e3,e4⟩
  refine W0 trivial ?_
  exact Wp.pure ⟨rfl,So,fun i a1 a2=>by simp only;rw[s2 i Om Om a2];exact hm1 _ _ a1,Po,Po,Po,q,m',v',id',Po,by omega,e3,e4⟩
 rintro⟨oe,ot,oH,on⟩ ⟨f1,f2,f3,f4,f5,f6,q,m',v',id',f7,f8,hS,hR⟩
 simp only at f1 f2 f3 f4 f5 f6 f7 hS
 have hb1:oH (n+1)=some (.row [v,.int .i64 m.a,.int .i64 m.s,.int .i64 m.e,.int .i64 m.d,.int .i64 m.t,.int .i64 m.k,.int .i64 m.r] 0 true):=by rw[f3 _ Om Om];simp(disch:=omega) only[Zf,Ze]
 have hb2:oH (n+2)=some (.row [nilS,.int .i64 0,.int .i64 0,.int .i64 0,.int .i64 0,.int .i64 0,.int .i64 0,.int .i64 0] 0 true):=by rw[f3 _ Om Om];simp(disch:=omega) only[Zf,Ze]
 have hbm:∀ i,i < n->oH i=H i:=fun i hi=>by rw[f3 _ Om Om];simp(disch:=omega) only[Zf,Ze]
 have hc':oH (n+7)=some (.row [v',.int .i64 m'.a,.int .i64 m'.s,.int .i64 m'.e,.int .i64 m'.d,.int .i64 m'.t,.int .i64 m'.k,.int .i64 m'.r,x1,x2,x3] 0 true):=hS.hc
 have hid':=hS.idn
 have hlv:=hS.li.len
 cases hX:mChk li.length (mRaw l li ld m)with
 | error e=>
  rw[hX]at hR
  obtain⟨rfl,hq⟩:=hR
  rw[mRaw_err hX]
  refine W1 (Xq f4 f5 f6 f7 hq hb1) ?_
  refine Ya (k61 (hm.mv Om hbm) Om m.a m.s m.e m.d m.t m.k m.r q) ?_
  rintro _ H5 n5 q5 s5 ⟨u5,rfl,id5,j1,j2,j3⟩
  refine W1 (Xq f4 f5 f6 f7 s5 hb2) ?_
  exact Wp.pure ⟨So,(Mm (Zu s5 hbm)),u5,rfl,id5,by omega,So,j3.mv Mo⟩
 | ok m1=>
  rw[hX]at hR
  obtain⟨rfl,rfl⟩:=hR
  rw[mRaw_ok hX]
  by_cases c9:3000 < m'.p.length
  ·rw[if_pos c9]
   have c9i:(3000:Int) < (m'.p.length:Int):=by omega
   refine W1 (Yj f4 f5 f6 f7 hc' hlv c9i hb1) ?_
   refine Ya (k61 (hm.mv Om hbm) Om m.a m.s m.e m.d m.t m.k m.r 6) ?_
   rintro _ H5 n5 q5 s5 ⟨u5,rfl,id5,j1,j2,j3⟩
   refine W1 (Xq f4 f5 f6 f7 s5 hb2) ?_
   exact Wp.pure ⟨So,(Mm (Zu s5 hbm)),u5,rfl,id5,by omega,So,j3.mv Mo⟩
  ·rw[if_neg c9]
   have c9i:¬ (3000:Int) < (m'.p.length:Int):=by omega
   refine W1 (Yj f4 f5 f6 f7 hc' hlv c9i hb2) ?_
   exact Wp.pure ⟨So,(Mm hbm),v',rfl,id',by omega,So,hS.at_.mv Mo⟩
theorem k10 {n:Nat}{H:Hp}{v vl vd vm:Value}{l m:List Nd}{li:List Ins}{ld:List Df}(hv:Li eNode n H v l)(hvl:Li eIns n H vl li)(hvd:Li eDef n H vd ld)(hs:∀ x∈l,x.s.size<=1048576)(hsl:∀ x∈li,x.s.size<=1048576)(hsd:∀ x∈ld,x.s.size<=1048576)(hl:l.length<=1048576)(hll:li.length<=1048576)(hld:ld.length<=1048576)(hm:Li eNode n H vm m)(hsm:∀ x∈m,x.s.size<=1048576)(hlm:m.length<=1048576)(a s e d t k r:Int) :
  RtN Tryz.prog 10 [.agg ⟨[v,vl,vd]⟩,.agg ⟨[vm,.int .i64 a,.int .i64 s,.int .i64 e,.int .i64 d,.int .i64 t,.int .i64 k,.int .i64 r]⟩] H n (fun w H' n'=>∃ u,w=mcV u (Wv l li ld ⟨m,a,s,e,d,t,k,r⟩)/\New eNode n n' H' u (Wv l li ld ⟨m,a,s,e,d,t,k,r⟩).p):=by
 apply RtN.mk
 rw[c10];unfold S10
 refine W1 trivial ?_
 refine Zv (k18 (hv.mv Om Mo) (hvl.mv Om Mo) (hvd.mv Om Mo) hs hsl hsd hl hll hld (hm.mv Om Mo) hsm hlm a s e d t k r) ?_
 intro H1 n1 q1 s1
 by_cases hok:MachOk l li ld m a s e d t k r
 case neg=>
  have hA:(Wv l li ld ⟨m,a,s,e,d,t,k,r⟩)=⟨[],0,0,0,0,3,7,0⟩:=by unfold Wv;rw[if_pos hok]
  rw[hA]
  refine W1 (Zu s1 hok) ?_
  exact Wp.pure ⟨So,(Mm s1),nilS,rfl,⟨n,by omega,So,At.nil⟩⟩
 by_cases ht:t=0
 case neg=>
  have hA:(Wv l li ld ⟨m,a,s,e,d,t,k,r⟩)=⟨m,a,s,e,d,t,k,r⟩:=by unfold Wv;rw[if_neg (fun h=>h hok),if_pos ht]
  rw[hA]
  refine W1 (Ye s1 hok ht) ?_
  refine Ya (k28 (hm.mv Om (Mm s1)) hlm a s e d t k r) ?_
  rintro _ Hz nz qz sz ⟨u,rfl,id,i1,i2,i3⟩
  refine W1 (Zu sz s1) ?_
  exact Wp.pure ⟨So,(Mm (Zu sz s1)),u,rfl,⟨id,by omega,So,i3.mv Mo⟩⟩
 have hA:(Wv l li ld ⟨m,a,s,e,d,t,k,r⟩)=mEnd li.length ⟨m,a,s,e,d,t,k,r⟩ (mRaw l li ld ⟨m,a,s,e,d,t,k,r⟩):=by unfold Wv;rw[if_neg (fun h=>h hok),if_neg (fun h=>h ht)]
 rw[hA]
 have hmo:MOk l li ld ⟨m,a,s,e,d,t,k,r⟩:=MachOk.mok (m:=⟨m,a,s,e,d,t,k,r⟩) hok ht
 generalize hX:mEnd _ _ _=X
 subst ht
 refine W1 (Zu s1 hok) ?_
 refine Ya (k29 (m:=⟨m,a,s,e,d,0,k,r⟩) (hm.mv Om (Mm s1)) ⟨hv.mv Om (Mm s1),hvl.mv Om (Mm s1),hvd.mv Om (Mm s1)⟩ hmo) ?_
 rintro _ Hz nz qz sz ⟨u,rfl,id,i1,i2,i3⟩
 rw[hX]at i3 ⊢
 refine W1 (Zu sz s1) ?_
 exact Wp.pure ⟨So,(Mm (Zu sz s1)),u,rfl,⟨id,by omega,So,i3.mv Mo⟩⟩
def FrOk (m:Mc)(st many:Int):Prop:=(Zi m.p st).2=true/\((Zi m.p st).1.length:Int)=many/\(gi m.p (gi (Zi m.p st).1 0)).k=3
theorem k121 {n:Nat}{H:Hp}{v:Value}{m:Mc}{b:Nat}(h:Li eNode n H v m.p)(hw:Wf b m)(hb:b<=100000)(st:Int)(hst:In m st)(many:Int)(hmn:1<=many/\many<=4) :
  RtN Tryz.prog 121 [.agg ⟨[v]⟩,.int .i64 st,.int .i64 many] H n (fun r H' n'=>∃ u,(FrOk m st many/\r=.tuple ⟨[.int .i64 (gi m.p (gi (Zi m.p st).1 0)).n,u,.bool true]⟩/\∃ iu,n<=iu/\iu < n'/\Li eInt n' H' u ((Zi m.p st).1.drop 1)/\∀ c,iu≠c->Off c u)∨(¬ FrOk m st many/\r=.tuple ⟨[.int .i64 0,u,.bool false]⟩)):=by
 apply RtN.mk
 rw[c121];unfold S121
 refine W1 trivial ?_
 refine Ya (kw139 (h.mv Om Mo) (hw.w hb) st hst.1 hst.2) ?_
 rintro _ H1 n1 q1 s1 ⟨u,rfl,idu,iu1,iu2,hU⟩
 have hch:=fun(i:Int) (h0:0<=i) (h1:i < ((Zi m.p st).1.length:Int))=>hw.chain hst h0 h1
 have hul:=(hU.lst iu2).len
 have hU1:=hU.lst iu2
 have hnu:notTup u=true:=by rcases hU with⟨h,_⟩|⟨h,_⟩ <;> rw[h] <;> rfl
 have hLo:Wc m.p st=if(Zi m.p st).2=true then((Zi m.p st).1,true)else([],false):=rfl
 unfold FrOk
 generalize Zi m.p st=C at hch hLo ⊢
 obtain⟨ch,ok⟩:=C
 simp only at hch hLo ⊢
 have fin:∀ (H':Hp) (n':Nat) (u:Value),n<=n'->(∀ i,i < n->H' i=H i)->¬ (ok=true/\(ch.length:Int)=many/\(gi m.p (gi ch 0)).k=3)->Wp (some (Value.tuple ⟨[.int .i64 0,u,.bool false]⟩,H',n')) (fun q=>n<=q.2.2/\(∀ i,i < n->q.2.1 i=H i)/\∃ u,((ok=true/\(ch.length:Int)=many/\(gi m.p (gi ch 0)).k=3)/\q.1=.tuple ⟨[.int .i64 (gi m.p (gi ch 0)).n,u,.bool true]⟩/\∃ iu,n<=iu/\iu < q.2.2/\Li eInt q.2.2 q.2.1 u (ch.drop 1)/\∀ c,iu≠c->Off c u)∨(¬ (ok=true/\(ch.length:Int)=many/\(gi m.p (gi ch 0)).k=3)/\q.1=.tuple ⟨[.int .i64 0,u,.bool false]⟩)) :=
  fun H' n' u h1 h2 h3=>Wp.pure ⟨h1,h2,u,.inr ⟨h3,rfl⟩⟩
 generalize hQ:(fun q:Value × Hp × Nat=>n<=q.2.2/\(∀ i,i < n->q.2.1 i=H i)/\∃ u,((ok=true/\(ch.length:Int)=many/\(gi m.p (gi ch 0)).k=3)/\q.1=.tuple ⟨[.int .i64 (gi m.p (gi ch 0)).n,u,.bool true]⟩/\∃ iu,n<=iu/\iu < q.2.2/\Li eInt q.2.2 q.2.1 u (ch.drop 1)/\∀ c,iu≠c->Off c u)∨(¬ (ok=true/\(ch.length:Int)=many/\(gi m.p (gi ch 0)).k=3)/\q.1=.tuple ⟨[.int .i64 0,u,.bool false]⟩))=Q at fin ⊢
 cases ok with
 | false=>
  rw[if_neg (by decide)]at hLo
  rw[hLo]
  refine W1 @Wz ?_
  refine fin _ _ _ ?_ ?_ (fun h=>by cases h.1)
  ·omega
  ·exact(Mm s1)
 | true=>
 rw[if_pos rfl]at hLo
 rw[hLo]at hul hU hU1 ⊢
 simp only at hul hU hU1 ⊢
 by_cases c4:(ch.length:Int)=many
 case neg=>
  refine W1 (Ye hul c4 @Wz) ?_
  refine fin _ _ _ ?_ ?_ (fun h=>c4 h.2.1)
  ·omega
  ·exact(Mm s1)
 have r0:=hch 0 Om Om
 have g0:=hU1.iAll (i:=0) Om Om
 have gx:=(h.mv (H':=H1) (Nat.le_refl _) (Mm s1)).nAll r0.1 r0.2
 by_cases c3:(gi m.p (gi ch 0)).k=3
 case neg=>
  refine W1 (Wt hul c4 s1 g0 gx c3 @Wz) ?_
  refine fin _ _ _ ?_ ?_ (fun h=>c3 h.2.2)
  ·omega
  ·exact(Mm s1)
 obtain⟨w,e1,e2,e3⟩:=slice1 hU Om
 have hnw:notTup w=true:=by
  have:=(e2 n1 iu2)
  obtain⟨⟨_,⟨_,rfl|⟨i,o,q,c,rfl⟩⟩|⟨i,o,c,cs,e,rw,rfl,_⟩⟩,_⟩:=this <;> rfl
 refine W1 (Yj hul c4 s1 g0 gx c3 e1 hnw) ?_
 rw[← hQ]
 exact Wp.pure ⟨So,(Mm s1),w,.inl ⟨⟨rfl,c4,c3⟩,rfl,idu,by omega,So,(e2 n1 iu2).up So,e3⟩⟩
theorem kp138 {n0 c id n:Nat}{H:Hp}{x1 x2 x3 v w:Value}{m:Mc}{l:List Nd}{li:List Ins}{ld:List Df}{b:Nat}{xs:List Int}(K:Cl n0 c id n H x1 x2 x3 v w [] m l li ld b xs)(k:Int)(hk:0<=k/\k<=99)(h18:k≠18) :
  RtA Tryz.prog 138 [.agg ⟨[x1,x2,x3]⟩,ptr c 0,.int .i64 k,w,.int .i64 (m.a+1)] c id H n (MRes (mBuilt k xs (m.a+1) m) c id n []):=by
 obtain⟨h,hw,hb,hC,hn0,hll,ha,hxs,hoc,hod,hxl,hr,hP⟩:=K
 apply RtA.of
 rw[c138];unfold S138 mBuilt
 have hcn:=h.cn
 have hid:=h.idn
 have hne:=h.ne
 have hl:=hw.len
 have hlen:=hxs.len
 refine W1 hlen ?_
 refine Zv (argsS' k hk _ _) ?_
 intro H1 n1 q1 s1
 by_cases c1:Yk k=(xs.length:Int)
 case neg=>
  rw[if_pos c1]
  refine W1 ((show¬ (xs.length:Int)=Yk k from fun h=>c1 h.symm)) ?_
  exact Wp.pure ⟨So,(Mm s1),Yh (h.mv So (Mm s1) (Mm s1)) (.inr rfl) (by decide)⟩
 rw[if_neg (fun h=>h c1)]
 have hk1:=primArgs_pos c1
 by_cases c2:12 < k
 ·rw[if_pos c2]
  refine W1 (Ye c1 h18 c2) ?_
  refine Zj ((h.mv Om (Mm s1) (Mm s1)).listS (hxs.mv Om (Mm s1)) hoc hod Om) ?_
  rintro _ H2 n2 q2 s2 ⟨rfl,v2,id2,i2,hS2⟩
  generalize Wn xs m=r2
  generalize mList xs m=m2 at hS2 ⊢
  have hc2:H2 c=some (.row [v2,.int .i64 m2.a,.int .i64 m2.s,.int .i64 m2.e,.int .i64 m2.d,.int .i64 m2.t,.int .i64 m2.k,.int .i64 m2.r] 0 true):=hS2.hc
  refine W1 hc2 ?_
  exact Wp.pure ⟨So,(Mm (Zu s2 s1)),MRes.ok (hS2.to So (Ze _ _ _) (Zf _ _ hS2.ne) rfl) (.inl Om)⟩
 rw[if_neg c2]
 refine W1 (Ye c1 h18 c2) ?_
 refine Zj (k153 (h.mv Om (Mm s1) (Mm s1)) (hw.w hb) (fun x hx=>by have:=hw.ok.sz x hx;omega) (hxs.mv Om (Mm s1)) k (fun h11=>hP (by rw[h11]at c1;have:Yk 11=2:=rfl;omega)) Om c1.symm hr) ?_
 rintro _ H2 n2 q2 s2 hP2
 unfold mPrim
 cases hO:Yw m.p k xs with
 | bad q=>
  rw[hO]at hP2
  obtain⟨rfl,hS2⟩:=hP2
  rcases primOut_badk hO with rfl|rfl
  ·refine W0 trivial ?_
   exact Wp.pure ⟨So,(Mm (Zu s2 s1)),Yh (hS2.mv So rfl rfl) (.inr rfl) (by decide)⟩
  ·refine W0 trivial ?_
   exact Wp.pure ⟨So,(Mm (Zu s2 s1)),Yh (hS2.mv So rfl rfl) (.inr rfl) (by decide)⟩
 | old i=>
  rw[hO]at hP2
  obtain⟨rfl,hS2⟩:=hP2
  simp only
  refine W0 trivial ?_
  refine Zj (kM83 (m:=m) (hS2.mv Om rfl rfl) Om i) ?_
  rintro _ H3 n3 q3 s3 ⟨rfl,v3,id3,i3,hS3⟩
  have hc3:H3 c=some (.row [v3,.int .i64 (mPut i m).a,.int .i64 (mPut i m).s,.int .i64 (mPut i m).e,.int .i64 (mPut i m).d,.int .i64 (mPut i m).t,.int .i64 (mPut i m).k,.int .i64 (mPut i m).r] 0 true):=hS3.hc
  generalize mPut i m=m3 at hS3 hc3 ⊢
  refine W1 hc3 ?_
  exact Wp.pure ⟨So,(Mm (Ye s3 s2 s1)),MRes.ok (hS3.to So (Ze _ _ _) (Zf _ _ hS3.ne) rfl) (.inl Om)⟩
 | add x=>
  rw[hO]at hP2
  obtain⟨rfl,v2,id2,i2,hS2⟩:=hP2
  simp only
  have hl2:=addLen m [x]
  simp only[List.length_cons,List.length_nil]at hl2
  refine W0 trivial ?_
  refine Zj (kM83 (m:=m.add [x]) (hS2.mv Om rfl rfl) Om _) ?_
  rintro _ H3 n3 q3 s3 ⟨rfl,v3,id3,i3,hS3⟩
  generalize mPut m.p.length (m.add [x])=m3 at hS3 ⊢
  have hc3:H3 c=some (.row [v3,.int .i64 m3.a,.int .i64 m3.s,.int .i64 m3.e,.int .i64 m3.d,.int .i64 m3.t,.int .i64 m3.k,.int .i64 m3.r] 0 true):=hS3.hc
  refine W1 hc3 ?_
  exact Wp.pure ⟨So,(Mm (Ye s3 s2 s1)),MRes.ok (hS3.to So (Ze _ _ _) (Zf _ _ hS3.ne) rfl) (.inl Om)⟩
theorem drop1_gi {l:List Int}{i:Nat}(h:i+1 < l.length):gi (l.drop 1) (i:Int)=gi l ((i+1:Nat):Int):=by
 rw[Yq (by simp;omega),Yq h,List.getElem_drop]
 congr 1;omega
theorem kc120 {n0 c id n:Nat}{H:Hp}{x1 x2 x3 v w:Value}{m:Mc}{l:List Nd}{li:List Ins}{ld:List Df}{b:Nat}{xs:List Int}(K:Cl n0 c id n H x1 x2 x3 v w [] m l li ld b xs)(f:Int)(hf:In m f)(hcc:¬ IsCC m f)(fuel:Nat) :
  RtA Tryz.prog 120 [.agg ⟨[x1,x2,x3]⟩,ptr c 0,.int .i64 f,w,.int .i64 (m.a+1)] c id H n (MRes (Wd li.length (m.a+1) fuel f xs m) c id n []):=by
 obtain⟨h,hw,hb,hC,hn0,hll,ha,hxs,hoc,hod,hxl,hr,hP⟩:=(show _ from K)
 apply RtA.of
 rw[c120];unfold S120
 have hc:H c=some (.row [v,.int .i64 m.a,.int .i64 m.s,.int .i64 m.e,.int .i64 m.d,.int .i64 m.t,.int .i64 m.k,.int .i64 m.r] 0 true):=h.hc
 have hcn:=h.cn
 have hid:=h.idn
 have hne:=h.ne
 have hl:=hw.len
 have hlen:=hxs.len
 have gx:=(h.li.mv (H':=H.set n (some (.row [x1,x2,x3] 0 true))) (Nat.le_refl _) Mo).nAll hf.1 hf.2
 have hok:=hw.at hf
 have six:(gi m.p f).k=6->0<=(gi m.p f).n/\(gi m.p f).n<=1000000000:=fun h=>by rcases hok with h'|h'|h'|h'|h'|h'|h'|h'|h' <;> omega
 have eight:(gi m.p f).k=8->0<=(gi m.p f).n/\(gi m.p f).n<=99:=fun h=>by rcases hok with h'|h'|h'|h'|h'|h'|h'|h'|h' <;> omega
 have seven:(gi m.p f).k=7->In m (gi m.p f).a:=fun h=>by have:=hok.one (.inr h);have:=hf.2;exact⟨by omega,by omega⟩
 by_cases c6:(gi m.p f).k=6
 ·rw[mCall_fun c6]
  have hn6:=six c6
  generalize gi m.p f=x at gx c6 hn6 ⊢
  obtain⟨xk,xn,xst,xa,xb⟩:=x
  simp only[Nd.cells]at gx c6 hn6
  subst c6
  unfold mEnter
  simp only
  have hrem:xn.tmod 8=xn % 8:=Int.tmod_eq_emod_of_nonneg hn6.1
  have hquo:=quoE hn6
  have hil:=hC.i.len
  by_cases c1:xn % 8=(xs.length:Int)
  case neg=>
   rw[if_pos c1]
   refine W1 (Xm hc gx hlen hrem c1) ?_
   exact Wp.pure ⟨So,Mo,Yh (h.mv So Mo Mo) (.inr rfl) (by decide)⟩
  rw[if_neg (fun h=>h c1)]
  by_cases c2:xn / 8 < (li.length:Int)
  case neg=>
   rw[if_pos c2]
   refine W1 (Yj hc gx hlen hrem c1 hquo hil (show(li.length:Int)<=xn / 8 by omega)) ?_
   exact Wp.pure ⟨So,Mo,Yh (h.mv So Mo Mo) (.inr rfl) (by decide)⟩
  rw[if_neg (fun h=>h c2)]
  refine W1 (Yj hc gx hlen hrem c1 hquo hil (show¬ (li.length:Int)<=xn / 8 by omega)) ?_
  generalize hH1:(H.set n (some (.row [x1,x2,x3] 0 true))).set (n+10) (some (.row [.int .i64 6,.int .i64 xn,.string xst,.int .i64 xa,.int .i64 xb] 0 true))=H1
  have s1:∀ i,i < n->H1 i=H i:=fun i hi=>by rw[← hH1];simp(disch:=omega) only[Zf]
  have b1:H1 (n+10)=some (.row [.int .i64 6,.int .i64 xn,.string xst,.int .i64 xa,.int .i64 xb] 0 true):=by rw[← hH1];exact Ze _ _ _
  refine Zj ((h.mv Om (Mm s1) (Mm s1)).addS Om (ndInt (m.a+1))) ?_
  rintro _ H2 n2 q2 s2 ⟨rfl,v2,id2,i2,hS2⟩
  have f2:=addLen m [ndInt (m.a+1)]
  simp only[List.length_cons,List.length_nil]at f2
  generalize hm2:m.add [ndInt (m.a+1)]=m2 at hS2 f2
  have hs2:m2.s=m.s/\m2.e=m.e:=by subst hm2;exact⟨rfl,rfl⟩
  have b2:H2 (n+10)=some (.row [.int .i64 6,.int .i64 xn,.string xst,.int .i64 xa,.int .i64 xb] 0 true):=by rw[s2 _ Om Om Om];exact b1
  have hc2:H2 c=some (.row [v2,.int .i64 m2.a,.int .i64 m2.s,.int .i64 m2.e,.int .i64 m2.d,.int .i64 m2.t,.int .i64 m2.k,.int .i64 m2.r] 0 true):=hS2.hc
  have hid2:=hS2.idn
  refine W1 hc2 ?_
  refine Uc eInt [(m.p.length:Int),m2.s,m2.e] (by decide) rfl rfl ?_
  refine W0 trivial ?_
  refine Zj ((hS2.mv Om Mo Mo).listS ((At.of rfl (Ze _ _ _)).lst Om) (Off.sl Om) (Off.sl Om) (by simp only[List.length_cons,List.length_nil];omega)) ?_
  rintro _ H3 n3 q3 s3 ⟨rfl,v3,id3,i3,hS3⟩
  have f3:=listLen [(m.p.length:Int),m2.s,m2.e] m2
  simp only[List.length_cons,List.length_nil]at f3
  generalize hr3:Wn [(m.p.length:Int),m2.s,m2.e] m2=r3
  generalize hm3:mList [(m.p.length:Int),m2.s,m2.e] m2=m3 at hS3 f3
  have hc3:H3 c=some (.row [v3,.int .i64 m3.a,.int .i64 m3.s,.int .i64 m3.e,.int .i64 m3.d,.int .i64 m3.t,.int .i64 m3.k,.int .i64 m3.r] 0 true):=hS3.hc
  have hid3:=hS3.idn
  refine W1 hc3 ?_
  refine Zj ((hS3.mv Om rfl rfl).addS Om (Xt r3 m3.d)) ?_
  rintro _ H4 n4 q4 s4 ⟨rfl,v4,id4,i4,hS4⟩
  have f4:=addLen m3 [Xt r3 m3.d]
  simp only[List.length_cons,List.length_nil]at f4
  generalize hm4:m3.add [Xt r3 m3.d]=m4 at hS4 f4
  have hc4:H4 c=some (.row [v4,.int .i64 m4.a,.int .i64 m4.s,.int .i64 m4.e,.int .i64 m4.d,.int .i64 m4.t,.int .i64 m4.k,.int .i64 m4.r] 0 true):=hS4.hc
  have hid4:=hS4.idn
  refine W1 hc4 ?_
  refine Zj ((hS4.to (m':={ m4 with d:=(m3.p.length:Int) }) Om (Ze _ _ _) (Zf _ _ hS4.ne) rfl).listS (hxs.mv2 hoc hod Om (Mm (Yv s4 s3 s2 s1))) hoc (hxs.off Om) So) ?_
  rintro _ H5 n5 q5 s5 ⟨rfl,v5,id5,i5,hS5⟩
  have f5:=listLen xs { m4 with d:=(m3.p.length:Int) }
  generalize hr5:Wn xs { m4 with d:=(m3.p.length:Int) }=r5
  generalize hm5:mList xs { m4 with d:=(m3.p.length:Int) }=m5 at hS5 f5
  have hc5:H5 c=some (.row [v5,.int .i64 m5.a,.int .i64 m5.s,.int .i64 m5.e,.int .i64 m5.d,.int .i64 m5.t,.int .i64 m5.k,.int .i64 m5.r] 0 true):=hS5.hc
  have hid5:=hS5.idn
  have b5:H5 (n+10)=some (.row [.int .i64 6,.int .i64 xn,.string xst,.int .i64 xa,.int .i64 xb] 0 true):=by simp(disch:=omega) only[s5,s4,s3,Zf,b2]
  simp only at f5
  refine W1 (Zu hc5 b5) ?_
  refine Zj ((hS5.mv Om rfl rfl).addS Om (Xt r5 xa)) ?_
  rintro _ H6 n6 q6 s6 ⟨rfl,v6,id6,i6,hS6⟩
  have f6:=addLen m5 [Xt r5 xa]
  simp only[List.length_cons,List.length_nil]at f6
  generalize hm6:m5.add [Xt r5 xa]=m6 at hS6 f6
  have hc6:H6 c=some (.row [v6,.int .i64 m6.a,.int .i64 m6.s,.int .i64 m6.e,.int .i64 m6.d,.int .i64 m6.t,.int .i64 m6.k,.int .i64 m6.r] 0 true):=hS6.hc
  have hid6:=hS6.idn
  refine W1 hc6 ?_
  refine Zj ((hS6.to (m':={ m6 with e:=(m5.p.length:Int) }) Om (Ze _ _ _) (Zf _ _ hS6.ne) rfl).addS So Va) ?_
  rintro _ H7 n7 q7 s7 ⟨rfl,v7,id7,i7,hS7⟩
  have hid7:=hS7.idn
  have b7:H7 (n+10)=some (.row [.int .i64 6,.int .i64 xn,.string xst,.int .i64 xa,.int .i64 xb] 0 true):=by simp(disch:=omega) only[s7,s6,Zf,b5]
  generalize hm7:Mc.add { m6 with e:=(m5.p.length:Int) } [Va]=m7 at hS7
  have hc7:H7 c=some (.row [v7,.int .i64 m7.a,.int .i64 m7.s,.int .i64 m7.e,.int .i64 m7.d,.int .i64 m7.t,.int .i64 m7.k,.int .i64 m7.r] 0 true):=hS7.hc
  refine W1 (Ye hc7 b7 hquo) ?_
  refine Wp.pure ⟨So,(Mm (Wt s7 s6 s5 s4 s3 s2 s1)),MRes.ok (v':=v7) (id':=id7) ?_ (.inl Om)⟩
  have hfin:SM c id7 (n7+8) _ [] v7 { m7 with s:=(m6.p.length:Int),a:=xn / 8 }:=hS7.to Om (Ze _ _ _) (Zf _ _ hS7.ne) rfl
  refine cast ?_ hfin
  have e1:=saveV_eq m (m.a+1) [m.s,m.e]
  rw[hm2]at e1
  rw[← hm7,← hm6,← hr5,← hm5,← hm4,← hm3,← hr3,hs2.1,hs2.2,e1,← hm2]
  rfl
 by_cases c8:(gi m.p f).k=8
 ·have c18:(gi m.p f).n≠18:=fun h=>hcc ⟨c8,h⟩
  rw[mCall_prim c8 c18]
  have hn8:=eight c8
  generalize gi m.p f=x at gx c8 c18 hn8 ⊢
  obtain⟨xk,xn,xs',xa,xb⟩:=x
  simp only[Nd.cells]at gx c8 c18 hn8
  refine W1 (Ye hc gx c8) ?_
  refine Zj (kp138 ⟨h.mv Om Mo Mo,hw,hb,hC.mv Mo,hn0,hll,ha,hxs.mv Om Mo,hoc,hod,hxl,hr,hP⟩ xn hn8 c18) ?_
  rintro _ H2 n2 q2 s2 ⟨q,m',v',id',rfl,e2,e3,e4⟩
  refine W0 trivial ?_
  exact Wp.pure ⟨So,(Mm s2),q,m',v',id',rfl,by omega,e3,e4⟩
 by_cases c7:(gi m.p f).k=7
 ·rw[mCall_kont c7]
  have hn7:=seven c7
  generalize gi m.p f=x at gx c7 hn7 ⊢
  obtain⟨xk,xn,xs',xa,xb⟩:=x
  simp only[Nd.cells]at gx c7 hn7
  simp only
  by_cases c1:xs.length=1
  case neg=>
   rw[show Ws xa xs m=.error 2 from if_pos c1]
   refine W1 (Xm hc gx c7 hlen (show¬ (xs.length:Int)=1 by omega)) ?_
   exact Wp.pure ⟨So,Mo,Yh (h.mv So Mo Mo) (.inr rfl) (by decide)⟩
  have c1i:(xs.length:Int)=1:=by omega
  refine W1 (Xm hc gx c7 hlen c1i) ?_
  refine Ya (k121 (h.li.mv Om Mo) hw hb xa hn7 4 (by decide)) ?_
  rintro _ H2 n2 q2 s2 ⟨u,⟨hF,rfl,iu,iu1,iu2,hU,hO⟩|⟨hF,rfl⟩⟩
  ·have hF':(Zi m.p xa).2=true/\(Zi m.p xa).1.length=4/\(gi m.p (gi (Zi m.p xa).1 0)).k=3:=⟨hF.1,by have:=hF.2.1;omega,hF.2.2⟩
   have hR:Ws xa xs m=.ok (mPut (gi xs 0) { m with a:=(gi m.p (gi (Zi m.p xa).1 0)).n,s:=gi (Zi m.p xa).1 1,e:=gi (Zi m.p xa).1 2,d:=gi (Zi m.p xa).1 3 }):=by
    unfold Ws
    rw[if_neg (fun h=>h c1),if_pos hF']
   rw[hR]
   have h4:=hF'.2.1
   generalize (Zi m.p xa).1=ch at hU h4 ⊢
   have hdl:(ch.drop 1).length=3:=by simp[h4]
   have d0:=drop1_gi (l:=ch) (i:=0) Om
   have d1:=drop1_gi (l:=ch) (i:=1) Om
   have d2:=drop1_gi (l:=ch) (i:=2) Om
   generalize hN:(gi m.p (gi ch 0)).n=an
   have m2:∀ i,i < n->H2 i=H i:=(Mm s2)
   have hc2:H2 c=some (.row [v,.int .i64 m.a,.int .i64 m.s,.int .i64 m.e,.int .i64 m.d,.int .i64 m.t,.int .i64 m.k,.int .i64 m.r] 0 true):=by rw[m2 _ hcn];exact hc
   have hx:=fun(cs:List Value)=>(hxs.mv2 (H':=H2.set c (some (.row cs 0 true))) hoc hod (Nat.le_refl _) (Mm m2)).iAll (i:=0) Om Om
   have k0:=fun(cs:List Value)=>(hU.mv1 (H':=H2.set c (some (.row cs 0 true))) (hO c Om) (Nat.le_refl _) Mo).iAll (i:=0) Om Om
   have k1:=fun(cs:List Value)=>(hU.mv1 (H':=H2.set c (some (.row cs 0 true))) (hO c Om) (Nat.le_refl _) Mo).iAll (i:=1) Om Om
   have k2:=fun(cs:List Value)=>(hU.mv1 (H':=H2.set c (some (.row cs 0 true))) (hO c Om) (Nat.le_refl _) Mo).iAll (i:=2) Om Om
   rw[show gi (ch.drop 1) 0=gi ch 1 from d0]at k0
   rw[show gi (ch.drop 1) 1=gi ch 2 from d1]at k1
   rw[show gi (ch.drop 1) 2=gi ch 3 from d2]at k2
   refine W1 (Yj hc2 ((k0 []).1) ((k1 []).1) ((k2 []).1) ((hx []).1) (fun cs=>(k0 cs).2) (fun cs=>(k1 cs).2) (Zu (fun cs=>(k2 cs).2) (fun cs=>(hx cs).2))) ?_
   refine Zj (kM83 (m:={ m with a:=an,s:=gi ch 1,e:=gi ch 2,d:=gi ch 3 }) (h.to Om (Ze _ _ _) (Mm m2) rfl) So _) ?_
   rintro _ H3 n3 q3 s3 ⟨rfl,v3,id3,i3,hS3⟩
   refine W0 trivial ?_
   exact Wp.pure ⟨So,(Mm (Zu s3 m2)),MRes.ok (hS3.mv So rfl rfl) (.inl Om)⟩
  ·have hF':¬ ((Zi m.p xa).2=true/\(Zi m.p xa).1.length=4/\(gi m.p (gi (Zi m.p xa).1 0)).k=3):=fun h=>hF ⟨h.1,by have:=h.2.1;omega,h.2.2⟩
   have hR:Ws xa xs m=.error 7:=by
    unfold Ws
    rw[if_neg (fun h=>h c1),if_neg hF']
   rw[hR]
   refine W0 trivial ?_
   exact Wp.pure ⟨So,(Mm s2),Yh (h.mv So (Mm s2) (Mm s2)) (.inr rfl) (by decide)⟩
 rw[mCall_no ⟨c6,c7,c8⟩]
 generalize gi m.p f=x at gx c6 c7 c8 ⊢
 obtain⟨xk,xn,xs',xa,xb⟩:=x
 simp only[Nd.cells]at gx c6 c7 c8
 refine W1 (Xm hc gx c6 c7 c8) ?_
 exact Wp.pure ⟨So,Mo,Yh (h.mv So Mo Mo) (.inr rfl) (by decide)⟩
def CallS (c n0:Nat)(x1 x2 x3:Value)(l:List Nd)(li:List Ins)(ld:List Df)(fuel:Nat):Prop :=
 ∀ (id n:Nat) (H:Hp) (v w:Value) (m:Mc) (b:Nat) (xs:List Int),Cl n0 c id n H x1 x2 x3 v w [] m l li ld b xs->b+10 * fuel<=100000->∀ f,In m f->(IsCC m f->1<=fuel)->(IsCC m f->xs.length=1->IsCC m (gi xs 0)->2<=fuel) ->
  RtA Tryz.prog 120 [.agg ⟨[x1,x2,x3]⟩,ptr c 0,.int .i64 f,w,.int .i64 (m.a+1)] c id H n (MRes (Wd li.length (m.a+1) fuel f xs m) c id n [])
theorem kq138 {n0 c id n:Nat}{H:Hp}{x1 x2 x3 v w:Value}{m:Mc}{l:List Nd}{li:List Ins}{ld:List Df}{b:Nat}{xs:List Int}{fuel:Nat}(ih:CallS c n0 x1 x2 x3 l li ld fuel)(K:Cl n0 c id n H x1 x2 x3 v w [] m l li ld b xs)(hbf:b+7+10 * fuel<=100000)(h2:xs.length=1->IsCC m (gi xs 0)->1<=fuel) :
  RtA Tryz.prog 138 [.agg ⟨[x1,x2,x3]⟩,ptr c 0,.int .i64 18,w,.int .i64 (m.a+1)] c id H n (MRes (if xs.length≠1 then .error 2 else Wd li.length (m.a+1) fuel (gi xs 0) [ccV (m.a+1) m] (ccM (m.a+1) m)) c id n []):=by
 obtain⟨h,hw,hb,hC,hn0,hll,ha,hxs,hoc,hod,hxl,hr,hP⟩:=K
 apply RtA.of
 rw[c138];unfold S138
 have hcn:=h.cn
 have hid:=h.idn
 have hne:=h.ne
 have hl:=hw.len
 have hlen:=hxs.len
 refine W1 hlen ?_
 refine Zv (argsS' 18 Om _ _) ?_
 intro H1 n1 q1 s1
 have hp18:Yk 18=1:=rfl
 by_cases c1:xs.length=1
 case neg=>
  rw[if_pos c1]
  refine W1 (Zu hp18 (show¬ (xs.length:Int)=1 by omega)) ?_
  exact Wp.pure ⟨So,(Mm s1),Yh (h.mv So (Mm s1) (Mm s1)) (.inr rfl) (by decide)⟩
 rw[if_neg (fun h=>h c1)]
 have c1i:(xs.length:Int)=1:=by omega
 have hx0:=hr _ (Yb (l:=xs) (i:=0) Om Om)
 refine W1 (Zu hp18 c1i) ?_
 refine Zj ((h.mv Om (Mm s1) (Mm s1)).addS Om (ndInt (m.a+1))) ?_
 rintro _ H2 n2 q2 s2 ⟨rfl,v2,id2,i2,hS2⟩
 have f2:=addLen m [ndInt (m.a+1)]
 simp only[List.length_cons,List.length_nil]at f2
 have hid2:=hS2.idn
 have hc2:H2 c=some (.row [v2,.int .i64 m.a,.int .i64 m.s,.int .i64 m.e,.int .i64 m.d,.int .i64 m.t,.int .i64 m.k,.int .i64 m.r] 0 true):=hS2.hc
 refine W1 hc2 ?_
 refine Uc eInt [(m.p.length:Int),m.s,m.e,m.d] (by decide) rfl rfl ?_
 refine W0 trivial ?_
 refine Zj ((hS2.mv Om Mo Mo).listS (m:=m.add [ndInt (m.a+1)]) ((At.of rfl (Ze _ _ _)).lst Om) (Off.sl Om) (Off.sl Om) (by simp only[List.length_cons,List.length_nil];omega)) ?_
 rintro _ H3 n3 q3 s3 ⟨rfl,v3,id3,i3,hS3⟩
 have f3:=listLen [(m.p.length:Int),m.s,m.e,m.d] (m.add [ndInt (m.a+1)])
 simp only[List.length_cons,List.length_nil]at f3
 have hid3:=hS3.idn
 rw[saveV_eq m (m.a+1) [m.s,m.e,m.d]]
 refine W1 trivial ?_
 refine Zj ((hS3.mv Om rfl rfl).addS (m:=mSave (m.a+1) [m.s,m.e,m.d] m) (by unfold mSave;omega) (ndKont (mSaveV [m.s,m.e,m.d] m))) ?_
 rintro _ H4 n4 q4 s4 ⟨rfl,v4,id4,i4,hS4⟩
 have hid4:=hS4.idn
 have hm4:∀ i,i < n->i≠c->i≠id->H4 i=H i:=(Mm (Yv s4 s3 s2 s1))
 have b4:H4 n=some (.row [x1,x2,x3] 0 true):=by rw[s4 _ Om Om Om,s3 _ Om Om Om,Zf _ _ Om,s2 _ Om Om Om,s1 _ Om];exact Ze _ _ _
 have g4:=(hxs.mv2 (H':=H4) hoc hod (Nat.le_refl _) (Mm hm4)).iAll (i:=0) Om Om
 refine W1 (Ye b4 g4 @bsl_i) ?_
 refine Zj (ih id4 _ _ v4 _ (ccM (m.a+1) m) (b+7) [ccV (m.a+1) m] ⟨hS4.mv Om Mo Mo,cc_wf hw Om,by omega,hC.mv (fun i hi=>by rw[Zf _ _ Om];exact hm4 i Om Om Om),by omega,hll,ha,(At.of rfl (Ze _ _ _)).lst Om,Off.sl Om,Off.sl Om,by simp,fun x hx=>by rw[List.mem_singleton]at hx;rw[hx];exact cc_in _ _,fun h=>by simp at h⟩ Om (gi xs 0) (hx0.cc _) (fun hcc=>h2 c1 (by unfold IsCC at hcc ⊢;rw[cc_gi hx0]at hcc;exact hcc)) (fun _ _ hcc=>by
  have e:gi [ccV (m.a+1) m] 0=ccV (m.a+1) m:=rfl
  unfold IsCC at hcc
  rw[e,cc_kont]at hcc
  exact absurd hcc.1 (show¬ (7:Int)=8 by decide))) ?_
 rintro _ H5 n5 q5 s5 ⟨q,m',v',id',rfl,e2,e3,e4⟩
 refine W0 trivial ?_
 exact Wp.pure ⟨So,(Mm (Zu s5 hm4)),q,m',v',id',rfl,by omega,e3,e4⟩
theorem callS {c n0:Nat}{x1 x2 x3:Value}{l:List Nd}{li:List Ins}{ld:List Df}:∀ fuel,CallS c n0 x1 x2 x3 l li ld fuel:=by
 intro fuel
 induction fuel with
 | zero=>
  intro id n H v w m b xs K hbf f hf h1 h2
  exact kc120 K f hf (fun h=>by have:=h1 h;omega) 0
 | succ fuel ih=>
  intro id n H v w m b xs K hbf f hf h1 h2
  by_cases hcc:IsCC m f
  case neg=>exact kc120 K f hf hcc (fuel+1)
  obtain⟨h,hw,hb,hC,hn0,hll,ha,hxs,hoc,hod,hxl,hr,hP⟩:=K
  apply RtA.of
  rw[c120];unfold S120
  have hc:H c=some (.row [v,.int .i64 m.a,.int .i64 m.s,.int .i64 m.e,.int .i64 m.d,.int .i64 m.t,.int .i64 m.k,.int .i64 m.r] 0 true):=h.hc
  have hcn:=h.cn
  have hid:=h.idn
  have hne:=h.ne
  have gx:=(h.li.mv (H':=H.set n (some (.row [x1,x2,x3] 0 true))) (Nat.le_refl _) Mo).nAll hf.1 hf.2
  have eR:Wd li.length (m.a+1) (fuel+1) f xs m=if xs.length≠1 then .error 2 else Wd li.length (m.a+1) fuel (gi xs 0) [ccV (m.a+1) m] (ccM (m.a+1) m):=by
   by_cases e1:xs.length=1
   ·rw[if_neg (fun h=>h e1),mCall_cc hcc e1]
   ·rw[if_pos e1,mCall_cc0 hcc e1]
  rw[eR]
  have h2':=h2 hcc
  unfold IsCC at hcc
  generalize gi m.p f=x at gx hcc
  obtain⟨xk,xn,xs',xa,xb⟩:=x
  simp only[Nd.cells]at gx hcc
  obtain⟨rfl,rfl⟩:=hcc
  refine W1 (Zu hc gx) ?_
  refine Zj (kq138 ih ⟨h.mv Om Mo Mo,hw,hb,hC.mv Mo,hn0,hll,ha,hxs.mv Om Mo,hoc,hod,hxl,hr,hP⟩ Om (fun e1 e2=>by have:=h2' e1 e2;omega)) ?_
  rintro _ H5 n5 q5 s5 ⟨q,m',v',id',rfl,e2,e3,e4⟩
  refine W0 trivial ?_
  exact Wp.pure ⟨So,(Mm s5),q,m',v',id',rfl,by omega,e3,e4⟩
theorem k120 {n0 c id n:Nat}{H:Hp}{x1 x2 x3 v w:Value}{m:Mc}{l:List Nd}{li:List Ins}{ld:List Df}{b:Nat}{xs:List Int}(K:Cl n0 c id n H x1 x2 x3 v w [] m l li ld b xs)(hb:b<=90000)(f:Int)(hf:In m f) :
  RtA Tryz.prog 120 [.agg ⟨[x1,x2,x3]⟩,ptr c 0,.int .i64 f,w,.int .i64 (m.a+1)] c id H n (MRes (Wd li.length (m.a+1) 3 f xs m) c id n []) :=
 callS 3 id n H v w m b xs K Om f hf (fun _=>by omega) (fun _ _ _=>by omega)
theorem k90 {c id n:Nat}{H:Hp}{v:Value}{m:Mc}{b:Nat}(h:SM c id n H [] v m)(hw:Wf b m)(hb:b<=100000) :
  RtA Tryz.prog 90 [ptr c 0] c id H n (MRes (mBack m) c id n []):=by
 apply RtA.of
 rw[c90];unfold S90 mBack
 have hcn:=h.cn
 have hid:=h.idn
 have hne:=h.ne
 refine W0 trivial ?_
 refine Zj (k87 (h.mv Om rfl rfl) hw.s) ?_
 rintro r H1 n1 q1 s1 hR
 cases hM:mTake m with
 | none=>
  rw[hM]at hR
  obtain⟨rfl,hS1⟩:=hR
  refine W0 trivial ?_
  exact Wp.pure ⟨So,(Mm s1),Yh (hS1.mv So rfl rfl) (.inr rfl) (by decide)⟩
 | some q=>
 obtain⟨y,m1⟩:=q
 rw[hM]at hR
 obtain⟨rfl,hS1⟩:=hR
 obtain⟨hw1,hy,-⟩:=hw.take hM
 simp only
 have hl:=hw1.len
 have hc1:H1 c=some (.row [v,.int .i64 m1.a,.int .i64 m1.s,.int .i64 m1.e,.int .i64 m1.d,.int .i64 m1.t,.int .i64 m1.k,.int .i64 m1.r] 0 true):=hS1.hc
 have hid1:=hS1.idn
 have hcn1:=hS1.cn
 have gd:=hS1.li.nAll hw1.d.1 hw1.d.2
 have hokd:=hw1.at hw1.d
 have hd:=hw1.d
 by_cases c1:(gi m1.p m1.d).k=1
 ·rw[if_pos c1]
  generalize gi m1.p m1.d=x at gd c1
  obtain⟨xk,xn,xs,xa,xb⟩:=x
  simp only[Nd.cells]at gd c1
  refine W1 (Ye hc1 gd c1) ?_
  exact Wp.pure ⟨So,(Mm s1),MRes.ok (hS1.to So (Ze _ _ _) Mo rfl) (.inr rfl)⟩
 rw[if_neg c1]
 by_cases c5:(gi m1.p m1.d).k=5
 case neg=>
  rw[if_pos c5]
  generalize gi m1.p m1.d=x at gd c1 c5
  obtain⟨xk,xn,xs,xa,xb⟩:=x
  simp only[Nd.cells]at gd c1 c5
  refine W1 (Yv hc1 gd c1 c5) ?_
  exact Wp.pure ⟨So,(Mm s1),Yh (hS1.mv So Mo Mo) (.inr rfl) (by decide)⟩
 rw[if_neg (fun h=>h c5)]
 have hpr:=hokd.pair c5
 have hst:In m1 (gi m1.p m1.d).a:=⟨by omega,by omega⟩
 generalize gi m1.p m1.d=x at gd c1 c5 hst ⊢
 obtain⟨xk,xn,xs,xa,xb⟩:=x
 simp only[Nd.cells]at gd c1 c5 hst
 simp only
 subst c5
 refine W1 (Ye hc1 gd c1) ?_
 refine Ya (k121 (hS1.li.mv Om Mo) hw1 hb xa hst 3 (by decide)) ?_
 rintro _ H2 n2 q2 s2 ⟨u,⟨hF,rfl,iu,iu1,iu2,hU,hO⟩|⟨hF,rfl⟩⟩
 ·have hF':(Zi m1.p xa).2=true/\(Zi m1.p xa).1.length=3/\(gi m1.p (gi (Zi m1.p xa).1 0)).k=3:=⟨hF.1,by have:=hF.2.1;omega,hF.2.2⟩
  rw[if_pos hF']
  have h4:=hF'.2.1
  generalize (Zi m1.p xa).1=ch at hU h4 ⊢
  have hdl:(ch.drop 1).length=2:=by simp[h4]
  have d0:=drop1_gi (l:=ch) (i:=0) Om
  have d1:=drop1_gi (l:=ch) (i:=1) Om
  generalize hN:(gi m1.p (gi ch 0)).n=an
  have m2:∀ i,i < n1->H2 i=H1 i:=fun i hi=>by rw[s2 _ Om,Zf _ _ Om]
  have b2:H2 (n1+13)=some (.row [.int .i64 5,.int .i64 xn,.string xs,.int .i64 xa,.int .i64 xb] 0 true):=by rw[s2 _ Om];exact Ze _ _ _
  have hc2:H2 c=some (.row [v,.int .i64 m1.a,.int .i64 m1.s,.int .i64 m1.e,.int .i64 m1.d,.int .i64 m1.t,.int .i64 m1.k,.int .i64 m1.r] 0 true):=by rw[m2 _ hcn1];exact hc1
  have k0:=fun(cs:List Value)=>(hU.mv1 (H':=H2.set c (some (.row cs 0 true))) (hO c Om) (Nat.le_refl _) Mo).iAll (i:=0) Om Om
  have k1:=fun(cs:List Value)=>(hU.mv1 (H':=H2.set c (some (.row cs 0 true))) (hO c Om) (Nat.le_refl _) Mo).iAll (i:=1) Om Om
  rw[show gi (ch.drop 1) 0=gi ch 1 from d0]at k0
  rw[show gi (ch.drop 1) 1=gi ch 2 from d1]at k1
  refine W1 (Xq hc2 b2 ((k0 []).1) ((k1 []).1) (fun cs=>(k0 cs).2) (fun cs=>(k1 cs).2)) ?_
  refine Zj (kM83 (m:={ m1 with a:=an,s:=gi ch 1,e:=gi ch 2,d:=xb }) (hS1.to Om (Ze _ _ _) (Mm m2) rfl) So _) ?_
  rintro _ H3 n3 q3 s3 ⟨rfl,v3,id3,i3,hS3⟩
  refine W0 trivial ?_
  exact Wp.pure ⟨So,(Mm (Ye s3 m2 s1)),MRes.ok (hS3.mv So rfl rfl) (.inl Om)⟩
 ·have hF':¬ ((Zi m1.p xa).2=true/\(Zi m1.p xa).1.length=3/\(gi m1.p (gi (Zi m1.p xa).1 0)).k=3):=fun h=>hF ⟨h.1,by have:=h.2.1;omega,h.2.2⟩
  rw[if_neg hF']
  refine W0 trivial ?_
  exact Wp.pure ⟨So,(Mm (Zu s2 s1)),Yh (hS1.mv So (Mm s2) (Mm s2)) (.inr rfl) (by decide)⟩
theorem rep_set {p:Nat}{y:Int}{acc:List Int}:(List.replicate (p+1) (0:Int)++acc).set p y=List.replicate p 0++(y :: acc):=by
 rw[List.replicate_succ',List.append_assoc,List.set_append_right _ _ (by simp)]
 simp
theorem l89 {c id n0 cb ia:Nat}{H0:Hp}{v:Value}{m:Mc}(h:SM c id n0 H0 [] v m){b:Nat}(hw:Wf b m)(k:Nat)(hk:k<=100)(next:Value)(hia:ia < n0)(hic:ia≠c)(hii:ia≠id)(hHa:H0 ia=some (.row ((List.replicate k (0:Int)).flatMap eInt.cells) 1 true)):∀ t n,n0<=n->t 1=ptr c 0->t 3=next->t 4=ptr cb 0->t 9=sl ia 0 k->t 10=.int .i64 ((k:Int) - 1) ->
  Wp (Zm (S89L0 (Call Tryz.prog) Zm) t H0 n) (fun out=>n<=out.n/\(∀ i,i < n0->i≠c->i≠id->i≠ia->out.H i=H0 i)/\∃ s,SM c id out.n out.H [] v { m with s:=s }/\((out.e=.exit 0/\out.t 1=ptr c 0/\out.t 3=next/\out.t 4=ptr cb 0/\out.t 9=sl ia 0 k/\∃ acc,out.H ia=some (.row (acc.flatMap eInt.cells) 1 true)/\acc.length=k/\Wf b { m with s:=s }/\(∀ x∈acc,In m x)/\Xg (k+1) m=(Xg 1 { m with s:=s }).map (fun z=>(z.1++acc,z.2)))∨(out.e=.ret/\out.t 8=.int .i64 7/\Xg (k+1) m=none))):=by
 intro t n hn0 e1 e3 e4 e9 e10
 refine Zt (fun d T H' n'=>∃ (s:Int) (acc:List Int),acc.length+d=k/\n<=n'/\(∀ i,i < n0->i≠c->i≠id->i≠ia->H' i=H0 i)/\SM c id n' H' [] v { m with s:=s }/\H' ia=some (.row ((List.replicate d (0:Int)++acc).flatMap eInt.cells) 1 true)/\Wf b { m with s:=s }/\(∀ x∈acc,In m x)/\T 1=ptr c 0/\T 3=next/\T 4=ptr cb 0/\T 9=sl ia 0 k/\T 10=.int .i64 ((d:Int) - 1)/\Xg (k+1) m=(Xg (d+1) { m with s:=s }).map (fun z=>(z.1++acc,z.2))) _ ?_ k t H0 n ⟨m.s,[],by simp,by omega,fun i _ _ _ _=>rfl,h.mv hn0 rfl rfl,by simpa using hHa,hw,fun x hx=>by simp at hx,e1,e3,e4,e9,e10,?_⟩
 case refine_2=>
  show Xg (k+1) m=_
  cases hM:Xg (k+1) { m with s:=m.s } with
  | none=>rfl
  | some z=>simp
 rintro d T H' n' ⟨s,acc,hd,hn,hsm,hS,hHa',hwS,hin,e1,e3,e4,e9,e10,hT⟩
 unfold S89L0
 have hcn:=h.cn
 have hid:=h.idn
 cases d with
 | zero=>
  have hlt:¬ (0:Int)<=((0:Nat):Int) - 1:=by omega
  refine W0 (Ye e1 e10 hlt) ?_
  refine Wp.pure (Nxt.exit ⟨So,hsm,s,hS.mv So rfl rfl,.inl ⟨rfl,Pp e1,Pp e3,Pp e4,Pp e9,acc,by simpa using hHa',by omega,hwS,hin,hT⟩⟩)
 | succ d=>
  have hlt:(0:Int)<=((d+1:Nat):Int) - 1:=by omega
  have ed:((d+1:Nat):Int) - 1=(d:Int):=by omega
  refine W0 (Ye e1 e10 hlt) ?_
  refine Zj (k87 (hS.mv Om rfl rfl) hwS.s) ?_
  rintro r H1 n1 q1 s1 hR
  rw[mTakes_step (d:=d+1) (m:={ m with s:=s })]at hT
  cases hM:mTake { m with s:=s } with
  | none=>
   rw[hM]at hR hT
   obtain⟨rfl,hS1⟩:=hR
   refine W0 trivial ?_
   exact Wp.pure (Nxt.ret ⟨So,(Mm (Zu s1 hsm)),s,hS1.mv So rfl rfl,.inr ⟨rfl,Po,by rw[hT];rfl⟩⟩)
  | some q=>
   obtain⟨y,m1⟩:=q
   rw[hM]at hR hT
   obtain⟨rfl,hS1⟩:=hR
   obtain⟨hw1,hy,rfl⟩:=hwS.take hM
   have hHa1:H1 ia=some (.row ((List.replicate (d+1) (0:Int)++acc).flatMap eInt.cells) 1 true):=by rw[s1 _ Om hic hii];exact hHa'
   have hdl:d < (List.replicate (d+1) (0:Int)++acc).length:=by simp;omega
   have ix:=idx_sl (sz:=1) (id:=ia) (k:=.i64) (show d < k by omega)
   rw[Nat.mul_one]at ix
   have st1:=st_el1 (E:=eInt) (H:=H1) (id:=ia) (l:=List.replicate (d+1) (0:Int)++acc) hHa1 (j:=d) hdl (y:=y) (c:=.int .i64 y) rfl rfl rfl
   rw[rep_set]at st1
   have w1:IntKind.i64.wrap ((d:Int) - 1)=(d:Int) - 1:=Wo Om
   refine W0 (Xq e9 e10 ed ix st1 w1) ?_
   refine Wp.pure (Nxt.go d Om ⟨(gi m.p s).b,y :: acc,by simp;omega,by omega,fun i h1 h2 h3 h4=>?_,hS1.mv Om (Zf _ _ (fun e=>hic e.symm)) (Zf _ _ (fun e=>hii e.symm)),Ze _ _ _,hw1,?_,Pp e1,Pp e3,Pp e4,Pp e9,Po,?_⟩)
   ·rw[Zf _ _ h4,s1 _ Om h2 h3];exact hsm i h1 h2 h3 h4
   ·intro x hx
    rcases List.mem_cons.1 hx with hx|hx
    ·rw[hx];exact hy
    ·exact hin x hx
   ·rw[hT]
    simp only[Option.bind_some]
    show Option.map _ (Option.map _ (Xg (d+1) { m with s:=(gi m.p s).b }))=_
    cases Xg (d+1) { m with s:=(gi m.p s).b } with
    | none=>rfl
    | some z=>simp
theorem k89 {n0 c id n:Nat}{H:Hp}{v x1 x2 x3:Value}{m:Mc}{l:List Nd}{li:List Ins}{ld:List Df}{b:Nat}(h:SM c id n H [] v m)(hw:Wf b m)(hb:b<=90000)(hC:Cd n0 H x1 x2 x3 l li ld)(hn0:n0<=c/\n0<=id)(hll:li.length<=400)(ha:0<=m.a/\m.a<=(li.length:Int) - 1) (hp:PoolOk m.p)(many:Int)(hm:0<=many/\many<=4) :
  RtA Tryz.prog 89 [.agg ⟨[x1,x2,x3]⟩,ptr c 0,.int .i64 many,.int .i64 (m.a+1)] c id H n (MRes (Wx li.length many m) c id n []):=by
 apply RtA.of
 rw[c89];unfold S89
 obtain⟨k,rfl⟩:=Int.eq_ofNat_of_zero_le hm.1
 have hcn:=h.cn
 have hid:=h.idn
 have hne:=h.ne
 have hl:=hw.len
 have hmk:mks (n+3) 1 8 [.int .i64 0] (.int .i64 (k:Int)) (.int .i64 (k:Int)) (H.set n (some (.row [x1,x2,x3] 0 true)))=some (sl (n+3) 0 k,(H.set n (some (.row [x1,x2,x3] 0 true))).set (n+3) (some (.row ((List.replicate k (0:Int)).flatMap eInt.cells) 1 true))):=mks_new eInt 0 _ (by decide) Om
 have wM:IntKind.i64.wrap ((k:Int) - 1)=(k:Int) - 1:=Wo Om
 have hcalling:Wx li.length (k:Int) m=if¬ m.a+1 < (li.length:Int)then .error 7 else match Xg (k+1) m with
  | none=>.error 7
  | some (vs,m1)=>Wd li.length (m.a+1) 3 (gi vs 0) (vs.drop 1) m1:=rfl
 refine W1 (Zu hmk wM) ?_
 refine Wp.bind (l89 (n0:=n+8) (cb:=n) (ia:=n+3) (H0:=(H.set n (some (.row [x1,x2,x3] 0 true))).set (n+3) (some (.row ((List.replicate k (0:Int)).flatMap eInt.cells) 1 true))) (h.mv Om Mo Mo) hw k Om (.int .i64 (m.a+1)) Om Om Om (Ze _ _ _) _ _ Om Pa Pa Po Po Po) ?_
 rintro⟨oe,ot,oH,on⟩ ⟨f1,f2,s,f3,f4⟩
 simp only at f1 f2 f3 f4
 have hmO:∀ i,i < n->i≠c->i≠id->oH i=H i:=fun i h1 h2 h3=>by rw[f2 _ Om h2 h3 Om,Zf _ _ Om,Zf _ _ Om]
 rcases f4 with⟨rfl,g1,g3,g4,g9,acc,i3,i4,i5,i6,i7⟩|⟨rfl,f5,f6⟩
 ·refine W0 g1 ?_
  refine Zj (k87 (f3.mv Om rfl rfl) i5.s) ?_
  rintro r H1 n1 q1 s1 hR
  rw[show Xg 1 { m with s:=s }=_ from mTakes_step (d:=0) (m:={ m with s:=s })]at i7
  have b1:H1 n=some (.row [x1,x2,x3] 0 true):=by rw[s1 _ Om Om Om,f2 _ Om Om Om Om,Zf _ _ Om];exact Ze _ _ _
  have hil:=hC.i.len
  cases hM:mTake { m with s:=s } with
  | none=>
   rw[hM]at hR i7
   obtain⟨rfl,hS1⟩:=hR
   have hE:Wx li.length (k:Int) m=.error 7:=by
    rw[hcalling,i7]
    split <;> rfl
   rw[hE]
   refine W0 (Ye g1 g3 g4) ?_
   exact Wp.pure ⟨So,(Mm (Zu s1 hmO)),Yh (hS1.mv So rfl rfl) (.inr rfl) (by decide)⟩
  | some q=>
   obtain⟨y,m1⟩:=q
   rw[hM]at hR i7
   obtain⟨rfl,hS1⟩:=hR
   obtain⟨hw1,hy,rfl⟩:=i5.take hM
   have i8:Xg (k+1) m=some (y :: acc,{ m with s:=(gi m.p s).b }):=by rw[i7];rfl
   by_cases c2:m.a+1 < (li.length:Int)
   case neg=>
    have hE:Wx li.length (k:Int) m=.error 7:=by
     rw[hcalling,if_pos c2]
    rw[hE]
    refine W1 (Xq g1 g3 g4 b1 hil (show(li.length:Int)<=m.a+1 by omega)) ?_
    exact Wp.pure ⟨So,(Mm (Zu s1 hmO)),Yh (hS1.mv So rfl rfl) (.inr rfl) (by decide)⟩
   have hE:Wx li.length (k:Int) m=Wd li.length (m.a+1) 3 y acc { m with s:=(gi m.p s).b }:=by
    rw[hcalling,if_neg (fun h=>h c2),i8];rfl
   rw[hE]
   have hat:At eInt (n+3) H1 (sl (n+3) 0 k) acc:=.inr ⟨by rw[i4],by rw[s1 _ Om Om Om];exact i3⟩
   have hm1:∀ i,i < n->i≠c->i≠id->H1 i=H i:=fun i h1 h2 h3=>by rw[s1 _ Om h2 h3];exact hmO i h1 h2 h3
   refine W1 (Wt g1 g3 g4 g9 b1 hil (show¬ (li.length:Int)<=m.a+1 by omega)) ?_
   refine Zj (k120 (m:={ m with s:=(gi m.p s).b }) ⟨hS1.mv Om rfl rfl,hw1,by omega,hC.mv (fun i hi=>hm1 i Om Om Om),hn0,hll,So,hat.lst Om,Off.sl Om,Off.sl Om,by omega,i6,fun _=>hp⟩ hb y hy) ?_
   rintro _ H5 n5 q5 s5 ⟨q,m',v',id',rfl,e2,e3,e4⟩
   refine W0 trivial ?_
   exact Wp.pure ⟨So,(Mm (Zu s5 hm1)),q,m',v',id',rfl,by omega,e3,e4⟩
 ·have hE:Wx li.length (k:Int) m=.error 7:=by
   rw[hcalling,f6]
   split <;> rfl
  rw[hE]
  refine W0 f5 ?_
  exact Wp.pure ⟨So,hmO,by simp only[f5];exact Yh f3 (.inr rfl) (by decide)⟩
end Go.Proofs.YtcffcnipmgkjfaaGreat.Ax
