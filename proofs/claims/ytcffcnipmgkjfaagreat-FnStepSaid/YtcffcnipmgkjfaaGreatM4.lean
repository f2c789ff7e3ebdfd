/- What the law needs: laws of the abstract machine, and contracts of functions. -/
import Derived.Test.YtcffcnipmgkjfaaGreatM2
import Derived.Test.YtcffcnipmgkjfaaGreatM3
set_option linter.unusedVariables false
set_option linter.unusedSimpArgs false
set_option maxHeartbeats 8000000
namespace Go.Proofs.YtcffcnipmgkjfaaGreat.Ax
open Go
theorem set_get {cs:List Value}{o:Nat}{v:Value}(h:cs[o]?=some v):cs.set o v=cs:=by
 apply List.ext_getElem?
 intro k
 rw[List.getElem?_set]
 split
 ·rename_i hk;subst hk;rw[if_pos (lt_get h)];exact h.symm
 ·rfl
theorem l126 {c o id n0 ida idt:Nat}{H0:Hp}{cs:List Value}{e:Nat}{v0:Value}{p q:List Nd}{vq:Value}{told:List Bool}(hq:Li eNode n0 H0 vq q)(hqc:Off c vq)(hqi:Off id vq)(hp:PoolOk q)(htl:told.length=q.length)(hcn:c < n0)(hida:n0<=ida)(hidt:n0<=idt)(hat:ida≠idt)(hpl:p.length<=1000000):∀ t H n,ida < n->idt < n->(∀ i,i < n0->i≠c->i≠id->H i=H0 i)->id < n0->PC c o id n H cs e v0 p->t 0=ptr c o->t 7=sl ida 0 q.length->t 8=sl idt 0 q.length->t 19=vq->t 20=.int .i64 q.length->t 21=.int .i64 0->H ida=some (.row ((List.replicate q.length (0:Int)).flatMap eInt.cells) 1 true)->H idt=some (.row (told.flatMap eBool.cells) 1 true) ->
  Wp (Zm (S126L0 (Call Tryz.prog) Zm) t H n) (fun out=>n<=out.n/\(∀ i,i < n0->i≠c->i≠id->out.H i=H0 i)/\out.e=.exit 0/\out.t 7=sl ida 0 q.length/\out.H ida=some (.row ((Ym told (-1) p q).2.flatMap eInt.cells) 1 true)/\∃ v' id',(id'=id∨n0<=id')/\id'≠ida/\PC c o id' out.n out.H (cs.set o v') e v' (Ym told (-1) p q).1):=by
 intro t H n hidan hidtn s0 hidn hpc e0 e7 e8 e19 e20 e21 hH hT
 have hl:=hp.2
 refine Zt (fun d T H' n'=>∃ (j idp:Nat) (vp:Value),j+d=q.length/\n<=n'/\(∀ i,i < n0->i≠c->i≠id->H' i=H0 i)/\(idp=id∨n0<=idp)/\idp≠ida/\idp≠idt/\PC c o idp n' H' (cs.set o vp) e vp (Ym told (-1) p (q.take j)).1/\T 0=ptr c o/\T 7=sl ida 0 q.length/\T 8=sl idt 0 q.length/\T 19=vq/\T 20=.int .i64 q.length/\T 21=.int .i64 j/\H' ida=some (.row (((Ym told (-1) p (q.take j)).2++List.replicate d (0:Int)).flatMap eInt.cells) 1 true)/\H' idt=some (.row (told.flatMap eBool.cells) 1 true)) _ ?_ q.length t H n ⟨0,id,v0,by omega,by omega,s0,.inl rfl,by omega,by omega,?_,e0,e7,e8,e19,e20,e21,by simpa[Ym]using hH,hT⟩
 case refine_2=>
  have:cs.set o v0=cs:=set_get hpc.ho
  rw[this];simpa[Ym]using hpc
 rintro d T H' n' ⟨j,idp,vp,hj,hn,s1,hidp,hpa,hpt,hpc,e0,e7,e8,e19,e20,e21,hH,hT⟩
 unfold S126L0
 by_cases hlt:j < q.length
 ·have hlti:(j:Int) < q.length:=by omega
  obtain⟨d,rfl⟩:∃ d',d=d'+1:=⟨d - 1,by omega⟩
  have hge:(0:Int)<=(j:Int):=by omega
  have hws:=wj (j:=j) (len:=q.length) hlt Om
  have g:=(hq.mv2 hqc hqi (Nat.le_refl _) s1).nAll (i:=(j:Int)) hge hlti
  have hok:=hp.at (v:=(j:Int)) hge hlti
  have hst:=inRun_take (told:=told) (z:=-1) (p:=p) hlt
  have hAl:(Ym told (-1) p (q.take j)).2.length=j:=by rw[inRun_len,List.length_take];omega
  have hAp:=(inRun_le told (-1) p (q.take j)).2
  rw[List.length_take,Nat.min_eq_left Om]at hAp
  generalize hA:Ym told (-1) p (q.take j)=A at *
  generalize hx:gi q (j:Int)=x at *
  have h5:x.k=5->(0<=x.a/\x.a < (A.2.length:Int))/\(0<=x.b/\x.b < (A.2.length:Int)):=fun h=>by have:=hok.pair h;omega
  have h6:x.k=6∨x.k=7->0<=x.a/\x.a < (A.2.length:Int):=fun h=>by have:=hok.one h;omega
  obtain⟨xk,xn,xs,xa,xb⟩:=x
  simp only[Nd.cells]at g h5 h6
  have hcn':=hpc.cn
  have hidn':=hpc.idn
  have hH2:(H'.set (n'+4) (some (.row [.int .i64 xk,.int .i64 xn,.string xs,.int .i64 xa,.int .i64 xb] 0 true))) ida=some (.row ((A.2++List.replicate (d+1) (0:Int)).flatMap eInt.cells) 1 true):=by rw[Zf _ _ Om];exact hH
  have hia:=idx1 (id:=ida) (k:=.i64) (m:=q.length) hge hlti
  have hit:=idx1 (id:=idt) (k:=.i64) (m:=q.length) hge hlti
  have ha1:=st_ii hH2 hge (by rw[List.length_append,hAl,List.length_replicate];omega) (-1)
  rw[show((j:Int)).toNat=j by omega]at ha1 hia hit
  rw[app_set hAl]at ha1
  have hft:=flat_o (l:=told) hge Om
  rw[show((j:Int)).toNat=j by omega]at hft
  by_cases ht:gi told (j:Int)=true
  ·have hin:Vk told (-1) A ⟨xk,xn,xs,xa,xb⟩=(A.1++[Xh A.2 ⟨xk,xn,xs,xa,xb⟩],A.2++[(A.1.length:Int)]):=by unfold Vk;rw[hAl,if_pos ht]
   refine V1 (Yj e0 e7 e8 e19 e20 e21 hlti (Wt g hia ha1 hit hT hft ht)) ?_
   refine Wp.bind (R:=fun(out:Out)=>out.e=.normal/\n'+4 < out.n/\(∀ i,i < n'->i≠ida->out.H i=H' i)/\out.t 0=ptr c o/\out.t 7=sl ida 0 q.length/\out.t 8=sl idt 0 q.length/\out.t 19=vq/\out.t 20=.int .i64 q.length/\out.t 21=.int .i64 j/\out.t 9=.int .i64 j/\out.t 10=ptr (n'+4) 0/\out.H (n'+4)=some (.row (Xh A.2 ⟨xk,xn,xs,xa,xb⟩).cells 0 true)/\out.H ida=some (.row (((A.2++[-1])++List.replicate d (0:Int)).flatMap eInt.cells) 1 true)) ?_ ?_
   ·have hfl:∀ {i:Int},0<=i->i < A.2.length->(((A.2++[-1])++List.replicate d (0:Int)).flatMap eInt.cells)[i.toNat]?=some (.int .i64 (gi A.2 i)):=by
     intro i h0 h1
     rw[List.append_assoc];exact flat_ip h0 h1
    by_cases c5:xk=5
    ·have ho:=h5 c5
     have ia:=idx1 (id:=ida) (k:=.i64) (m:=q.length) ho.1.1 Om
     have ib:=idx1 (id:=ida) (k:=.i64) (m:=q.length) ho.2.1 Om
     have fa:=hfl ho.1.1 ho.1.2
     have fb:=hfl ho.2.1 ho.2.2
     subst c5
     refine V1 (Yj e0 e7 e8 e19 e20 e21 ia (Ye ib fa fb)) ?_
     exact Wp.pure ⟨rfl,So,Mo,Pp e0,Pp e7,Pp e8,Pp e19,Pp e20,Pp e21,Pp e21,Po,by simp only[Ze,Xh,Nd.cells,if_true],by simp(disch:=omega) only[Zf,Ze]⟩
    ·by_cases c6:xk=6∨xk=7
     ·have ho:=h6 c6
      have ia:=idx1 (id:=ida) (k:=.i64) (m:=q.length) ho.1 Om
      have fa:=hfl ho.1 ho.2
      rcases c6 with c6|c6
      ·subst c6
       refine V1 (Yj e0 e7 e8 e19 e20 e21 ia fa) ?_
       exact Wp.pure ⟨rfl,So,Mo,Pp e0,Pp e7,Pp e8,Pp e19,Pp e20,Pp e21,Pp e21,Po,by simp only[Ze,Xh,Nd.cells];simp,by simp(disch:=omega) only[Zf,Ze]⟩
      ·subst c6
       refine V1 (Yj e0 e7 e8 e19 e20 e21 ia fa) ?_
       exact Wp.pure ⟨rfl,So,Mo,Pp e0,Pp e7,Pp e8,Pp e19,Pp e20,Pp e21,Pp e21,Po,by simp only[Ze,Xh,Nd.cells];simp,by simp(disch:=omega) only[Zf,Ze]⟩
     ·have c6':¬ xk=6:=fun h=>c6 (.inl h)
      have c7':¬ xk=7:=fun h=>c6 (.inr h)
      refine V1 (Yj e0 e7 e8 e19 e20 e21 c5 (Zu c6' c7')) ?_
      exact Wp.pure ⟨rfl,So,Mo,Pp e0,Pp e7,Pp e8,Pp e19,Pp e20,Pp e21,Pp e21,Po,by simp only[Zf _ _ (show n'+4≠ida by omega),Ze,Xh,Nd.cells,c5,c6',c7',or_self,if_false],Ze _ _ _⟩
   ·rintro⟨oe,ot,oH,on⟩ ⟨rfl,f2,f3,f4,f5,f6,f7,f8,f9,f10,f11,f12,f13⟩
    simp only at f2 f3 f4 f5 f6 f7 f8 f9 f10 f11 f12 f13
    generalize hy:Xh A.2 ⟨xk,xn,xs,xa,xb⟩=y at *
    have hldA:ld true 5 (ptr (n'+4) 0) oH=some (.agg ⟨y.cells⟩):=by rw[ldA_box f12];rfl
    have hne:c≠ida:=by omega
    refine V0 (Yj f4 f5 f6 f7 f8 f9 f10 (Zu f11 hldA)) ?_
    refine Zj (k101 (hpc.mv Om (f3 c hcn' hne) (f3 idp hidn' hpa)) Om y) ?_
    rintro _ H3 n3 q3 s3 ⟨rfl,v3,id3,i1,i2⟩
    have hida3:H3 ida=some (.row (((A.2++[-1])++List.replicate d (0:Int)).flatMap eInt.cells) 1 true):=by rw[s3 ida Om Om Om];exact f13
    have ha2:=st_ii hida3 hge (by rw[List.length_append,List.length_append,hAl,List.length_replicate];simp;omega) (A.1.length:Int)
    rw[show((j:Int)).toNat=j by omega,app_set2 hAl]at ha2
    refine V0 (Xq f5 f9 f10 hia ha2 hws) ?_
    refine Wp.pure (Nxt.go d Om ⟨j+1,id3,v3,by omega,by omega,?_,.inr Om,by omega,by omega,?_,Pp f4,Pp f5,Pp f6,Pp f7,Pp f8,Po,?_,?_⟩)
    ·intro i hi h1 h2
     rw[Zf _ _ Om,s3 i Om h1 Om,f3 i Om Om,s1 i hi h1 h2]
    ·rw[hst,← hA,hA,hin]
     have i3:=i2.mv (m:=n3+2) (H':=H3.set ida (some (.row (((A.2++[(A.1.length:Int)])++List.replicate d (0:Int)).flatMap eInt.cells) 1 true))) Om (Zf _ _ Om) (Zf _ _ Om)
     rw[List.set_set]at i3
     exact i3
    ·rw[hst,← hA,hA,hin];exact Ze _ _ _
    ·rw[Zf _ _ Om,s3 idt Om Om Om,f3 idt Om Om];exact hT
  ·have ht':gi told (j:Int)=false:=by simpa using ht
   have hin:Vk told (-1) A ⟨xk,xn,xs,xa,xb⟩=(A.1,A.2++[-1]):=by unfold Vk;rw[hAl,if_neg ht]
   refine V1 (Yj e0 e7 e8 e19 e20 e21 hlti (Yj g hia ha1 hit hT hft ht' hws)) ?_
   refine Wp.pure (Nxt.go d Om ⟨j+1,idp,vp,by omega,by omega,(Mm s1),hidp,hpa,hpt,?_,Pp e0,Pp e7,Pp e8,Pp e19,Pp e20,Po,?_,?_⟩)
   ·rw[hst,← hA,hA,hin]
    exact hpc.mv Om (by simp(disch:=omega) only[Zf]) (by simp(disch:=omega) only[Zf])
   ·rw[hst,← hA,hA,hin];exact Ze _ _ _
   ·simp(disch:=omega) only[Zf,hT]
 ·have hlti:¬ (j:Int) < q.length:=by omega
  refine V0 (Ye e20 e21 hlti) ?_
  have hd:d=0:=by omega
  subst hd
  rw[List.take_of_length_le Om]at hH hpc
  exact Wp.pure (Nxt.exit ⟨So,s1,rfl,Pp e7,by simpa using hH,vp,idp,hidp,hpa,hpc.mv So rfl rfl⟩)
theorem k126 {c o id n:Nat}{H:Hp}{cs:List Value}{e:Nat}{v:Value}{p q:List Nd}{vq w:Value}{roots:List Int}(h:PC c o id n H cs e v p)(hq:Li eNode n H vq q)(hqc:Off c vq)(hqi:Off id vq)(hp:PoolOk q)(hw:Li eInt n H w roots)(hr:∀ r∈roots,0<=r/\r < (q.length:Int)) (hrl:roots.length<=1048576)(hpl:p.length<=1000000) :
  RtA Tryz.prog 126 [ptr c o,.agg ⟨[vq]⟩,w] c id H n (fun r H' n'=>∃ ida v' id',n<=ida/\ida < n'/\r=sl ida 0 q.length/\H' ida=some (.row ((Ym (Xu q roots) (-1) p q).2.flatMap eInt.cells) 1 true)/\(id'=id∨n<=id')/\id'≠ida/\PC c o id' n' H' (cs.set o v') e v' (Ym (Xu q roots) (-1) p q).1):=by
 apply RtA.of
 rw[c126];unfold S126
 have hl2:=hp.2
 have hcn:=h.cn
 have hid:=h.idn
 have hm:∀ H:Hp,mks (n+5) 1 8 [.int .i64 0] (.int .i64 q.length) (.int .i64 q.length) H=some (sl (n+5) 0 q.length,H.set (n+5) (some (.row ((List.replicate q.length (0:Int)).flatMap eInt.cells) 1 true))):=fun H=>mks_new eInt (0:Int) H (by decide) Om
 refine V1 (Zu hq.len hm) ?_
 refine Ya (k143 (hq.mv Om Mo) hp (hw.mv Om Mo) hr hrl) ?_
 rintro _ H1 n1 q1 s1 ⟨idt,i1,i2,rfl,i3⟩
 have hlq:=(hq.mv (H':=H1) (Nat.le_refl _) (Mm s1)).len
 refine V1 (Zu s1 hlq) ?_
 refine Wp.bind (l126 (n0:=n) (ida:=n+5) (idt:=idt) (H0:=H) (v0:=v) hq hqc hqi hp (reachM_len q roots) hcn Om Om Om hpl _ _ _ Om Om (by intros;simp(disch:=omega) only[s1,Zf]) hid (h.mv Om (Mm s1) (Mm s1)) Pa Po Po Po Po Po (Mm s1) i3) ?_
 rintro⟨oe,ot,oH,on⟩ ⟨f1,f2,rfl,f4,f5,v',id',f6,f7,f8⟩
 simp only at f1 f2 f4 f5 f6 f7 f8
 refine V0 f4 ?_
 exact Wp.pure ⟨So,f2,n+5,v',id',by omega,So,f4,f5,f6,f7,f8.mv So rfl rfl⟩
theorem l117 {c o id n0 ida idt b:Nat}{H0:Hp}{cs:List Value}{e:Nat}{v0:Value}{p q:List Nd}{vq:Value}{told:List Bool}(hq:Li eNode n0 H0 vq q)(hqc:Off c vq)(hqi:Off id vq)(hp:PoolOk q)(htl:told.length=q.length)(hcn:c < n0)(hida:n0<=ida)(hat:ida≠idt)(hbc:b≠c)(hbi:b≠id)(hba:b≠ida)(htc:idt≠c)(hti:idt≠id)(hpl:p.length<=1000000):∀ t H n,ida < n->idt < n->b < n->(∀ i,i < n0->i≠c->i≠id->H i=H0 i)->id < n0->PC c o id n H cs e v0 p->t 0=ptr c o->t 7=sl ida 0 q.length->t 2=sl idt 0 q.length->t 4=ptr b 0->t 8=.int .i64 0->H b=some (.row [vq] 0 true)->H ida=some (.row ((List.replicate q.length (0:Int)).flatMap eInt.cells) 1 true)->H idt=some (.row (told.flatMap eBool.cells) 1 true) ->
  Wp (Zm (S117L0 (Call Tryz.prog) Zm) t H n) (fun out=>n<=out.n/\(∀ i,i < n0->i≠c->i≠id->out.H i=H0 i)/\out.e=.exit 0/\out.t 7=sl ida 0 q.length/\out.H ida=some (.row ((Ym told 0 p q).2.flatMap eInt.cells) 1 true)/\∃ v' id',(id'=id∨n0<=id')/\id'≠ida/\PC c o id' out.n out.H (cs.set o v') e v' (Ym told 0 p q).1):=by
 intro t H n hidan hidtn hbn s0 hidn hpc e0 e7 e2 e4 e8 hB hH hT
 have hl:=hp.2
 refine Zt (fun d T H' n'=>∃ (j idp:Nat) (vp:Value),j+d=q.length/\n<=n'/\(∀ i,i < n0->i≠c->i≠id->H' i=H0 i)/\(idp=id∨n0<=idp)/\idp≠ida/\idp≠idt/\idp≠b/\PC c o idp n' H' (cs.set o vp) e vp (Ym told 0 p (q.take j)).1/\T 0=ptr c o/\T 7=sl ida 0 q.length/\T 2=sl idt 0 q.length/\T 4=ptr b 0/\T 8=.int .i64 j/\H' b=some (.row [vq] 0 true)/\H' ida=some (.row (((Ym told 0 p (q.take j)).2++List.replicate d (0:Int)).flatMap eInt.cells) 1 true)/\H' idt=some (.row (told.flatMap eBool.cells) 1 true)) _ ?_ q.length t H n ⟨0,id,v0,by omega,by omega,s0,.inl rfl,by omega,by omega,by omega,?_,e0,e7,e2,e4,e8,hB,by simpa[Ym]using hH,hT⟩
 case refine_2=>
  have:cs.set o v0=cs:=set_get hpc.ho
  rw[this];simpa[Ym]using hpc
 rintro d T H' n' ⟨j,idp,vp,hj,hn,s1,hidp,hpa,hpt,hpb,hpc,e0,e7,e2,e4,e8,hB,hH,hT⟩
 unfold S117L0
 by_cases hlt:j < q.length
 ·have hlti:(j:Int) < q.length:=by omega
  obtain⟨d,rfl⟩:∃ d',d=d'+1:=⟨d - 1,by omega⟩
  have hge:(0:Int)<=(j:Int):=by omega
  have hws:=wj (j:=j) (len:=q.length) hlt Om
  have g:=(hq.mv2 hqc hqi (Nat.le_refl _) s1).nAll (i:=(j:Int)) hge hlti
  have hok:=hp.at (v:=(j:Int)) hge hlti
  have hst:=inRun_take (told:=told) (z:=0) (p:=p) hlt
  have hAl:(Ym told 0 p (q.take j)).2.length=j:=by rw[inRun_len,List.length_take];omega
  have hAp:=(inRun_le told 0 p (q.take j)).2
  rw[List.length_take,Nat.min_eq_left Om]at hAp
  generalize hA:Ym told 0 p (q.take j)=A at *
  generalize hx:gi q (j:Int)=x at *
  have h5:x.k=5->(0<=x.a/\x.a < (A.2.length:Int))/\(0<=x.b/\x.b < (A.2.length:Int)):=fun h=>by have:=hok.pair h;omega
  have h6:x.k=6∨x.k=7->0<=x.a/\x.a < (A.2.length:Int):=fun h=>by have:=hok.one h;omega
  obtain⟨xk,xn,xs,xa,xb⟩:=x
  simp only[Nd.cells]at g h5 h6
  have hcn':=hpc.cn
  have hidn':=hpc.idn
  have hlq:=(hq.mv2 (H':=H') hqc hqi (Nat.le_refl _) s1).len
  have hia:=idx1 (id:=ida) (k:=.i64) (m:=q.length) hge hlti
  have hit:=idx1 (id:=idt) (k:=.i64) (m:=q.length) hge hlti
  rw[show((j:Int)).toNat=j by omega]at hia hit
  have hft:=flat_o (l:=told) hge Om
  rw[show((j:Int)).toNat=j by omega]at hft
  by_cases ht:gi told (j:Int)=true
  ·have hin:Vk told 0 A ⟨xk,xn,xs,xa,xb⟩=(A.1++[Xh A.2 ⟨xk,xn,xs,xa,xb⟩],A.2++[(A.1.length:Int)]):=by unfold Vk;rw[hAl,if_pos ht]
   refine V1 (Yj e0 e7 e2 e4 e8 hlq hlti (Xq hB g hit hT hft ht)) ?_
   refine Wp.bind (R:=fun(out:Out)=>out.e=.normal/\n'+15 < out.n/\(∀ i,i < n'->out.H i=H' i)/\out.t 0=ptr c o/\out.t 7=sl ida 0 q.length/\out.t 2=sl idt 0 q.length/\out.t 4=ptr b 0/\out.t 8=.int .i64 j/\out.t 9=ptr (n'+15) 0/\out.H (n'+15)=some (.row (Xh A.2 ⟨xk,xn,xs,xa,xb⟩).cells 0 true)) ?_ ?_
   ·have hfl:∀ {i:Int},0<=i->i < A.2.length->((A.2++List.replicate (d+1) (0:Int)).flatMap eInt.cells)[i.toNat]?=some (.int .i64 (gi A.2 i)):=fun h0 h1=>flat_ip h0 h1
    by_cases c5:xk=5
    ·have ho:=h5 c5
     have ia:=idx1 (id:=ida) (k:=.i64) (m:=q.length) ho.1.1 Om
     have ib:=idx1 (id:=ida) (k:=.i64) (m:=q.length) ho.2.1 Om
     have fa:=hfl ho.1.1 ho.1.2
     have fb:=hfl ho.2.1 ho.2.2
     subst c5
     refine V1 (Yj e0 e7 e2 e4 e8 ia ib (Ye hH fa fb)) ?_
     exact Wp.pure ⟨rfl,So,Mo,Pp e0,Pp e7,Pp e2,Pp e4,Pp e8,Po,by simp only[Ze,Xh,Nd.cells,if_true]⟩
    ·by_cases c6:xk=6∨xk=7
     ·have ho:=h6 c6
      have ia:=idx1 (id:=ida) (k:=.i64) (m:=q.length) ho.1 Om
      have fa:=hfl ho.1 ho.2
      rcases c6 with c6|c6
      ·subst c6
       refine V1 (Yj e0 e7 e2 e4 e8 ia hH fa) ?_
       exact Wp.pure ⟨rfl,So,Mo,Pp e0,Pp e7,Pp e2,Pp e4,Pp e8,Po,by simp only[Ze,Xh,Nd.cells];simp⟩
      ·subst c6
       refine V1 (Yj e0 e7 e2 e4 e8 ia hH fa) ?_
       exact Wp.pure ⟨rfl,So,Mo,Pp e0,Pp e7,Pp e2,Pp e4,Pp e8,Po,by simp only[Ze,Xh,Nd.cells];simp⟩
     ·have c6':¬ xk=6:=fun h=>c6 (.inl h)
      have c7':¬ xk=7:=fun h=>c6 (.inr h)
      refine V1 (Yj e0 e7 e2 e4 e8 c5 c6' c7') ?_
      exact Wp.pure ⟨rfl,So,Mo,Pp e0,Pp e7,Pp e2,Pp e4,Pp e8,Po,by simp only[Ze,Xh,Nd.cells,c5,c6',c7',or_self,if_false]⟩
   ·rintro⟨oe,ot,oH,on⟩ ⟨rfl,f2,f3,f4,f5,f6,f7,f8,f9,f10⟩
    simp only at f2 f3 f4 f5 f6 f7 f8 f9 f10
    generalize hy:Xh A.2 ⟨xk,xn,xs,xa,xb⟩=y at *
    have hldA:ld true 5 (ptr (n'+15) 0) oH=some (.agg ⟨y.cells⟩):=by rw[ldA_box f10];rfl
    refine V0 (Wt f4 f5 f6 f7 f8 f9 hldA) ?_
    refine Zj (k88 (hpc.mv Om (f3 c hcn') (f3 idp hidn')) Om y) ?_
    rintro _ H3 n3 q3 s3 ⟨rfl,v3,id3,i1,i2⟩
    have hida3:H3 ida=some (.row ((A.2++List.replicate (d+1) (0:Int)).flatMap eInt.cells) 1 true):=by rw[s3 ida Om Om Om,f3 ida Om];exact hH
    have ha2:=st_ii hida3 hge (by rw[List.length_append,hAl,List.length_replicate];omega) (A.1.length:Int)
    rw[show((j:Int)).toNat=j by omega,app_set hAl]at ha2
    refine V0 (Xm f5 f8 hia ha2 hws) ?_
    refine Wp.pure (Nxt.go d Om ⟨j+1,id3,v3,by omega,by omega,?_,.inr Om,by omega,by omega,by omega,?_,Pp f4,Pp f5,Pp f6,Pp f7,Po,?_,?_,?_⟩)
    ·intro i hi h1 h2
     rw[Zf _ _ Om,s3 i Om h1 Om,f3 i Om,s1 i hi h1 h2]
    ·rw[hst,← hA,hA,hin]
     have i3:=i2.mv (m:=n3+3) (H':=H3.set ida (some (.row (((A.2++[(A.1.length:Int)])++List.replicate d (0:Int)).flatMap eInt.cells) 1 true))) Om (Zf _ _ Om) (Zf _ _ Om)
     rw[List.set_set]at i3
     exact i3
    ·rw[Zf _ _ Om,s3 b Om Om Om,f3 b Om];exact hB
    ·rw[hst,← hA,hA,hin];exact Ze _ _ _
    ·rw[Zf _ _ Om,s3 idt Om Om Om,f3 idt Om];exact hT
  ·have ht':gi told (j:Int)=false:=by simpa using ht
   have hin:Vk told 0 A ⟨xk,xn,xs,xa,xb⟩=(A.1,A.2++[0]):=by unfold Vk;rw[hAl,if_neg ht]
   refine V1 (Yj e0 e7 e2 e4 e8 hlq hlti (Xq hB hit hT hft ht' hws)) ?_
   refine Wp.pure (Nxt.go d Om ⟨j+1,idp,vp,by omega,by omega,s1,hidp,hpa,hpt,hpb,?_,Pp e0,Pp e7,Pp e2,Pp e4,Po,hB,?_,hT⟩)
   ·rw[hst,← hA,hA,hin]
    exact hpc.mv Om rfl rfl
   ·rw[hst,← hA,hA,hin,List.append_assoc];exact hH
 ·have hlti:¬ (j:Int) < q.length:=by omega
  have hlq:=(hq.mv2 (H':=H') hqc hqi (Nat.le_refl _) s1).len
  refine V1 (Xm e4 hB hlq e8 hlti) ?_
  have hd:d=0:=by omega
  subst hd
  rw[List.take_of_length_le Om]at hH hpc
  exact Wp.pure (Nxt.exit ⟨So,s1,rfl,Pp e7,by simpa using hH,vp,idp,hidp,hpa,hpc.mv So rfl rfl⟩)
theorem k117 {c o id n idt:Nat}{H:Hp}{cs:List Value}{e:Nat}{v:Value}{p q:List Nd}{vq:Value}{told:List Bool}(h:PC c o id n H cs e v p)(hq:Li eNode n H vq q)(hqc:Off c vq)(hqi:Off id vq)(hp:PoolOk q)(ht:H idt=some (.row (told.flatMap eBool.cells) 1 true)) (htl:told.length=q.length)(htn:idt < n)(htc:idt≠c)(hti:idt≠id)(hpl:p.length<=1000000) :
  RtA Tryz.prog 117 [ptr c o,.agg ⟨[vq]⟩,sl idt 0 q.length] c id H n (fun r H' n'=>∃ ida v' id',n<=ida/\ida < n'/\r=sl ida 0 q.length/\H' ida=some (.row ((Ym told 0 p q).2.flatMap eInt.cells) 1 true)/\(id'=id∨n<=id')/\id'≠ida/\PC c o id' n' H' (cs.set o v') e v' (Ym told 0 p q).1):=by
 apply RtA.of
 rw[c117];unfold S117
 have hl2:=hp.2
 have hcn:=h.cn
 have hid:=h.idn
 have hm:∀ H:Hp,mks (n+5) 1 8 [.int .i64 0] (.int .i64 q.length) (.int .i64 q.length) H=some (sl (n+5) 0 q.length,H.set (n+5) (some (.row ((List.replicate q.length (0:Int)).flatMap eInt.cells) 1 true))):=fun H=>mks_new eInt (0:Int) H (by decide) Om
 refine V1 (Zu hq.len hm) ?_
 refine Wp.bind (l117 (n0:=n) (ida:=n+5) (idt:=idt) (b:=n) (H0:=H) (v0:=v) hq hqc hqi hp htl hcn Om Om Om Om Om htc hti hpl _ _ _ Om Om Om (by intros;simp(disch:=omega) only[Zf]) hid (h.mv Om Mo Mo) Pa Po Pa Po Po Mo Mo (by simp(disch:=omega) only[Zf,ht])) ?_
 rintro⟨oe,ot,oH,on⟩ ⟨f1,f2,rfl,f4,f5,v',id',f6,f7,f8⟩
 simp only at f1 f2 f4 f5 f6 f7 f8
 refine V0 f4 ?_
 exact Wp.pure ⟨So,f2,n+5,v',id',by omega,So,f4,f5,f6,f7,f8.mv So rfl rfl⟩
end Go.Proofs.YtcffcnipmgkjfaaGreat.Ax
