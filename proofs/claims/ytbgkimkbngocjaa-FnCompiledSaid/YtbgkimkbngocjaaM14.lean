/- What the law needs: laws of the abstract machine, and contracts of functions. -/
import Derived.Test.YtbgkimkbngocjaaM13
import Derived.Test.YtbgkimkbngocjaaM4
import Derived.Test.YtbgkimkbngocjaaM7
set_option linter.unusedVariables false
set_option linter.unusedSimpArgs false
set_option maxHeartbeats 8000000
namespace Go.Proofs.Ytbgkimkbngocjaa.Ax
open Go
theorem cAll_small {p:List Nd} (hp:PoolOk p):∀ (l:List Int) (j:Nat) (s:CS),inPool p l→Small s→Small (cAll p l j s).1
 | [],j,s,_,hs=>hs
 | v :: l,j,s,hr,hs=>by
  have h1:=Keeps.top hp (hr v List.mem_cons_self).1 (hr v List.mem_cons_self).2 p.length s hs
  rw [cAll]
  split
  ·exact cAll_small hp l (j+1) _ (fun y hy=>hr y (List.mem_cons_of_mem _ hy)) h1
  ·exact h1
theorem cAll_D (p:List Nd):∀ (l:List Int) (j:Nat) (s:CS),(cAll p l j s).1.D.length≤s.D.length+l.length
 | [],j,s=>by simp [cAll]
 | v :: l,j,s=>by
  have h1:=cTop_D (Goes.expr p p.length) p v s
  rw [cAll,List.length_cons]
  split
  ·have:=cAll_D p l (j+1) (cTop (cExpr p p.length) p v s); omega
  ·simp only; omega
theorem bld_4 (u:Value) (h:cell1 u=true):bld [nilS,nilS,nilS,.int .i64 0] [(0,3,.agg ⟨[u,nilS,nilS]⟩)]=some (.agg ⟨[u,nilS,nilS,.int .i64 0]⟩):=rfl
theorem bld_31 (u:Value):bld [nilS,nilS,nilS] [(0,1,.agg ⟨[u]⟩)]=some (.agg ⟨[u,nilS,nilS]⟩):=rfl
theorem k9 {n:Nat} {H:Hp} {v w:Value} {p:List Nd} {l:List Int} (hv:Li eNode n H v p) (hs:∀ x∈p,x.s.size≤1048576) (hpl:p.length≤1048576) (hw:Li eInt n H w l) (hl:l.length≤1048576):RtN Try.prog 9 [.agg ⟨[v]⟩,w] H n (fun r H' n'=>CompRes n n' H' r (compAns p l)):=by
 apply RtN.mk
 rw [c9]; unfold S9
 ((repeat(first|((with_reducible first|apply Wp.gs|apply Wp.cs|apply Zd|apply Zf|apply Zc|apply Zg|apply Zn|apply Wp.step);case h=>((try simp(disch:=omega)only[↓reduceIte,Za,↓X0,X1,Nat.reduceEqDiff,Int.reduceEq,Nat.reduceAdd,Nat.reduceSub,X2,Zi,Nat.reduceLeDiff]);with_reducible first|done|exact rfl|exact bT|exact bF))|apply Ze|apply Zh|with_reducible apply Zl|simp only[↓X3]|with_reducible apply Zb));try(with_reducible apply Zm;case h=>((try simp(disch:=omega)only[X1,Nat.reduceEqDiff]);with_reducible exact rfl)))
 refine Wp.rt (k42 (hv.mv (by omega) (by intros;first|with_reducible rfl|simp(disch:=omega)only[Zi,Zj])) hs hpl) ?_
 intro H1 n1 q1 s1
 by_cases hp:PoolOk p
 case neg =>
  (repeat(first|((with_reducible first|apply Wp.gs|apply Wp.cs|apply Zd|apply Zf|apply Zc|apply Zg|apply Zn|apply Wp.step);case h=>((try simp(disch:=omega)only[↓reduceIte,Za,↓X0,X1,Nat.reduceEqDiff,Int.reduceEq,Nat.reduceAdd,Nat.reduceSub,X2,Zi,Nat.reduceLeDiff,hp,s1,bld_3n,ldA_r,rowAgg_row]);with_reducible first|done|exact rfl|exact bT|exact bF))|apply Ze|apply Zh|with_reducible apply Zl|simp only[↓X3]|with_reducible apply Zb))
  exact Wp.pure ⟨by simp only; omega,(by intros;first|with_reducible rfl|simp(disch:=omega)only[Zi,Zj,s1]),by rw [compAns_bad (fun h=>hp h.1)]; exact CompRes.none (by simp only; omega) 3 0⟩
 have hp2:=hp.2
 ((repeat(first|((with_reducible first|apply Wp.gs|apply Wp.cs|apply Zd|apply Zf|apply Zc|apply Zg|apply Zn|apply Wp.step);case h=>((try simp(disch:=omega)only[↓reduceIte,Za,↓X0,X1,Nat.reduceEqDiff,Int.reduceEq,Nat.reduceAdd,Nat.reduceSub,X2,Zi,Nat.reduceLeDiff,hp,s1,List.all_cons.{0},ptrV]);with_reducible first|done|exact rfl|exact bT|exact bF))|apply Ze|apply Zh|with_reducible apply Zl|simp only[↓X3]|with_reducible apply Zb));try(with_reducible apply Zm;case h=>((try simp(disch:=omega)only[X1,Nat.reduceEqDiff,hp,s1,List.all_cons.{0},ptrV]);with_reducible exact rfl)))
 refine Wp.rt (k43 (hw.mv (by omega) (by intros;first|with_reducible rfl|simp(disch:=omega)only[Zi,Zj,s1])) hl _ _ (fun x=>!decide (0≤x∧x < (p.length:Int))) ?_) ?_
 ·intro x hx H' n' hn' hs'
  exact k44 (hv.mv (by omega) (by intros;first|with_reducible rfl|simp(disch:=omega)only[Zi,Zj,hs',s1])) hpl (by simp (disch:=omega) only [hs',Zi,Zj,s1]) x
 intro H2 n2 q2 s2
 by_cases hr:inPool p l
 case neg =>
  have hany:l.any (fun x=>!decide (0≤x∧x < (p.length:Int)))=true:=by
   rw [List.any_eq_true]
   unfold inPool at hr
   simp only [Classical.not_forall] at hr
   obtain ⟨x,hx,h⟩:=hr
   exact ⟨x,hx,by rw [decide_eq_false h]; rfl⟩
  (repeat(first|((with_reducible first|apply Wp.gs|apply Wp.cs|apply Zd|apply Zf|apply Zc|apply Zg|apply Zn|apply Wp.step);case h=>((try simp(disch:=omega)only[↓reduceIte,Za,↓X0,X1,Nat.reduceEqDiff,Int.reduceEq,Nat.reduceAdd,Nat.reduceSub,X2,Zi,Nat.reduceLeDiff,hany,s2,s1,bld_3n,ldA_r,rowAgg_row]);with_reducible first|done|exact rfl|exact bT|exact bF))|apply Ze|apply Zh|with_reducible apply Zl|simp only[↓X3]|with_reducible apply Zb))
  exact Wp.pure ⟨by simp only; omega,(by intros;first|with_reducible rfl|simp(disch:=omega)only[Zi,Zj,s2,s1]),by rw [compAns_bad (fun h=>hr h.2)]; exact CompRes.none (by simp only; omega) 3 0⟩
 have hany:l.any (fun x=>!decide (0≤x∧x < (p.length:Int)))=false:=by
  rw [List.any_eq_false]; intro x hx; simpa using hr x hx
 ((repeat(first|((with_reducible first|apply Wp.gs|apply Wp.cs|apply Zd|apply Zf|apply Zc|apply Zg|apply Zn|apply Wp.step);case h=>((try simp(disch:=omega)only[↓reduceIte,Za,↓X0,X1,Nat.reduceEqDiff,Int.reduceEq,Nat.reduceAdd,Nat.reduceSub,X2,Zi,Nat.reduceLeDiff,hany,s2,s1]);with_reducible first|done|exact rfl|exact bT|exact bF))|apply Ze|apply Zh|with_reducible apply Zl|simp only[↓X3]|with_reducible apply Zb));try(with_reducible apply Zm;case h=>((try simp(disch:=omega)only[X1,Nat.reduceEqDiff,hany,s2,s1]);with_reducible exact rfl)))
 refine Wp.rtn (k46 (hv.mv (by omega) (by intros;first|with_reducible rfl|simp(disch:=omega)only[Zi,Zj,s2,s1])) (by omega)) ?_
 rintro _ H3 n3 q3 s3 ⟨u,rfl,id,i1,i2,i3⟩
 ((repeat(first|((with_reducible first|apply Wp.gs|apply Wp.cs|apply Zd|apply Zf|apply Zc|apply Zg|apply Zn|apply Wp.step);case h=>((try simp(disch:=omega)only[↓reduceIte,Za,↓X0,X1,Nat.reduceEqDiff,Int.reduceEq,Nat.reduceAdd,Nat.reduceSub,X2,Zi,Nat.reduceLeDiff,bld_31,bld_4 u i3.cell,hw.len]);with_reducible first|done|exact rfl|exact bT|exact bF))|apply Ze|apply Zh|with_reducible apply Zl|simp only[↓X3]|with_reducible apply Zb));try(with_reducible apply Zm;case h=>((try simp(disch:=omega)only[X1,Nat.reduceEqDiff,bld_31,bld_4 u i3.cell,hw.len]);with_reducible exact rfl)))
 generalize hG:H3.set (n2+4) _=G
 have hGs:∀ i,i≠n2+4→G i=H3 i:=fun i hi=>by rw [← hG]; exact Zi _ _ hi
 have hk:∀ i,i < n2+4→G i=H2 i:=fun i hi=>by rw [hGs i (by omega)]; exact s3 i (by omega)
 have hid:At eNode id G u p:=i3.mv (hGs id (by omega))
 have hb:G (n+1)=some (.row [nilS,nilS,nilS] 0 true):=by rw [hk _ (by omega)]; simp (disch:=omega) only [s2,s1,Zj]
 have hDC:DC (n2+4) (n2+5) (n2+3) (n3+3) G u nilS nilS ⟨0,[],[]⟩:=⟨⟨by rw [← hG]; exact Zj _ _ _,At.nil,by omega,by omega,by omega,by simp,⟨Int.le_refl 0,by show (0:Int)≤3; decide⟩⟩,At.nil,by omega,by omega,by omega⟩
 have hwG:Li eInt n G w l:=hw.mv (Nat.le_refl _) (fun i hi=>by rw [hk i (by omega),s2 i (by omega),s1 i (by omega)]; simp (disch:=omega) only [Zi])
 refine Wp.bind (l9 hp hr hl (b:=n+1) (w:=w) hDC (hid.lo (by omega) (by omega) (by omega)) (fun i o a k e=>by rcases hid with ⟨h,_⟩ | ⟨h,_⟩ <;> rw [h] at e <;> cases e; omega) ⟨hwG.mv (by omega) (fun _ _=>rfl),hwG.off (by omega),hwG.off (by omega)⟩ (hwG.off (by omega)) (by omega) (by omega) (by omega) (by omega) _ (by simp [Zk]) (by simp [Zk]) (by simp [Zk,Zq]) (by simp [Zk]) (by simp [Zk]) (by simp [Zk,Zq]) hb) ?_
 rintro ⟨oe,ot,oH,on⟩ ⟨f1,f2,f3,f4,f5⟩
 simp only at f1 f2 f3 f4 f5
 have hkn:∀ i,i < n→oH i=H i:=fun i hi=>by
  rw [f2 i (by omega) (by omega) (by omega) (by omega) (by omega),hk i (by omega),s2 i (by omega),s1 i (by omega)]; simp (disch:=omega) only [Zi]
 have hD:=cAll_D p l 0 ⟨0,[],[]⟩
 have hSm:=cAll_small hp l 0 ⟨0,[],[]⟩ hr ⟨fun x hx=>by simp at hx,fun x hx=>by simp at hx⟩
 have hyes:=fun h0 h3=>compAns_y (p:=p) (l:=l) ⟨hp,hr⟩ h0 h3
 have hno:=fun h0 h3=>compAns_n (p:=p) (l:=l) ⟨hp,hr⟩ h0 h3
 have hthree:=fun h0=>compAns_3 (p:=p) (l:=l) ⟨hp,hr⟩ h0
 have herr:=fun h0 h3=>compAns_e (p:=p) (l:=l) ⟨hp,hr⟩ h0 h3
 generalize hQ:cAll p l 0 ⟨0,[],[]⟩=Q at *
 obtain ⟨S,at_⟩:=Q
 simp only at f5 hD hSm hyes hno hthree herr
 rcases f5 with ⟨rfl,e1,e7,h0,ul,il,ud,idd,j1,j2,hdc⟩ | ⟨rfl,h0,e5,e6⟩
 ·have hc:=hdc.cc.hc
  have hcn:=hdc.cc.cn
  have hil:=hdc.cc.iln
  have hdn:=hdc.dn
  have hpid:At eNode id oH u p:=hid.mv (f2 id (by omega) (by omega) (by omega) (by omega) (by omega))
  have hLl:=hdc.cc.len
  ((repeat(first|((with_reducible first|apply Wp.gs|apply Wp.cs|apply Zd|apply Zf|apply Zc|apply Zg|apply Zn|apply Wp.step);case h=>((try simp(disch:=omega)only[↓reduceIte,Za,↓X0,X1,Nat.reduceEqDiff,Int.reduceEq,Nat.reduceAdd,Nat.reduceSub,X2,Zi,Nat.reduceLeDiff,e7,hc]);with_reducible first|done|exact rfl|exact bT|exact bF))|apply Ze|apply Zh|with_reducible apply Zl|simp only[↓X3]|with_reducible apply Zb));try(with_reducible apply Zm;case h=>((try simp(disch:=omega)only[X1,Nat.reduceEqDiff,e7,hc]);with_reducible exact rfl)))
  refine Wp.rt (k12 ((hpid.lst (by omega)).mv (by omega) (fun _ _=>rfl)) ((hdc.cc.al.lst hil).mv (by omega) (fun _ _=>rfl)) ((hdc.ad.lst hdn).mv (by omega) (fun _ _=>rfl)) hs hSm.1 hSm.2 hpl (by omega) (by simp at hD; omega)) ?_
  intro H5 n5 q5 s5
  have hb5:H5 (n+1)=some (.row [nilS,nilS,nilS] 0 true):=by rw [s5 _ (by omega)]; exact f3
  have hc5:H5 (n2+4)=some (.row [u,ul,ud,.int .i64 S.how] 0 true):=by rw [s5 _ (by omega)]; exact hc
  by_cases hco:CodeOk p S.L S.D
  ·rw [hyes h0 hco]
   have hst:st true 3 (ptr (n+1) 0) (.agg ⟨[u,ul,ud]⟩) H5=some (H5.set (n+1) (some (.row [u,ul,ud] 0 true))):=by
    rw [st_agg,stv_box hb5]; rfl
   (repeat(first|((with_reducible first|apply Wp.gs|apply Wp.cs|apply Zd|apply Zf|apply Zc|apply Zg|apply Zn|apply Wp.step);case h=>((try simp(disch:=omega)only[↓reduceIte,Za,↓X0,X1,Nat.reduceEqDiff,Int.reduceEq,Nat.reduceAdd,Nat.reduceSub,X2,Zi,Nat.reduceLeDiff,hco,e1,e7,f4,hc5,hst,hwG.len]);with_reducible first|done|exact rfl|exact bT|exact bF))|apply Ze|apply Zh|with_reducible apply Zl|simp only[↓X3]|with_reducible apply Zb))
   refine Wp.pure ⟨by simp only; omega,(by intros;first|with_reducible rfl|simp(disch:=omega)only[Zi,Zj,s5,hkn]),u,ul,ud,rfl,id,il,idd,?_,?_,?_,by omega,by simp only; omega,?_,by simp only; omega,?_,by simp only; omega,?_,?_,?_⟩
   ·omega
   ·omega
   ·exact Ne.symm hdc.ni
   ·omega
   ·omega
   ·exact hpid.mv ((Zi _ _ (by omega)).trans (s5 _ (by omega)))
   ·exact hdc.cc.al.mv ((Zi _ _ (by omega)).trans (s5 _ (by omega)))
   ·exact hdc.ad.mv ((Zi _ _ (by omega)).trans (s5 _ (by omega)))
  ·rw [hno h0 hco]
   (repeat(first|((with_reducible first|apply Wp.gs|apply Wp.cs|apply Zd|apply Zf|apply Zc|apply Zg|apply Zn|apply Wp.step);case h=>((try simp(disch:=omega)only[↓reduceIte,Za,↓X0,X1,Nat.reduceEqDiff,Int.reduceEq,Nat.reduceAdd,Nat.reduceSub,X2,Zi,Nat.reduceLeDiff,hco,f4,bld_3n,hb5,ldA_r,rowAgg_row]);with_reducible first|done|exact rfl|exact bT|exact bF))|apply Ze|apply Zh|with_reducible apply Zl|simp only[↓X3]|with_reducible apply Zb))
   exact Wp.pure ⟨by simp only; omega,(by intros;first|with_reducible rfl|simp(disch:=omega)only[Zi,Zj,s5,hkn]),CompRes.none (by simp only; omega) 3 0⟩
 ·simp(disch:=omega)only[↓reduceIte,Za,↓X0,X1,Nat.reduceEqDiff,Int.reduceEq,Nat.reduceAdd,Nat.reduceSub,f4,e5,e6,ldA_r,f3,rowAgg_row,List.length_cons,List.length_nil,Nat.reduceLeDiff,List.drop_zero,List.take_succ_cons,List.take_zero]
  by_cases h3:S.how=3
  ·rw [hthree h3]
   rw [h3,if_pos rfl]
   exact Wp.pure ⟨by simp only; omega,hkn,CompRes.none (by simp only; omega) 3 0⟩
  ·rw [herr h0 h3,if_neg h3]
   exact Wp.pure ⟨by simp only; omega,hkn,CompRes.none (by simp only; omega) _ _⟩
end Go.Proofs.Ytbgkimkbngocjaa.Ax
set_option linter.unusedVariables false
set_option linter.unusedSimpArgs false
set_option maxHeartbeats 8000000
namespace Go.Proofs.Ytbgkimkbngocjaa.Ax
open Go
theorem l110 {v:Value} {p:List Nd} (hp:PoolOk p) {l:List Int} (hr:inPool p l) (hl:l.length≤1048576) {c il0 idd0 b n0:Nat} {H0:Hp} {w:Value} (hD0:DC c il0 idd0 n0 H0 v nilS nilS ⟨0,[],[]⟩) (hv:LO eNode c il0 n0 H0 v p) (hvd:Off idd0 v) (hw:LO eInt c il0 n0 H0 w l) (hwd:Off idd0 w) (hb:b < n0) (hbc:b≠c) (hbi:b≠il0) (hbd:b≠idd0):∀ t n1,n0≤n1→t 4=ptr b 0→t 8=ptr c 0→t 9=.int .i64 0→t 1=w→H0 b=some (.row [nilS,nilS,nilS] 0 true) →
  Wp (Ya (S10L1 (Call Try.prog) Ya) t H0 n1) (fun o=>n0≤o.n∧(∀ i,i < n0→i≠c→i≠il0→i≠idd0→i≠b→o.H i=H0 i)∧o.H b=some (.row [nilS,nilS,nilS] 0 true)∧o.t 4=ptr b 0∧((o.e=.exit 2∧o.t 1=w∧o.t 8=ptr c 0∧(cAll p l 0 ⟨0,[],[]⟩).1.how=0∧∃ ul il ud idd,(il=il0∨n0≤il)∧(idd=idd0∨n0≤idd)∧DC c il idd o.n o.H v ul ud (cAll p l 0 ⟨0,[],[]⟩).1)∨(o.e=.ret∧(cAll p l 0 ⟨0,[],[]⟩).1.how≠0∧o.t 5=.int .i64 (cAll p l 0 ⟨0,[],[]⟩).1.how∧o.t 6=.int .i64 (if (cAll p l 0 ⟨0,[],[]⟩).1.how=3 then 0 else (cAll p l 0 ⟨0,[],[]⟩).2)))):=by
 intro t n1 hn1 e4 e8 e9 e1 hb0
 have hcn0:=hD0.cc.cn
 have hil0:=hD0.cc.iln
 have hdn0:=hD0.dn
 refine Ye (fun d T H' n'=>∃ (j:Nat) (ul:Value) (il:Nat) (ud:Value) (idd:Nat) (s:CS),j+d=l.length∧n0≤n'∧(∀ i,i < n0→i≠c→i≠il0→i≠idd0→H' i=H0 i)∧(il=il0∨n0≤il)∧(idd=idd0∨n0≤idd)∧DC c il idd n' H' v ul ud s∧s.how=0∧s.D.length≤j∧cAll p l 0 ⟨0,[],[]⟩=cAll p (l.drop j) j s∧T 1=w∧T 4=ptr b 0∧T 8=ptr c 0∧T 9=.int .i64 j) _ ?_ l.length t H0 n1 ⟨0,nilS,il0,nilS,idd0,⟨0,[],[]⟩,by omega,by omega,fun _ _ _ _ _=>rfl,.inl rfl,.inl rfl,hD0.mv (by omega) rfl rfl rfl,rfl,by simp,by simp,e1,e4,e8,e9⟩
 rintro d T H' n' ⟨j,ul,il,ud,idd,s,hj,hn,s1,hil,hidd,hDC,h0,hDl,hall,e1,e4,e8,e9⟩
 unfold S10L1
 have hbH:H' b=some (.row [nilS,nilS,nilS] 0 true):=by rw [s1 b hb hbc hbi hbd]; exact hb0
 have hkeep:∀ {α:Type} {E:Enc α} {w:Value} {l:List α},LO E c il0 n0 H0 w l→Off idd0 w→LO E c il n' H' w l∧Off idd w:=by
  intro α E w l hL hO
  refine ⟨⟨(hL.li.keep' fun i o a k e=>s1 i (hL.li.2 i o a k e) (hL.oc i o a k e) (hL.oi i o a k e) (hO i o a k e)).up hn,hL.oc,?_⟩,?_⟩
  ·rcases hil with rfl | h
   ·exact hL.oi
   ·exact hL.li.off h
  ·rcases hidd with rfl | h
   ·exact hO
   ·exact hL.li.off h
 obtain ⟨hw',hwd'⟩:=hkeep hw hwd
 obtain ⟨hv',hvd'⟩:=hkeep hv hvd
 have hcn:=hDC.cc.cn
 have hiln:=hDC.cc.iln
 have hdn:=hDC.dn
 have hlen:=hw'.li.len
 by_cases hlt:(j:Int) < l.length
 ·have hlt':j < l.length:=by omega
  have g:=hw'.li.iAll (i:=(j:Int)) (by omega) hlt
  have hmem:=gi_mem (l:=l) (i:=(j:Int)) (by omega) hlt
  have hrj:=hr _ hmem
  have hws:=wj (j:=j) (len:=l.length) hlt' (by omega)
  have hdr:l.drop j=gi l (j:Int) :: l.drop (j+1):=by rw [gi_nat hlt']; exact List.drop_eq_getElem_cons hlt'
  rw [hdr,cAll] at hall
  ((repeat(first|((with_reducible first|apply Wp.gs|apply Wp.cs|apply Zd|apply Zf|apply Zc|apply Zg|apply Zn|apply Wp.step);case h=>((try simp(disch:=omega)only[↓reduceIte,Za,↓X0,X1,Nat.reduceEqDiff,Int.reduceEq,Nat.reduceAdd,Nat.reduceSub,e1,e8,e9,hlen,hlt,g]);with_reducible first|done|exact rfl|exact bT|exact bF))|apply Ze|apply Zh|with_reducible apply Zl|simp only[↓X3]|with_reducible apply Zb));try(with_reducible apply Zm;case h=>((try simp(disch:=omega)only[X1,Nat.reduceEqDiff,e1,e8,e9,hlen,hlt,g]);with_reducible exact rfl)))
  refine Wp.rtm3 (k51 hp (Goes.expr p p.length) (fun y y0 y1=>k124 hp p.length y y0 y1 y1) (hDC.mv (by omega) rfl rfl rfl) h0 (hv'.mv (by omega) (fun _ _ _ _=>rfl) (.inl rfl)) hvd' _ hrj.1 hrj.2 (by omega)) ?_
  rintro H2 n2 q2 s2 ⟨A,wA,ul2,il2,ud2,idd2,i2,j2,h2⟩
  have hDt:=cTop_D (Goes.expr p p.length) p (gi l (j:Int)) s
  generalize hS:cTop (cExpr p p.length) p (gi l (j:Int)) s=S at *
  have hc2:=h2.cc.hc
  have hr2:=h2.cc.hr
  rw [wA.1] at hc2 hr2
  have hb2:H2 b=some (.row [nilS,nilS,nilS] 0 true):=by rw [s2 b (by omega) hbc (by omega) (by omega)]; exact hbH
  have hk2:∀ i,i < n0→i≠c→i≠il0→i≠idd0→H2 i=H0 i:=fun i a b c d=>by rw [s2 i (by omega) b (by omega) (by omega)]; exact s1 i a b c d
  by_cases hS0:S.how=0
  ·rw [if_pos hS0] at hall
   have hA:=wA.2 hS0
   subst hA
   (repeat(first|((with_reducible first|apply Wp.gs|apply Wp.cs|apply Zd|apply Zf|apply Zc|apply Zg|apply Zn|apply Wp.step);case h=>((try simp(disch:=omega)only[↓reduceIte,Za,↓X0,X1,Nat.reduceEqDiff,Int.reduceEq,Nat.reduceAdd,Nat.reduceSub,X2,Zi,Nat.reduceLeDiff,e1,e4,e8,e9,hc2,hS0,show ¬ (0:Int)=3 by decide,hws]);with_reducible first|done|exact rfl|exact bT|exact bF))|apply Ze|apply Zh|with_reducible apply Zl|simp only[↓X3]|with_reducible apply Zb))
   exact Wp.pure (Nxt.go (d - 1) (by omega) ⟨j+1,ul2,il2,ud2,idd2,A,by omega,by omega,hk2,by omega,by omega,h2.mv (by omega) rfl rfl rfl,hS0,by omega,hall,by simp [Zk,e1],by simp [Zk,e4],by simp [Zk,e8],by simp [Zk]⟩)
  ·rw [if_neg hS0] at hall
   have hst:st true 3 (ptr b 0) (.agg ⟨[nilS,nilS,nilS]⟩) H2=some (H2.set b (some (.row [nilS,nilS,nilS] 0 true))):=by
    rw [st_agg,stv_box hb2]; rfl
   have hfr:∀ i,i < n0→i≠c→i≠il0→i≠idd0→i≠b→(H2.set b (some (.row [nilS,nilS,nilS] 0 true))) i=H0 i:=fun i a b c d e=>by rw [Zi _ _ e]; exact hk2 i a b c d
   have hcb:(H2.set b (some (.row [nilS,nilS,nilS] 0 true))) c=some (.row [v,ul2,ud2,.int .i64 S.how] 0 true):=(Zi _ _ (Ne.symm hbc)).trans hc2
   by_cases hS3:S.how=3
   ·(repeat(first|((with_reducible first|apply Wp.gs|apply Wp.cs|apply Zd|apply Zf|apply Zc|apply Zg|apply Zn|apply Wp.step);case h=>((try simp(disch:=omega)only[↓reduceIte,Za,↓X0,X1,Nat.reduceEqDiff,Int.reduceEq,Nat.reduceAdd,Nat.reduceSub,X2,Zi,Nat.reduceLeDiff,e1,e4,e8,e9,hc2,hS3,bld_3n,hst]);with_reducible first|done|exact rfl|exact bT|exact bF))|apply Ze|apply Zh|with_reducible apply Zl|simp only[↓X3]|with_reducible apply Zb))
    exact Wp.pure (Nxt.ret ⟨by simp only; omega,hfr,Zj _ _ _,by simp [Zk,e4],.inr ⟨rfl,by rw [hall]; exact hS0,by rw [hall]; simp [Zk,hS3],by rw [hall]; simp [Zk,hS3]⟩⟩)
   ·(repeat(first|((with_reducible first|apply Wp.gs|apply Wp.cs|apply Zd|apply Zf|apply Zc|apply Zg|apply Zn|apply Wp.step);case h=>((try simp(disch:=omega)only[↓reduceIte,Za,↓X0,X1,Nat.reduceEqDiff,Int.reduceEq,Nat.reduceAdd,Nat.reduceSub,X2,Zi,Nat.reduceLeDiff,e1,e4,e8,e9,hc2,hS0,hS3,bld_3n,hst,hcb]);with_reducible first|done|exact rfl|exact bT|exact bF))|apply Ze|apply Zh|with_reducible apply Zl|simp only[↓X3]|with_reducible apply Zb))
    exact Wp.pure (Nxt.ret ⟨by simp only; omega,hfr,Zj _ _ _,by simp [Zk,e4],.inr ⟨rfl,by rw [hall]; exact hS0,by rw [hall]; simp [Zk],by rw [hall]; simp [Zk,hS3,e9]⟩⟩)
 ·((repeat(first|((with_reducible first|apply Wp.gs|apply Wp.cs|apply Zd|apply Zf|apply Zc|apply Zg|apply Zn|apply Wp.step);case h=>((try simp(disch:=omega)only[↓reduceIte,Za,↓X0,X1,Nat.reduceEqDiff,Int.reduceEq,Nat.reduceAdd,Nat.reduceSub,e1,e9,hlen,hlt]);with_reducible first|done|exact rfl|exact bT|exact bF))|apply Ze|apply Zh|with_reducible apply Zl|simp only[↓X3]|with_reducible apply Zb));try(with_reducible apply Zm;case h=>((try simp(disch:=omega)only[X1,Nat.reduceEqDiff,e1,e9,hlen,hlt]);with_reducible exact rfl)))
  rw [List.drop_eq_nil_of_le (by omega),cAll] at hall
  exact Wp.pure (Nxt.exit ⟨by simp only; omega,fun i a b c d _=>s1 i a b c d,hbH,by simp [Zk,e4],.inl ⟨rfl,by simp [Zk,e1],by simp [Zk,e8],by rw [hall]; exact h0,ul,il,ud,idd,hil,hidd,by rw [hall]; exact hDC.mv (by simp only; omega) rfl rfl rfl⟩⟩)
theorem bld_41 (u:Value):bld [nilS,nilS,nilS,.int .i64 0] [(0,1,.agg ⟨[u]⟩)]=some (.agg ⟨[u,nilS,nilS,.int .i64 0]⟩):=rfl
theorem k10 {n:Nat} {H:Hp} {v w:Value} {p:List Nd} {l:List Int} (hv:Li eNode n H v p) (hs:∀ x∈p,x.s.size≤1048576) (hpl:p.length≤1048576) (hw:Li eInt n H w l) (hl:l.length≤1048576):RtN Try.prog 10 [.agg ⟨[v]⟩,w] H n (fun r H' n'=>CompRes n n' H' r (compAns p l)):=by
 apply RtN.mk
 rw [c10]; unfold S10
 ((repeat(first|((with_reducible first|apply Wp.gs|apply Wp.cs|apply Zd|apply Zf|apply Zc|apply Zg|apply Zn|apply Wp.step);case h=>((try simp(disch:=omega)only[↓reduceIte,Za,↓X0,X1,Nat.reduceEqDiff,Int.reduceEq,Nat.reduceAdd,Nat.reduceSub,X2,Zi,Nat.reduceLeDiff]);with_reducible first|done|exact rfl|exact bT|exact bF))|apply Ze|apply Zh|with_reducible apply Zl|simp only[↓X3]|with_reducible apply Zb));try(with_reducible apply Zm;case h=>((try simp(disch:=omega)only[X1,Nat.reduceEqDiff]);with_reducible exact rfl)))
 refine Wp.rt (k48 (hv.mv (by omega) (by intros;first|with_reducible rfl|simp(disch:=omega)only[Zi,Zj])) hs hpl) ?_
 intro H1 n1 q1 s1
 by_cases hp:PoolOk p
 case neg =>
  (repeat(first|((with_reducible first|apply Wp.gs|apply Wp.cs|apply Zd|apply Zf|apply Zc|apply Zg|apply Zn|apply Wp.step);case h=>((try simp(disch:=omega)only[↓reduceIte,Za,↓X0,X1,Nat.reduceEqDiff,Int.reduceEq,Nat.reduceAdd,Nat.reduceSub,X2,Zi,Nat.reduceLeDiff,hp,s1,bld_3n,ldA_r,rowAgg_row]);with_reducible first|done|exact rfl|exact bT|exact bF))|apply Ze|apply Zh|with_reducible apply Zl|simp only[↓X3]|with_reducible apply Zb))
  exact Wp.pure ⟨by simp only; omega,(by intros;first|with_reducible rfl|simp(disch:=omega)only[Zi,Zj,s1]),by rw [compAns_bad (fun h=>hp h.1)]; exact CompRes.none (by simp only; omega) 3 0⟩
 have hp2:=hp.2
 ((repeat(first|((with_reducible first|apply Wp.gs|apply Wp.cs|apply Zd|apply Zf|apply Zc|apply Zg|apply Zn|apply Wp.step);case h=>((try simp(disch:=omega)only[↓reduceIte,Za,↓X0,X1,Nat.reduceEqDiff,Int.reduceEq,Nat.reduceAdd,Nat.reduceSub,X2,Zi,Nat.reduceLeDiff,hp,s1]);with_reducible first|done|exact rfl|exact bT|exact bF))|apply Ze|apply Zh|with_reducible apply Zl|simp only[↓X3]|with_reducible apply Zb));try(with_reducible apply Zm;case h=>((try simp(disch:=omega)only[X1,Nat.reduceEqDiff,hp,s1]);with_reducible exact rfl)))
 have hb1:H1 (n+1)=some (.row [nilS,nilS,nilS] 0 true):=by simp (disch:=omega) only [s1,Zj]
 have hp1:H1 n=some (.row [v] 0 true):=by simp (disch:=omega) only [s1,Zi,Zj]
 have hk1:∀ i,i < n→H1 i=H i:=(by intros;first|with_reducible rfl|simp(disch:=omega)only[Zi,Zj,s1])
 refine Wp.bind (Ye (fun d T H' n'=>∃ j:Nat,j+d=l.length∧n1+1≤n'∧(∀ i,i < n1→H' i=H1 i)∧T 1=w∧T 2=ptr n 0∧T 4=ptr (n+1) 0∧T 7=.int .i64 j∧∀ y∈l.take j,0≤y∧y < (p.length:Int)) (fun o=>n1+1≤o.n∧o.t 4=ptr (n+1) 0∧((o.e=.exit 0∧(∀ i,i < n1→o.H i=H1 i)∧o.t 1=w∧o.t 2=ptr n 0∧inPool p l)∨(o.e=.ret∧(∀ i,i < n→o.H i=H i)∧o.H (n+1)=some (.row [nilS,nilS,nilS] 0 true)∧¬ inPool p l∧o.t 5=.int .i64 3∧o.t 6=.int .i64 0))) ?_ l.length _ _ _ ⟨0,by omega,by omega,fun _ _=>rfl,by simp [Zk,Zq],by simp [Zk],by simp [Zk],by simp [Zk],by simp⟩) ?_
 ·rintro d T H' n' ⟨j,hj,hn,t1,e1,e2,e4,e7,hin⟩
  unfold S10L0
  have hw':Li eInt n H' w l:=hw.mv (Nat.le_refl _) (fun i hi=>(t1 i (by omega)).trans (hk1 i hi))
  have hp':H' n=some (.row [v] 0 true):=(t1 n (by omega)).trans hp1
  have hb':H' (n+1)=some (.row [nilS,nilS,nilS] 0 true):=(t1 _ (by omega)).trans hb1
  have hlen:=hw'.len
  by_cases hlt:(j:Int) < l.length
  ·have hlt':j < l.length:=by omega
   have g:=hw'.iAll (i:=(j:Int)) (by omega) hlt
   have hws:=wj (j:=j) (len:=l.length) hlt' (by omega)
   ((repeat(first|((with_reducible first|apply Wp.gs|apply Wp.cs|apply Zd|apply Zf|apply Zc|apply Zg|apply Zn|apply Wp.step);case h=>((try simp(disch:=omega)only[↓reduceIte,Za,↓X0,X1,Nat.reduceEqDiff,Int.reduceEq,Nat.reduceAdd,Nat.reduceSub,X2,Zi,Nat.reduceLeDiff,e1,e2,e4,e7,hlen,hlt,hp',g]);with_reducible first|done|exact rfl|exact bT|exact bF))|apply Ze|apply Zh|with_reducible apply Zl|simp only[↓X3]|with_reducible apply Zb));try(with_reducible apply Zm;case h=>((try simp(disch:=omega)only[X1,Nat.reduceEqDiff,e1,e2,e4,e7,hlen,hlt,hp',g]);with_reducible exact rfl)))
   refine Wp.rt (k49 (hv.mv (by omega) (fun i hi=>(t1 i (by omega)).trans (hk1 i hi))) hpl _) ?_
   intro H2 n2 q2 t2
   have hb2:H2 (n+1)=some (.row [nilS,nilS,nilS] 0 true):=(t2 _ (by omega)).trans hb'
   by_cases hx:0≤gi l (j:Int)∧gi l (j:Int) < (p.length:Int)
   ·(repeat(first|((with_reducible first|apply Wp.gs|apply Wp.cs|apply Zd|apply Zf|apply Zc|apply Zg|apply Zn|apply Wp.step);case h=>((try simp(disch:=omega)only[↓reduceIte,Za,↓X0,X1,Nat.reduceEqDiff,Int.reduceEq,Nat.reduceAdd,Nat.reduceSub,X2,Zi,Nat.reduceLeDiff,hx.1,hx.2,e7,hws]);with_reducible first|done|exact rfl|exact bT|exact bF))|apply Ze|apply Zh|with_reducible apply Zl|simp only[↓X3]|with_reducible apply Zb))
    refine Wp.pure (Nxt.go (d - 1) (by omega) ⟨j+1,by omega,by omega,fun i hi=>(t2 i (by omega)).trans (t1 i hi),by simp [Zk,e1],by simp [Zk,e2],by simp [Zk,e4],by simp [Zk],fun y hy=>?_⟩)
    rcases mem_take_next hlt' hy with h | h
    ·exact hin y h
    ·rw [h]; exact hx
   ·have hst:st true 3 (ptr (n+1) 0) (.agg ⟨[nilS,nilS,nilS]⟩) H2=some (H2.set (n+1) (some (.row [nilS,nilS,nilS] 0 true))):=by
     rw [st_agg,stv_box hb2]; rfl
    (repeat(first|((with_reducible first|apply Wp.gs|apply Wp.cs|apply Zd|apply Zf|apply Zc|apply Zg|apply Zn|apply Wp.step);case h=>((try simp(disch:=omega)only[↓reduceIte,Za,↓X0,X1,Nat.reduceEqDiff,Int.reduceEq,Nat.reduceAdd,Nat.reduceSub,X2,Zi,Nat.reduceLeDiff,hx,bld_3n,e4,hst]);with_reducible first|done|exact rfl|exact bT|exact bF))|apply Ze|apply Zh|with_reducible apply Zl|simp only[↓X3]|with_reducible apply Zb))
    exact Wp.pure (Nxt.ret ⟨by simp only; omega,by simp [Zk,e4],.inr ⟨rfl,fun i hi=>by show (H2.set _ _) i=H i; rw [Zi _ _ (by omega),t2 i (by omega),t1 i (by omega)]; exact hk1 i hi,Zj _ _ _,fun h=>hx (h _ (gi_mem (by omega) hlt)),by simp [Zk],by simp [Zk]⟩⟩)
  ·((repeat(first|((with_reducible first|apply Wp.gs|apply Wp.cs|apply Zd|apply Zf|apply Zc|apply Zg|apply Zn|apply Wp.step);case h=>((try simp(disch:=omega)only[↓reduceIte,Za,↓X0,X1,Nat.reduceEqDiff,Int.reduceEq,Nat.reduceAdd,Nat.reduceSub,e1,e7,hlen,hlt]);with_reducible first|done|exact rfl|exact bT|exact bF))|apply Ze|apply Zh|with_reducible apply Zl|simp only[↓X3]|with_reducible apply Zb));try(with_reducible apply Zm;case h=>((try simp(disch:=omega)only[X1,Nat.reduceEqDiff,e1,e7,hlen,hlt]);with_reducible exact rfl)))
   rw [List.take_of_length_le (by omega)] at hin
   exact Wp.pure (Nxt.exit ⟨by simp only; omega,by simp [Zk,e4],.inl ⟨rfl,t1,by simp [Zk,e1],by simp [Zk,e2],hin⟩⟩)
 rintro ⟨oe,ot,oH,on⟩ ⟨f1,f4,f5⟩
 simp only at f1 f4 f5
 rcases f5 with ⟨rfl,f5,e1,e2,hr⟩ | ⟨rfl,f5,f6,hr,e5,e6⟩
 case inr =>
  simp(disch:=omega)only[↓reduceIte,Za,↓X0,X1,Nat.reduceEqDiff,Int.reduceEq,Nat.reduceAdd,Nat.reduceSub,f4,e5,e6,ldA_r,f6,rowAgg_row,List.length_cons,List.length_nil,Nat.reduceLeDiff,List.drop_zero,List.take_succ_cons,List.take_zero]
  exact Wp.pure ⟨by simp only; omega,f5,by rw [compAns_bad (fun h=>hr h.2)]; exact CompRes.none (by simp only; omega) 3 0⟩
 have hpo:oH n=some (.row [v] 0 true):=(f5 n (by omega)).trans hp1
 have hbo:oH (n+1)=some (.row [nilS,nilS,nilS] 0 true):=(f5 _ (by omega)).trans hb1
 have hko:∀ i,i < n→oH i=H i:=fun i hi=>(f5 i (by omega)).trans (hk1 i hi)
 ((repeat(first|((with_reducible first|apply Wp.gs|apply Wp.cs|apply Zd|apply Zf|apply Zc|apply Zg|apply Zn|apply Wp.step);case h=>((try simp(disch:=omega)only[↓reduceIte,Za,↓X0,X1,Nat.reduceEqDiff,Int.reduceEq,Nat.reduceAdd,Nat.reduceSub,X2,Zi,Nat.reduceLeDiff,e2,hpo]);with_reducible first|done|exact rfl|exact bT|exact bF))|apply Ze|apply Zh|with_reducible apply Zl|simp only[↓X3]|with_reducible apply Zb));try(with_reducible apply Zm;case h=>((try simp(disch:=omega)only[X1,Nat.reduceEqDiff,e2,hpo]);with_reducible exact rfl)))
 refine Wp.rtn (k50 (hv.mv (by omega) hko) (by omega)) ?_
 rintro _ H3 n3 q3 s3 ⟨u,rfl,id,i1,i2,i3⟩
 ((repeat(first|((with_reducible first|apply Wp.gs|apply Wp.cs|apply Zd|apply Zf|apply Zc|apply Zg|apply Zn|apply Wp.step);case h=>((try simp(disch:=omega)only[↓reduceIte,Za,↓X0,X1,Nat.reduceEqDiff,Int.reduceEq,Nat.reduceAdd,Nat.reduceSub,X2,Zi,Nat.reduceLeDiff,bld_41]);with_reducible first|done|exact rfl|exact bT|exact bF))|apply Ze|apply Zh|with_reducible apply Zl|simp only[↓X3]|with_reducible apply Zb));try(with_reducible apply Zm;case h=>((try simp(disch:=omega)only[X1,Nat.reduceEqDiff,bld_41]);with_reducible exact rfl)))
 generalize hG:H3.set (on+3) _=G
 have hGs:∀ i,i≠on+3→G i=H3 i:=fun i hi=>by rw [← hG]; exact Zi _ _ hi
 have hk:∀ i,i < on+3→G i=oH i:=fun i hi=>by rw [hGs i (by omega)]; exact s3 i (by omega)
 have hid:At eNode id G u p:=i3.mv (hGs id (by omega))
 have hb:G (n+1)=some (.row [nilS,nilS,nilS] 0 true):=by rw [hk _ (by omega)]; exact hbo
 have hDC:DC (on+3) (on+4) (on+2) (n3+1) G u nilS nilS ⟨0,[],[]⟩:=⟨⟨by rw [← hG]; exact Zj _ _ _,At.nil,by omega,by omega,by omega,by simp,⟨Int.le_refl 0,by show (0:Int)≤3; decide⟩⟩,At.nil,by omega,by omega,by omega⟩
 have hwG:Li eInt n G w l:=hw.mv (Nat.le_refl _) (fun i hi=>by rw [hk i (by omega)]; exact hko i hi)
 refine Wp.bind (l110 hp hr hl (b:=n+1) (w:=w) hDC (hid.lo (by omega) (by omega) (by omega)) (fun i o a k e=>by rcases hid with ⟨h,_⟩ | ⟨h,_⟩ <;> rw [h] at e <;> cases e; omega) ⟨hwG.mv (by omega) (fun _ _=>rfl),hwG.off (by omega),hwG.off (by omega)⟩ (hwG.off (by omega)) (by omega) (by omega) (by omega) (by omega) _ _ (Nat.le_refl _) (by simp [Zk,f4]) (by simp [Zk]) (by simp [Zk]) (by simp [Zk,e1]) hb) ?_
 rintro ⟨pe,pt,pH,pn⟩ ⟨f1',f2,f3,f4',f5'⟩
 simp only at f1' f2 f3 f4' f5'
 have hkn:∀ i,i < n→pH i=H i:=fun i hi=>by
  rw [f2 i (by omega) (by omega) (by omega) (by omega) (by omega),hk i (by omega)]; exact hko i hi
 have hD:=cAll_D p l 0 ⟨0,[],[]⟩
 have hSm:=cAll_small hp l 0 ⟨0,[],[]⟩ hr ⟨fun x hx=>by simp at hx,fun x hx=>by simp at hx⟩
 have hyes:=fun h0 h3=>compAns_y (p:=p) (l:=l) ⟨hp,hr⟩ h0 h3
 have hno:=fun h0 h3=>compAns_n (p:=p) (l:=l) ⟨hp,hr⟩ h0 h3
 have hthree:=fun h0=>compAns_3 (p:=p) (l:=l) ⟨hp,hr⟩ h0
 have herr:=fun h0 h3=>compAns_e (p:=p) (l:=l) ⟨hp,hr⟩ h0 h3
 generalize hQ:cAll p l 0 ⟨0,[],[]⟩=Q at *
 obtain ⟨S,at_⟩:=Q
 simp only at f5' hD hSm hyes hno hthree herr
 rcases f5' with ⟨rfl,e1',e8,h0,ul,il,ud,idd,j1,j2,hdc⟩ | ⟨rfl,h0,e5,e6⟩
 ·have hc:=hdc.cc.hc
  have hcn:=hdc.cc.cn
  have hil:=hdc.cc.iln
  have hdn:=hdc.dn
  have hpid:At eNode id pH u p:=hid.mv (f2 id (by omega) (by omega) (by omega) (by omega) (by omega))
  have hLl:=hdc.cc.len
  have v1:=vcells1 hdc.cc.al.cell
  have v2:=vcells1 hdc.ad.cell
  ((repeat(first|((with_reducible first|apply Wp.gs|apply Wp.cs|apply Zd|apply Zf|apply Zc|apply Zg|apply Zn|apply Wp.step);case h=>((try simp(disch:=omega)only[↓reduceIte,Za,↓X0,X1,Nat.reduceEqDiff,Int.reduceEq,Nat.reduceAdd,Nat.reduceSub,X2,Zi,Nat.reduceLeDiff,e8,hc,v1,v2]);with_reducible first|done|exact rfl|exact bT|exact bF))|apply Ze|apply Zh|with_reducible apply Zl|simp only[↓X3]|with_reducible apply Zb));try(with_reducible apply Zm;case h=>((try simp(disch:=omega)only[X1,Nat.reduceEqDiff,e8,hc,v1,v2]);with_reducible exact rfl)))
  refine Wp.rt (k14 ((hpid.lst (n:=pn) (by omega)).mv (by omega) (by intros;first|with_reducible rfl|simp(disch:=omega)only[Zi,Zj])) ((hdc.cc.al.lst hil).mv (by omega) (by intros;first|with_reducible rfl|simp(disch:=omega)only[Zi,Zj])) ((hdc.ad.lst hdn).mv (by omega) (by intros;first|with_reducible rfl|simp(disch:=omega)only[Zi,Zj])) hs hSm.1 hSm.2 hpl (by omega) (by simp at hD; omega)) ?_
  intro H5 n5 q5 s5
  have hb5:H5 (n+1)=some (.row [nilS,nilS,nilS] 0 true):=by rw [s5 _ (by omega),Zi _ _ (by omega)]; exact f3
  have hx5:H5 (pn+13)=some (.row [u,ul,ud] 0 true):=by rw [s5 _ (by omega)]; exact Zj _ _ _
  have hk5:∀ i,i < pn→H5 i=pH i:=fun i hi=>(s5 i (by omega)).trans (Zi _ _ (by omega))
  by_cases hco:CodeOk p S.L S.D
  ·rw [hyes h0 hco]
   have hst:st true 3 (ptr (n+1) 0) (.agg ⟨[u,ul,ud]⟩) H5=some (H5.set (n+1) (some (.row [u,ul,ud] 0 true))):=by
    rw [st_agg,stv_box hb5]; rfl
   (repeat(first|((with_reducible first|apply Wp.gs|apply Wp.cs|apply Zd|apply Zf|apply Zc|apply Zg|apply Zn|apply Wp.step);case h=>((try simp(disch:=omega)only[↓reduceIte,Za,↓X0,X1,Nat.reduceEqDiff,Int.reduceEq,Nat.reduceAdd,Nat.reduceSub,X2,Zi,Nat.reduceLeDiff,hco,e1',f4',hx5,hst,hwG.len]);with_reducible first|done|exact rfl|exact bT|exact bF))|apply Ze|apply Zh|with_reducible apply Zl|simp only[↓X3]|with_reducible apply Zb))
   refine Wp.pure ⟨by simp only; omega,(by intros;first|with_reducible rfl|simp(disch:=omega)only[Zi,Zj,hk5,hkn]),u,ul,ud,rfl,id,il,idd,?_,?_,?_,by omega,by simp only; omega,?_,by simp only; omega,?_,by simp only; omega,?_,?_,?_⟩
   ·omega
   ·omega
   ·exact Ne.symm hdc.ni
   ·omega
   ·omega
   ·exact hpid.mv ((Zi _ _ (by omega)).trans (hk5 _ (by omega)))
   ·exact hdc.cc.al.mv ((Zi _ _ (by omega)).trans (hk5 _ (by omega)))
   ·exact hdc.ad.mv ((Zi _ _ (by omega)).trans (hk5 _ (by omega)))
  ·rw [hno h0 hco]
   (repeat(first|((with_reducible first|apply Wp.gs|apply Wp.cs|apply Zd|apply Zf|apply Zc|apply Zg|apply Zn|apply Wp.step);case h=>((try simp(disch:=omega)only[↓reduceIte,Za,↓X0,X1,Nat.reduceEqDiff,Int.reduceEq,Nat.reduceAdd,Nat.reduceSub,X2,Zi,Nat.reduceLeDiff,hco,f4',bld_3n,hb5,ldA_r,rowAgg_row]);with_reducible first|done|exact rfl|exact bT|exact bF))|apply Ze|apply Zh|with_reducible apply Zl|simp only[↓X3]|with_reducible apply Zb))
   exact Wp.pure ⟨by simp only; omega,(by intros;first|with_reducible rfl|simp(disch:=omega)only[Zi,Zj,hk5,hkn]),CompRes.none (by simp only; omega) 3 0⟩
 ·simp(disch:=omega)only[↓reduceIte,Za,↓X0,X1,Nat.reduceEqDiff,Int.reduceEq,Nat.reduceAdd,Nat.reduceSub,f4',e5,e6,ldA_r,f3,rowAgg_row,List.length_cons,List.length_nil,Nat.reduceLeDiff,List.drop_zero,List.take_succ_cons,List.take_zero]
  by_cases h3:S.how=3
  ·rw [hthree h3]
   rw [h3,if_pos rfl]
   exact Wp.pure ⟨by simp only; omega,hkn,CompRes.none (by simp only; omega) 3 0⟩
  ·rw [herr h0 h3,if_neg h3]
   exact Wp.pure ⟨by simp only; omega,hkn,CompRes.none (by simp only; omega) _ _⟩
end Go.Proofs.Ytbgkimkbngocjaa.Ax
set_option linter.unusedVariables false
set_option linter.unusedSimpArgs false
set_option maxHeartbeats 8000000
namespace Go.Proofs.Ytbgkimkbngocjaa.Ax
open Go
theorem law3 {v:Value} {code:List Int} {H:Hp} {n:Nat} (hv:Li eByte n H v code) (hb:∀ x∈code,0≤x∧x≤255):∃ H' n',Call Try.prog 3 [v] H n=some (.bool true,H',n'):=by
 rw [c3]; unfold S3
 apply Wp.val
 by_cases hbig:1048576 < code.length
 ·(repeat(first|((with_reducible first|apply Wp.gs|apply Wp.cs|apply Zd|apply Zf|apply Zc|apply Zg|apply Zn|apply Wp.step);case h=>((try simp(disch:=omega)only[↓reduceIte,Za,↓X0,X1,Nat.reduceEqDiff,Int.reduceEq,Nat.reduceAdd,Nat.reduceSub,Zq,k7 (hv.up (show n≤n+3 by omega)),hbig]);with_reducible first|done|exact rfl|exact bT|exact bF))|apply Ze|apply Zh|with_reducible apply Zl|simp only[↓X3]|simp(disch:=decide)only[asks_nil,asks_in,asks_out,askB_nil,askB_in,askB_out]|with_reducible apply Zb))
  exact Wp.pure rfl
 have hl:code.length≤1048576:=by omega
 ((repeat(first|((with_reducible first|apply Wp.gs|apply Wp.cs|apply Zd|apply Zf|apply Zc|apply Zg|apply Zn|apply Wp.step);case h=>((try simp(disch:=omega)only[↓reduceIte,Za,↓X0,X1,Nat.reduceEqDiff,Int.reduceEq,Nat.reduceAdd,Nat.reduceSub,Zq,k7 (hv.up (show n≤n+3 by omega)),hbig]);with_reducible first|done|exact rfl|exact bT|exact bF))|apply Ze|apply Zh|with_reducible apply Zl|simp only[↓X3]|simp(disch:=decide)only[asks_nil,asks_in,asks_out,askB_nil,askB_in,askB_out]|with_reducible apply Zb));try(with_reducible apply Zm;case h=>((try simp(disch:=omega)only[X1,Nat.reduceEqDiff,Zq,k7 (hv.up (show n≤n+3 by omega)),hbig]);with_reducible exact rfl)))
 refine Wp.rtn (k8 (hv.mv (by omega) (by intros;first|with_reducible rfl|simp(disch:=omega)only[Zi,Zj])) hb hl) ?_
 rintro _ H1 n1 q1 s1 ⟨u,l,w,xs,rfl,hz,hll,hxl,i,j,i1,i2,j1,j2,hij,hu,hw⟩
 ((repeat(first|((with_reducible first|apply Wp.gs|apply Wp.cs|apply Zd|apply Zf|apply Zc|apply Zg|apply Zn|apply Wp.step);case h=>((try simp(disch:=omega)only[↓reduceIte,Za,↓X0,X1,Nat.reduceEqDiff,Int.reduceEq,Nat.reduceAdd,Nat.reduceSub,X2,Zi,Nat.reduceLeDiff,s1]);with_reducible first|done|exact rfl|exact bT|exact bF))|apply Ze|apply Zh|with_reducible apply Zl|simp only[↓X3]|simp(disch:=decide)only[asks_nil,asks_in,asks_out,askB_nil,askB_in,askB_out]|with_reducible apply Zb));try(with_reducible apply Zm;case h=>((try simp(disch:=omega)only[X1,Nat.reduceEqDiff,s1]);with_reducible exact rfl)))
 refine Wp.rtn (k9 ((hu.mv (by intros;first|with_reducible rfl|simp(disch:=omega)only[Zi,Zj])).lst (by omega)) hz hll ((hw.mv (by intros;first|with_reducible rfl|simp(disch:=omega)only[Zi,Zj])).lst (by omega)) hxl) ?_
 rintro _ H2 n2 q2 s2 ⟨a,al,ad,rfl,p1,p2,p3,e1,e2,e3,b1,b2,b3,b4,b5,b6,o1,o2,o3⟩
 ((repeat(first|((with_reducible first|apply Wp.gs|apply Wp.cs|apply Zd|apply Zf|apply Zc|apply Zg|apply Zn|apply Wp.step);case h=>((try simp(disch:=omega)only[↓reduceIte,Za,↓X0,X1,Nat.reduceEqDiff,Int.reduceEq,Nat.reduceAdd,Nat.reduceSub,X2,Zi,Nat.reduceLeDiff,s2,s1]);with_reducible first|done|exact rfl|exact bT|exact bF))|apply Ze|apply Zh|with_reducible apply Zl|simp only[↓X3]|simp(disch:=decide)only[asks_nil,asks_in,asks_out,askB_nil,askB_in,askB_out]|with_reducible apply Zb));try(with_reducible apply Zm;case h=>((try simp(disch:=omega)only[X1,Nat.reduceEqDiff,s2,s1]);with_reducible exact rfl)))
 refine Wp.rtn (k10 ((hu.mv (by intros;first|with_reducible rfl|simp(disch:=omega)only[Zi,Zj,s2])).lst (by omega)) hz hll ((hw.mv (by intros;first|with_reducible rfl|simp(disch:=omega)only[Zi,Zj,s2])).lst (by omega)) hxl) ?_
 rintro _ H3 n3 q3 s3 ⟨b,bl,bd,rfl,-⟩
 have hc3:H3 (n1+7)=some (.row [a,al,ad] 0 true):=by simp (disch:=omega) only [s3,Zj]
 have w3:=((hw.mv (H':=H3) (by intros;first|with_reducible rfl|simp(disch:=omega)only[Zi,Zj,s3,s2])).lst (show j < n3 by omega)).len
 have l3:=((o2.mv (H':=H3) (by intros;first|with_reducible rfl|simp(disch:=omega)only[Zi,Zj,s3])).lst (show p2 < n3 by omega)).len
 have d3:=((o3.mv (H':=H3) (by intros;first|with_reducible rfl|simp(disch:=omega)only[Zi,Zj,s3])).lst (show p3 < n3 by omega)).len
 rcases compAns_two l xs with ⟨h1,h2,h3,h4,h5⟩ | ⟨h1,h2,h3,h4,h5⟩
 ·have l3:Yc false al=some (.int .i64 0):=by rw [l3,h2]; rfl
  have d3:Yc false ad=some (.int .i64 0):=by rw [d3,h3]; rfl
  by_cases h6:(compAns l xs).at_ < (xs.length:Int)
  ·(repeat(first|((with_reducible first|apply Wp.gs|apply Wp.cs|apply Zd|apply Zf|apply Zc|apply Zg|apply Zn|apply Wp.step);case h=>((try simp(disch:=omega)only[↓reduceIte,Za,↓X0,X1,Nat.reduceEqDiff,Int.reduceEq,Nat.reduceAdd,Nat.reduceSub,X2,Zi,Nat.reduceLeDiff,s3,s2,s1,h1,eq_self.{1},hc3,l3,d3,h4,w3,h6]);with_reducible first|done|exact rfl|exact bT|exact bF))|apply Ze|apply Zh|with_reducible apply Zl|simp only[↓X3]|simp(disch:=decide)only[asks_nil,asks_in,asks_out,askB_nil,askB_in,askB_out]|with_reducible apply Zb))
   exact Wp.pure rfl
  ·have h5:(compAns l xs).at_=0:=by omega
   rw [h5] at h6
   (repeat(first|((with_reducible first|apply Wp.gs|apply Wp.cs|apply Zd|apply Zf|apply Zc|apply Zg|apply Zn|apply Wp.step);case h=>((try simp(disch:=omega)only[↓reduceIte,Za,↓X0,X1,Nat.reduceEqDiff,Int.reduceEq,Nat.reduceAdd,Nat.reduceSub,X2,Zi,Nat.reduceLeDiff,s3,s2,s1,h1,eq_self.{1},hc3,l3,d3,h5,w3,h6,show (0:Int)≤0 by decide]);with_reducible first|done|exact rfl|exact bT|exact bF))|apply Ze|apply Zh|with_reducible apply Zl|simp only[↓X3]|simp(disch:=decide)only[asks_nil,asks_in,asks_out,askB_nil,askB_in,askB_out]|with_reducible apply Zb))
   exact Wp.pure rfl
 ·((repeat(first|((with_reducible first|apply Wp.gs|apply Wp.cs|apply Zd|apply Zf|apply Zc|apply Zg|apply Zn|apply Wp.step);case h=>((try simp(disch:=omega)only[↓reduceIte,Za,↓X0,X1,Nat.reduceEqDiff,Int.reduceEq,Nat.reduceAdd,Nat.reduceSub,X2,Zi,Nat.reduceLeDiff,s3,s2,s1,h1,eq_self.{1},hc3]);with_reducible first|done|exact rfl|exact bT|exact bF))|apply Ze|apply Zh|with_reducible apply Zl|simp only[↓X3]|simp(disch:=decide)only[asks_nil,asks_in,asks_out,askB_nil,askB_in,askB_out]|with_reducible apply Zb));try(with_reducible apply Zm;case h=>((try simp(disch:=omega)only[X1,Nat.reduceEqDiff,s3,s2,s1,h1,eq_self.{1},hc3]);with_reducible exact rfl)))
  obtain ⟨z1,z2,z3⟩:=code_sz h2
  obtain ⟨k1,k2,k3,-,-⟩:=id h2
  have k1:=k1.2
  generalize hM:H3.set (n2+7) (some (.row [b,bl,bd] 0 true))=M
  have vn:Li eNode (n3+8) M a (compAns l xs).p:=(o1.mv (H':=M) (by rw [← hM]; simp (disch:=omega) only [Zi,s3])).lst (by omega)
  have vl:Li eIns (n3+8) M al (compAns l xs).L:=(o2.mv (H':=M) (by rw [← hM]; simp (disch:=omega) only [Zi,s3])).lst (by omega)
  have vd:Li eDef (n3+8) M ad (compAns l xs).D:=(o3.mv (H':=M) (by rw [← hM]; simp (disch:=omega) only [Zi,s3])).lst (by omega)
  have vw:Li eInt (n3+8) M w xs:=(hw.mv (H':=M) (by rw [← hM]; simp (disch:=omega) only [Zi,s3,s2])).lst (by omega)
  have hcM:M (n1+7)=some (.row [a,al,ad] 0 true):=by rw [← hM]; simp (disch:=omega) only [Zi,s3,Zj]
  generalize (compAns l xs).p=cp at *
  generalize (compAns l xs).L=cL at *
  generalize (compAns l xs).D=cD at *
  generalize (compAns l xs).at_=cat at *
  refine Wp.bind (R:=fun (o:Out)=>n3+8≤o.n∧(∀ i,i < n3+8→o.H i=M i)∧o.e=.exit 0∧o.t 5=ptr (n1+7) 0∧o.t 4=w∧o.t 7=.int .i64 cat) (Ye (fun d T H' n'=>∃ k:Nat,k+d=cD.length∧n3+8≤n'∧(∀ i,i < n3+8→H' i=M i)∧T 5=ptr (n1+7) 0∧T 4=w∧T 7=.int .i64 cat∧T 11=.int .i64 (k:Int)) _ ?_ cD.length _ _ _ ⟨0,by omega,by omega,fun _ _=>rfl,by simp [Zk],by simp [Zk],by simp [Zk],by simp [Zk]⟩) ?_
  ·rintro d T H' n' ⟨k,hkd,hn',hs,t5,t4,t7,t11⟩
   unfold S3L0
   have hcH:H' (n1+7)=some (.row [a,al,ad] 0 true):=by rw [hs _ (by omega)]; exact hcM
   have vd':=vd.mv (H':=H') hn' (fun i hi=>hs i (by omega))
   have hlen:=vd'.len
   by_cases hk:k < cD.length
   ·have hki:(k:Int) < cD.length:=by omega
    obtain ⟨c1,c2,c3,c4⟩:=code_op h2 hk
    have g:=vd'.dAll (i:=(k:Int)) (by omega) hki
    ((repeat(first|((with_reducible first|apply Wp.gs|apply Wp.cs|apply Zd|apply Zf|apply Zc|apply Zg|apply Zn|apply Wp.step);case h=>((try simp(disch:=omega)only[↓reduceIte,Za,↓X0,X1,Nat.reduceEqDiff,Int.reduceEq,Nat.reduceAdd,Nat.reduceSub,X2,Zi,Nat.reduceLeDiff,t5,t11,hcH,hlen,hki,g]);with_reducible first|done|exact rfl|exact bT|exact bF))|apply Ze|apply Zh|with_reducible apply Zl|simp only[↓X3]|simp(disch:=decide)only[asks_nil,asks_in,asks_out,askB_nil,askB_in,askB_out]|with_reducible apply Zb));try(with_reducible apply Zm;case h=>((try simp(disch:=omega)only[X1,Nat.reduceEqDiff,t5,t11,hcH,hlen,hki,g]);with_reducible exact rfl)))
    refine Wp.rt (k11 (vd'.mv (by omega) (by intros;first|with_reducible rfl|simp(disch:=omega)only[Zi,Zj])) (by omega) _) ?_
    intro H4 n4 q4 s4
    have hcH4:H4 (n1+7)=some (.row [a,al,ad] 0 true):=by rw [s4 _ (by omega)]; exact hcH
    have hs4:∀ i,i < n3+8→H4 i=M i:=fun i hi=>by rw [s4 i (by omega),hs i hi]
    have g4:=(vd.mv (H':=H4) (Nat.le_refl _) hs4).dAll (i:=(k:Int)) (by omega) hki
    have gl:=(vl.mv (H':=H4) (Nat.le_refl _) hs4).sAll c2 c3
    have w1:=wn (j:=k) (by omega)
    rw [c1]
    by_cases hk0:0 < k
    ·have hk0i:(0:Int) < (k:Int):=by omega
     have w2:IntKind.i64.wrap ((k:Int) - 1)=(k:Int) - 1:=w64 (by omega)
     have gp:=(vd.mv (H':=H4) (Nat.le_refl _) hs4).dAll (i:=(k:Int) - 1) (by omega) (by omega)
     have hinc:=inc_at h5 hk0 hk
     have hge:¬ (gi cD (k:Int)).at_≤(gi cD ((k:Int) - 1)).at_:=by omega
     (repeat(first|((with_reducible first|apply Wp.gs|apply Wp.cs|apply Zd|apply Zf|apply Zc|apply Zg|apply Zn|apply Wp.step);case h=>((try simp(disch:=omega)only[↓reduceIte,Za,↓X0,X1,Nat.reduceEqDiff,Int.reduceEq,Nat.reduceAdd,Nat.reduceSub,X2,Zi,Nat.reduceLeDiff,t5,t11,hcH4,g4,gl,gp,hk0i,w1,w2,hge,c4,eq_self.{1}]);with_reducible first|done|exact rfl|exact bT|exact bF))|apply Ze|apply Zh|with_reducible apply Zl|simp only[↓X3]|simp(disch:=decide)only[asks_nil,asks_in,asks_out,askB_nil,askB_in,askB_out]|with_reducible apply Zb))
     exact Wp.pure (Nxt.go (d - 1) (by omega) ⟨k+1,by omega,by omega,(by intros;first|with_reducible rfl|simp(disch:=omega)only[Zi,Zj,hs4]),by simp [Zk,t5],by simp [Zk,t4],by simp [Zk,t7],by simp [Zk]⟩)
    ·have hk0i:¬ (0:Int) < (k:Int):=by omega
     (repeat(first|((with_reducible first|apply Wp.gs|apply Wp.cs|apply Zd|apply Zf|apply Zc|apply Zg|apply Zn|apply Wp.step);case h=>((try simp(disch:=omega)only[↓reduceIte,Za,↓X0,X1,Nat.reduceEqDiff,Int.reduceEq,Nat.reduceAdd,Nat.reduceSub,X2,Zi,Nat.reduceLeDiff,t5,t11,hcH4,g4,gl,hk0i,w1,c4,eq_self.{1}]);with_reducible first|done|exact rfl|exact bT|exact bF))|apply Ze|apply Zh|with_reducible apply Zl|simp only[↓X3]|simp(disch:=decide)only[asks_nil,asks_in,asks_out,askB_nil,askB_in,askB_out]|with_reducible apply Zb))
     exact Wp.pure (Nxt.go (d - 1) (by omega) ⟨k+1,by omega,by omega,(by intros;first|with_reducible rfl|simp(disch:=omega)only[Zi,Zj,hs4]),by simp [Zk,t5],by simp [Zk,t4],by simp [Zk,t7],by simp [Zk]⟩)
   ·have hki:¬ (k:Int) < cD.length:=by omega
    (repeat(first|((with_reducible first|apply Wp.gs|apply Wp.cs|apply Zd|apply Zf|apply Zc|apply Zg|apply Zn|apply Wp.step);case h=>((try simp(disch:=omega)only[↓reduceIte,Za,↓X0,X1,Nat.reduceEqDiff,Int.reduceEq,Nat.reduceAdd,Nat.reduceSub,X2,Zi,Nat.reduceLeDiff,t5,t11,hcH,hlen,hki]);with_reducible first|done|exact rfl|exact bT|exact bF))|apply Ze|apply Zh|with_reducible apply Zl|simp only[↓X3]|simp(disch:=decide)only[asks_nil,asks_in,asks_out,askB_nil,askB_in,askB_out]|with_reducible apply Zb))
    exact Wp.pure (Nxt.exit ⟨by simp only; omega,hs,rfl,by simp [Zk,t5],by simp [Zk,t4],by simp [Zk,t7]⟩)
  ·rintro ⟨oe,oT,oH,on⟩ ⟨f1,f2,rfl,t5,t4,t7⟩
   simp only at f1 f2 t5 t4 t7
   have hcH:oH (n1+7)=some (.row [a,al,ad] 0 true):=by rw [f2 _ (by omega)]; exact hcM
   ((repeat(first|((with_reducible first|apply Wp.gs|apply Wp.cs|apply Zd|apply Zf|apply Zc|apply Zg|apply Zn|apply Wp.step);case h=>((try simp(disch:=omega)only[↓reduceIte,Za,↓X0,X1,Nat.reduceEqDiff,Int.reduceEq,Nat.reduceAdd,Nat.reduceSub,X2,Zi,Nat.reduceLeDiff,t5,hcH]);with_reducible first|done|exact rfl|exact bT|exact bF))|apply Ze|apply Zh|with_reducible apply Zl|simp only[↓X3]|simp(disch:=decide)only[asks_nil,asks_in,asks_out,askB_nil,askB_in,askB_out]|with_reducible apply Zb));try(with_reducible apply Zm;case h=>((try simp(disch:=omega)only[X1,Nat.reduceEqDiff,t5,hcH]);with_reducible exact rfl)))
   refine Wp.rt (k12 (vn.mv (by omega) (by intros;first|with_reducible rfl|simp(disch:=omega)only[Zi,Zj,f2])) (vl.mv (by omega) (by intros;first|with_reducible rfl|simp(disch:=omega)only[Zi,Zj,f2])) (vd.mv (by omega) (by intros;first|with_reducible rfl|simp(disch:=omega)only[Zi,Zj,f2])) z1 z2 z3 (by omega) (by omega) (by omega)) ?_
   intro H4 n4 q4 s4
   have hs4:∀ i,i < n3+8→H4 i=M i:=fun i hi=>by rw [s4 i (by omega),f2 i hi]
   have hlw:=(vw.mv (H':=H4) (Nat.le_refl _) hs4).len
   have hld:=(vd.mv (H':=H4) (Nat.le_refl _) hs4).len
   have hcH4:H4 (n1+7)=some (.row [a,al,ad] 0 true):=by rw [hs4 _ (by omega)]; exact hcM
   (repeat(first|((with_reducible first|apply Wp.gs|apply Wp.cs|apply Zd|apply Zf|apply Zc|apply Zg|apply Zn|apply Wp.step);case h=>((try simp(disch:=omega)only[↓reduceIte,Za,↓X0,X1,Nat.reduceEqDiff,Int.reduceEq,Nat.reduceAdd,Nat.reduceSub,X2,Zi,Nat.reduceLeDiff,h2,t4,t5,t7,hlw,h3,eq_self.{1},hcH4,hld,h4]);with_reducible first|done|exact rfl|exact bT|exact bF))|apply Ze|apply Zh|with_reducible apply Zl|simp only[↓X3]|simp(disch:=decide)only[asks_nil,asks_in,asks_out,askB_nil,askB_in,askB_out]|with_reducible apply Zb))
   exact Wp.pure rfl
end Go.Proofs.Ytbgkimkbngocjaa.Ax
