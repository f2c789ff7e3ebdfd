/- What the law needs: laws of the abstract machine, and contracts of functions. -/
import Derived.Test.YtbgkimkbngocjaaM8
set_option linter.unusedVariables false
set_option linter.unusedSimpArgs false
set_option maxHeartbeats 4000000
namespace Go.Proofs.Ytbgkimkbngocjaa.Ax
open Go
theorem Goes.how0 {f:CS→CS} (hf:Goes f) {s:CS} (h:(f s).how=0):s.how=0:=by
 by_cases hs:s.how=0
 ·exact hs
 ·rw [(hf s).1 hs] at h; exact absurd h hs
theorem Li.c1 {α:Type} {E:Enc α} {n:Nat} {H:Hp} {v:Value} {l:List α} (h:Li E n H v l):cell1 v=true:=by
 rcases h.nilOr with ⟨rfl,_⟩ | ⟨a,m,c,rfl⟩ <;> rfl
theorem EV.snoc {c il n:Nat} {H:Hp} {u wn:Value} {ws:List Value} {e:List (List ByteArray)} {names:List ByteArray} {id:Nat} (ha:At eVl id H u (ws++[wn])) (hid:id < n) (hc:id≠c) (hi:id≠il) (hl:ws.length=e.length) (hws:∀ (i:Nat) (h1:i < ws.length) (h2:i < e.length),LO eStr c il n H ws[i] e[i]∧cell1 ws[i]=true) (hwn:LO eStr c il n H wn names):EV c il n H u (e++[names]):=by
 refine ⟨ws++[wn],ha.lo hid hc hi,by simp [hl],fun i h1 h2=>?_⟩
 by_cases hlt:i < ws.length
 ·rw [List.getElem_append_left hlt,List.getElem_append_left (by omega)]
  exact hws i hlt (by omega)
 ·have:i=ws.length:=by simp at h1; omega
  subst this
  rw [List.getElem_append_right (by omega),List.getElem_append_right (by omega)]
  simp
  exact ⟨hwn,hwn.li.c1⟩
theorem cPut_len {x:Ins} {s:CS} (h:(cPut x s).how=0):(cPut x s).L.length=s.L.length+1:=by
 unfold cPut at h ⊢
 split
 ·rename_i h0
  rw [if_pos h0] at h
  split
  ·rename_i h4; rw [if_pos h4] at h; simp at h
  ·simp
 ·rename_i h0; rw [if_neg h0] at h; exact absurd h h0
theorem k132 {v:Value} {p:List Nd} {E:CEx} {l:List Int} (hg:∀ v e,Goes (E v e)) (hE:∀ x∈l,XC 123 v p true E x) {c il n:Nat} {H:Hp} {ul ud wn w ew:Value} {s:CS} {e:Env} {names:List ByteArray} (h:CC c il n H v ul ud s) (hv:LO eNode c il n H v p) (he:EnvOk e) (hex:∀ x∈l,e.length+1+x.toNat≤90000) (he2:e.length+1≤100000) (hnl:names.length≤4) (hev:EV c il n H ew e.reverse) (hwn:LO eStr c il n H wn names) (hw:LO eInt c il n H w l) (hl:l.length≤1000000):RtA Try.prog 132 [ptr c 0,wn,w,ew] c il H n (fun r H' n'=>r=.tuple ⟨[]⟩∧Next c il n n' H' v ud (cFun E names l e s)):=by
 apply RtA.of
 rw [c132]; unfold S132
 have hcn:=h.cn
 have hil:=h.iln
 have hc:=h.hc
 have hlen:=h.len
 have hlv:Yc false ul=some (.int .i64 s.L.length):=(h.al.lst hil).len
 have hwr:IntKind.i64.wrap ((s.L.length:Int)+2)=(s.L.length:Int)+2:=w64 (by omega)
 ((repeat(first|((with_reducible first|apply Wp.gs|apply Wp.cs|apply Zd|apply Zf|apply Zc|apply Zg|apply Wp.step);case h=>((try simp(disch:=omega)only[↓reduceIte,Za,↓X0,X1,Nat.reduceEqDiff,Int.reduceEq,Nat.reduceAdd,Nat.reduceSub,X2,Zi,Nat.reduceLeDiff,hc,hlv,hwr,hwn.li.len,bld_ins]);with_reducible first|done|exact rfl|exact bT|exact bF))|apply Ze|apply Zh|with_reducible apply Zl|simp only[↓X3]|with_reducible apply Zb));try(with_reducible apply Zm;case h=>((try simp(disch:=omega)only[X1,Nat.reduceEqDiff,hc,hlv,hwr,hwn.li.len,bld_ins]);with_reducible exact rfl)))
 refine Zy (k115 (h.mv (by omega) rfl rfl) (Zw 6 (s.L.length+2) names.length)) ?_
 rintro _ H1 n1 q1 s1 ⟨rfl,ul1,il1,i1,h1⟩
 unfold cFun
 simp only
 generalize hS1:cPut (Zw 6 (s.L.length+2) names.length) s=S1 at *
 have hcn1:=h1.cn
 have hiln1:=h1.iln
 ((repeat(first|((with_reducible first|apply Wp.gs|apply Wp.cs|apply Zd|apply Zf|apply Zc|apply Zg|apply Wp.step);case h=>((try simp(disch:=omega)only[↓reduceIte,Za,↓X0,X1,Nat.reduceEqDiff,Int.reduceEq,Nat.reduceAdd,Nat.reduceSub,bld_ins1]);with_reducible first|done|exact rfl|exact bT|exact bF))|apply Ze|apply Zh|with_reducible apply Zl|simp only[↓X3]|with_reducible apply Zb));try(with_reducible apply Zm;case h=>((try simp(disch:=omega)only[X1,Nat.reduceEqDiff,bld_ins1]);with_reducible exact rfl)))
 refine Zy (k115 (h1.mv (by omega) rfl rfl) (Zw 5 0 0)) ?_
 rintro _ H2 n2 q2 s2 ⟨rfl,ul2,il2,i2,h2⟩
 have hS2:=@cPut_len (Zw 5 0 0) S1
 generalize cPut (Zw 5 0 0) S1=S2 at *
 have hk2:∀ i,i < n→i≠c→i≠il→H2 i=H i:=fun i a b d=>by rw [s2 i (by omega) b (by omega),s1 i (by omega) b d]
 have hev2:=hev.mv (m:=n2) (by omega) hk2 (show il2=il∨n≤il2 by omega)
 have hv2:=hv.mv (m:=n2) (by omega) hk2 (show il2=il∨n≤il2 by omega)
 have hwn2:=hwn.mv (m:=n2) (by omega) hk2 (show il2=il∨n≤il2 by omega)
 have hw2:=hw.mv (m:=n2) (by omega) hk2 (show il2=il∨n≤il2 by omega)
 obtain ⟨ws,hws1,hws2,hws3⟩:=hev2.ex
 rw [List.length_reverse] at hws2
 have hcn2:=h2.cn
 have hiln2:=h2.iln
 ((repeat(first|((with_reducible first|apply Wp.gs|apply Wp.cs|apply Zd|apply Zf|apply Zc|apply Zg|apply Wp.step);case h=>((try simp(disch:=omega)only[↓reduceIte,Za,↓X0,X1,Nat.reduceEqDiff,Int.reduceEq,Nat.reduceAdd,Nat.reduceSub]);with_reducible first|done|exact rfl|exact bT|exact bF))|apply Ze|apply Zh|with_reducible apply Zl|simp only[↓X3]|with_reducible apply Zb));try(with_reducible apply Zm;case h=>((try simp(disch:=omega)only[X1,Nat.reduceEqDiff]);with_reducible exact rfl)))
 refine Wp.rtn (k136 (hws1.li.mv (by omega) (fun _ _=>rfl)) (by have:=he.1; omega)) ?_
 rintro u3 H3 n3 q3 s3 ⟨id3,j1,j2,hat3⟩
 ((repeat(first|((with_reducible first|apply Wp.gs|apply Wp.cs|apply Zd|apply Zf|apply Zc|apply Zg|apply Wp.step);case h=>((try simp(disch:=omega)only[↓reduceIte,Za,↓X0,X1,Nat.reduceEqDiff,Int.reduceEq,Nat.reduceAdd,Nat.reduceSub,bsl_v _ wn hwn.li.c1]);with_reducible first|done|exact rfl|exact bT|exact bF))|apply Ze|apply Zh|with_reducible apply Zl|simp only[↓X3]|with_reducible apply Zb));try(with_reducible apply Zm;case h=>((try simp(disch:=omega)only[X1,Nat.reduceEqDiff,bsl_v _ wn hwn.li.c1]);with_reducible exact rfl)))
 refine Wp.app1 (E:=eVl) wn (l:=ws) (id:=id3) (hat3.mv (by intros;first|with_reducible rfl|simp(disch:=omega)only[Zi,Zj])) (by omega) (by decide) (by have:=he.1; omega) ?_
 intro H4 r1 r2
 have hk4:∀ i,i < n2→H4 i=H2 i:=fun i hi=>by rw [r2 i (by omega) (by omega) (by omega)]; exact s3 i (by omega)
 have hat4:At eVl (n2+6) H4 (sl (n2+6) 0 (ws++[wn]).length) (ws++[wn]):=.inr ⟨rfl,r1⟩
 have hev4:EV c il2 n3 H4 (sl (n2+6) 0 (ws++[wn]).length) (e.reverse++[names]):=EV.snoc hat4 (by omega) (by omega) (by omega) (by rw [List.length_reverse]; exact hws2) (fun i a b=>⟨(hws3 i a b).1.mv (by omega) (fun i a _ _=>hk4 i a) (.inl rfl),(hws3 i a b).2⟩) (hwn2.mv (by omega) (fun i a _ _=>hk4 i a) (.inl rfl))
 rw [← List.reverse_cons] at hev4
 ((repeat(first|((with_reducible first|apply Wp.gs|apply Wp.cs|apply Zd|apply Zf|apply Zc|apply Zg|apply Wp.step);case h=>((try simp(disch:=omega)only[↓reduceIte,Za,↓X0,X1,Nat.reduceEqDiff,Int.reduceEq,Nat.reduceAdd,Nat.reduceSub]);with_reducible first|done|exact rfl|exact bT|exact bF))|apply Ze|apply Zh|with_reducible apply Zl|simp only[↓X3]|with_reducible apply Zb));try(with_reducible apply Zm;case h=>((try simp(disch:=omega)only[X1,Nat.reduceEqDiff]);with_reducible exact rfl)))
 refine Zy (k114 (E:=E) (l:=l) hE (h2.mv (m:=n3) (by omega) (hk4 c hcn2) (hk4 il2 hiln2)) (hv2.mv (by omega) (fun i a _ _=>hk4 i a) (.inl rfl)) (e:=names :: e) ⟨by simp only [List.length_cons]; omega,fun f hf=>by rcases List.mem_cons.1 hf with rfl | hf; exact hnl; exact he.2 f hf⟩ (fun x hx=>by have:=hex x hx; simp only [List.length_cons]; omega) hev4 (hw2.mv (by omega) (fun i a _ _=>hk4 i a) (.inl rfl)) hl) ?_
 rintro _ H5 n5 q5 s5 ⟨rfl,ul5,il5,i5,h5⟩
 have hG:=(Goes.body hg (names :: e) l)
 have hB:=hG S2
 have hB0:=fun hh=>hG.how0 (s:=S2) hh
 generalize cBody E (names :: e) l S2=S5 at *
 have hcn5:=h5.cn
 have hiln5:=h5.iln
 ((repeat(first|((with_reducible first|apply Wp.gs|apply Wp.cs|apply Zd|apply Zf|apply Zc|apply Zg|apply Wp.step);case h=>((try simp(disch:=omega)only[↓reduceIte,Za,↓X0,X1,Nat.reduceEqDiff,Int.reduceEq,Nat.reduceAdd,Nat.reduceSub,bld_ins1]);with_reducible first|done|exact rfl|exact bT|exact bF))|apply Ze|apply Zh|with_reducible apply Zl|simp only[↓X3]|with_reducible apply Zb));try(with_reducible apply Zm;case h=>((try simp(disch:=omega)only[X1,Nat.reduceEqDiff,bld_ins1]);with_reducible exact rfl)))
 refine Zy (k115 (h5.mv (by omega) rfl rfl) (Zw 8 0 0)) ?_
 rintro _ H6 n6 q6 s6 ⟨rfl,ul6,il6,i6,h6⟩
 have hP:=Goes.put (Zw 8 0 0) S5
 have hP0:=fun hh=>(Goes.put (Zw 8 0 0)).how0 (s:=S5) hh
 generalize cPut (Zw 8 0 0) S5=S6 at *
 ((repeat(first|((with_reducible first|apply Wp.gs|apply Wp.cs|apply Zd|apply Zf|apply Zc|apply Zg|apply Wp.step);case h=>((try simp(disch:=omega)only[↓reduceIte,Za,↓X0,X1,Nat.reduceEqDiff,Int.reduceEq,Nat.reduceAdd,Nat.reduceSub]);with_reducible first|done|exact rfl|exact bT|exact bF))|apply Ze|apply Zh|with_reducible apply Zl|simp only[↓X3]|with_reducible apply Zb));try(with_reducible apply Zm;case h=>((try simp(disch:=omega)only[X1,Nat.reduceEqDiff]);with_reducible exact rfl)))
 refine Zy (k135 (h6.mv (by omega) rfl rfl) _ S1.L.length (fun h0=>by
  have a5:=hP0 h0
  have a2:=hB0 a5
  have:=hS2 a2
  rw [if_pos a2]
  exact ⟨rfl,by omega⟩)) ?_
 rintro _ H7 n7 q7 s7 ⟨rfl,h7⟩
 (repeat(first|((with_reducible first|apply Wp.gs|apply Wp.cs|apply Zd|apply Zf|apply Zc|apply Zg|apply Wp.step);case h=>((try simp(disch:=omega)only[↓reduceIte,Za,↓X0,X1,Nat.reduceEqDiff,Int.reduceEq,Nat.reduceAdd,Nat.reduceSub]);with_reducible first|done|exact rfl|exact bT|exact bF))|apply Ze|apply Zh|with_reducible apply Zl|simp only[↓X3]|with_reducible apply Zb))
 refine Wp.pure ⟨by simp only; omega,fun i a b d=>?_,rfl,ul6,il6,by omega,h7.mv (by simp only; omega) rfl rfl⟩
 show H7 i=H i
 rw [s7 i (by omega) b (by omega),s6 i (by omega) b (by omega),s5 i (by omega) b (by omega),hk4 i (by omega)]
 exact hk2 i a b d
theorem k131 {v:Value} {p:List Nd} {E:CEx} {l:List Int} (hg:∀ v e,Goes (E v e)) (hE:∀ x∈l,XC 123 v p true E x) {c il n:Nat} {H:Hp} {ul ud w ew:Value} {s:CS} {e:Env} (h:CC c il n H v ul ud s) (hv:LO eNode c il n H v p) (he:EnvOk e) (hex:∀ x∈l,e.length+x.toNat≤90000) (hev:EV c il n H ew e.reverse) (hw:LO eInt c il n H w l) (hl:l.length=4):RtA Try.prog 131 [ptr c 0,w,ew] c il H n (fun r H' n'=>r=.tuple ⟨[]⟩∧Next c il n n' H' v ud (cIf E l e s)):=by
 apply RtA.of
 rw [c131]; unfold S131
 have hcn:=h.cn
 have hil:=h.iln
 have g1:=hw.li.iAll (i:=1) (by omega) (by omega)
 have m1:=gi_mem (l:=l) (i:=1) (by omega) (by omega)
 have m2:=gi_mem (l:=l) (i:=2) (by omega) (by omega)
 have m3:=gi_mem (l:=l) (i:=3) (by omega) (by omega)
 ((repeat(first|((with_reducible first|apply Wp.gs|apply Wp.cs|apply Zd|apply Zf|apply Zc|apply Zg|apply Wp.step);case h=>((try simp(disch:=omega)only[↓reduceIte,Za,↓X0,X1,Nat.reduceEqDiff,Int.reduceEq,Nat.reduceAdd,Nat.reduceSub,g1]);with_reducible first|done|exact rfl|exact bT|exact bF))|apply Ze|apply Zh|with_reducible apply Zl|simp only[↓X3]|with_reducible apply Zb));try(with_reducible apply Zm;case h=>((try simp(disch:=omega)only[X1,Nat.reduceEqDiff,g1]);with_reducible exact rfl)))
 refine Zy (hE _ m1 c il _ _ ul ud ew s e (h.mv (by omega) rfl rfl) (hv.mv (by omega) (fun _ _ _ _=>rfl) (.inl rfl)) he (hex _ m1) (hev.mv (by omega) (fun _ _ _ _=>rfl) (.inl rfl))) ?_
 rintro _ H1 n1 q1 s1 ⟨rfl,ul1,il1,i1,h1⟩
 unfold cIf
 simp only
 generalize hS1:E (gi l 1) e s=S1 at *
 have hcn1:=h1.cn
 have hiln1:=h1.iln
 ((repeat(first|((with_reducible first|apply Wp.gs|apply Wp.cs|apply Zd|apply Zf|apply Zc|apply Zg|apply Wp.step);case h=>((try simp(disch:=omega)only[↓reduceIte,Za,↓X0,X1,Nat.reduceEqDiff,Int.reduceEq,Nat.reduceAdd,Nat.reduceSub,bld_ins1]);with_reducible first|done|exact rfl|exact bT|exact bF))|apply Ze|apply Zh|with_reducible apply Zl|simp only[↓X3]|with_reducible apply Zb));try(with_reducible apply Zm;case h=>((try simp(disch:=omega)only[X1,Nat.reduceEqDiff,bld_ins1]);with_reducible exact rfl)))
 refine Zy (k115 (h1.mv (by omega) rfl rfl) (Zw 4 0 0)) ?_
 rintro _ H2 n2 q2 s2 ⟨rfl,ul2,il2,i2,h2⟩
 have hS2:=@cPut_len (Zw 4 0 0) S1
 generalize cPut (Zw 4 0 0) S1=S2 at *
 have hk2:∀ i,i < n→i≠c→i≠il→H2 i=H i:=fun i a b d=>by rw [s2 i (by omega) b (by omega),s1 i (by omega) b d]
 have hw2:=hw.mv (m:=n2) (by omega) hk2 (show il2=il∨n≤il2 by omega)
 have hev2:=hev.mv (m:=n2) (by omega) hk2 (show il2=il∨n≤il2 by omega)
 have hv2:=hv.mv (m:=n2) (by omega) hk2 (show il2=il∨n≤il2 by omega)
 have g2:=hw2.li.iAll (i:=2) (by omega) (by omega)
 have hcn2:=h2.cn
 have hiln2:=h2.iln
 ((repeat(first|((with_reducible first|apply Wp.gs|apply Wp.cs|apply Zd|apply Zf|apply Zc|apply Zg|apply Wp.step);case h=>((try simp(disch:=omega)only[↓reduceIte,Za,↓X0,X1,Nat.reduceEqDiff,Int.reduceEq,Nat.reduceAdd,Nat.reduceSub,g2]);with_reducible first|done|exact rfl|exact bT|exact bF))|apply Ze|apply Zh|with_reducible apply Zl|simp only[↓X3]|with_reducible apply Zb));try(with_reducible apply Zm;case h=>((try simp(disch:=omega)only[X1,Nat.reduceEqDiff,g2]);with_reducible exact rfl)))
 refine Zy (hE _ m2 c il2 _ _ ul2 ud ew S2 e (h2.mv (by omega) rfl rfl) (hv2.mv (by omega) (fun _ _ _ _=>rfl) (.inl rfl)) he (hex _ m2) (hev2.mv (by omega) (fun _ _ _ _=>rfl) (.inl rfl))) ?_
 rintro _ H3 n3 q3 s3 ⟨rfl,ul3,il3,i3,h3⟩
 have hG3:=hg (gi l 2) e S2
 have hG30:=fun hh=>(hg (gi l 2) e).how0 (s:=S2) hh
 generalize E (gi l 2) e S2=S3 at *
 have hcn3:=h3.cn
 have hiln3:=h3.iln
 ((repeat(first|((with_reducible first|apply Wp.gs|apply Wp.cs|apply Zd|apply Zf|apply Zc|apply Zg|apply Wp.step);case h=>((try simp(disch:=omega)only[↓reduceIte,Za,↓X0,X1,Nat.reduceEqDiff,Int.reduceEq,Nat.reduceAdd,Nat.reduceSub,bld_ins1]);with_reducible first|done|exact rfl|exact bT|exact bF))|apply Ze|apply Zh|with_reducible apply Zl|simp only[↓X3]|with_reducible apply Zb));try(with_reducible apply Zm;case h=>((try simp(disch:=omega)only[X1,Nat.reduceEqDiff,bld_ins1]);with_reducible exact rfl)))
 refine Zy (k115 (h3.mv (by omega) rfl rfl) (Zw 5 0 0)) ?_
 rintro _ H4 n4 q4 s4 ⟨rfl,ul4,il4,i4,h4⟩
 have hS4:=@cPut_len (Zw 5 0 0) S3
 have hP0:=fun hh=>(Goes.put (Zw 5 0 0)).how0 (s:=S3) hh
 generalize cPut (Zw 5 0 0) S3=S4 at *
 have hcn4:=h4.cn
 have hiln4:=h4.iln
 ((repeat(first|((with_reducible first|apply Wp.gs|apply Wp.cs|apply Zd|apply Zf|apply Zc|apply Zg|apply Wp.step);case h=>((try simp(disch:=omega)only[↓reduceIte,Za,↓X0,X1,Nat.reduceEqDiff,Int.reduceEq,Nat.reduceAdd,Nat.reduceSub]);with_reducible first|done|exact rfl|exact bT|exact bF))|apply Ze|apply Zh|with_reducible apply Zl|simp only[↓X3]|with_reducible apply Zb));try(with_reducible apply Zm;case h=>((try simp(disch:=omega)only[X1,Nat.reduceEqDiff]);with_reducible exact rfl)))
 refine Zy (k135 (h4.mv (by omega) rfl rfl) _ S1.L.length (fun h0=>by
  have a3:=hP0 h0
  have a2:=hG30 a3
  have b2:=hS2 a2
  have b4:=hS4 h0
  rw [if_pos a2]
  exact ⟨rfl,by omega⟩)) ?_
 rintro _ H5 n5 q5 s5 ⟨rfl,h5⟩
 have hT0:=fun hh=>(Goes.to S1.L.length).how0 (s:=S4) hh
 have hT:=Goes.to S1.L.length S4
 generalize cTo S1.L.length S4=S5 at *
 have hk5:∀ i,i < n→i≠c→i≠il→H5 i=H i:=fun i a b d=>by rw [s5 i (by omega) b (by omega),s4 i (by omega) b (by omega),s3 i (by omega) b (by omega)]; exact hk2 i a b d
 have hw5:=hw.mv (m:=n5) (by omega) hk5 (show il4=il∨n≤il4 by omega)
 have hev5:=hev.mv (m:=n5) (by omega) hk5 (show il4=il∨n≤il4 by omega)
 have hv5:=hv.mv (m:=n5) (by omega) hk5 (show il4=il∨n≤il4 by omega)
 have g5:=hw5.li.iAll (i:=3) (by omega) (by omega)
 have hcn5:=h5.cn
 have hiln5:=h5.iln
 ((repeat(first|((with_reducible first|apply Wp.gs|apply Wp.cs|apply Zd|apply Zf|apply Zc|apply Zg|apply Wp.step);case h=>((try simp(disch:=omega)only[↓reduceIte,Za,↓X0,X1,Nat.reduceEqDiff,Int.reduceEq,Nat.reduceAdd,Nat.reduceSub,g5]);with_reducible first|done|exact rfl|exact bT|exact bF))|apply Ze|apply Zh|with_reducible apply Zl|simp only[↓X3]|with_reducible apply Zb));try(with_reducible apply Zm;case h=>((try simp(disch:=omega)only[X1,Nat.reduceEqDiff,g5]);with_reducible exact rfl)))
 refine Zy (hE _ m3 c il4 _ _ ul4 ud ew S5 e (h5.mv (by omega) rfl rfl) (hv5.mv (by omega) (fun _ _ _ _=>rfl) (.inl rfl)) he (hex _ m3) (hev5.mv (by omega) (fun _ _ _ _=>rfl) (.inl rfl))) ?_
 rintro _ H6 n6 q6 s6 ⟨rfl,ul6,il6,i6,h6⟩
 have hG6:=hg (gi l 3) e S5
 have hG60:=fun hh=>(hg (gi l 3) e).how0 (s:=S5) hh
 generalize E (gi l 3) e S5=S6 at *
 ((repeat(first|((with_reducible first|apply Wp.gs|apply Wp.cs|apply Zd|apply Zf|apply Zc|apply Zg|apply Wp.step);case h=>((try simp(disch:=omega)only[↓reduceIte,Za,↓X0,X1,Nat.reduceEqDiff,Int.reduceEq,Nat.reduceAdd,Nat.reduceSub]);with_reducible first|done|exact rfl|exact bT|exact bF))|apply Ze|apply Zh|with_reducible apply Zl|simp only[↓X3]|with_reducible apply Zb));try(with_reducible apply Zm;case h=>((try simp(disch:=omega)only[X1,Nat.reduceEqDiff]);with_reducible exact rfl)))
 refine Zy (k135 (h6.mv (by omega) rfl rfl) _ S3.L.length (fun h0=>by
  have a5:=hG60 h0
  have a4:=hT0 a5
  have b4:=hS4 a4
  rw [if_pos a4]
  exact ⟨rfl,by omega⟩)) ?_
 rintro _ H7 n7 q7 s7 ⟨rfl,h7⟩
 (repeat(first|((with_reducible first|apply Wp.gs|apply Wp.cs|apply Zd|apply Zf|apply Zc|apply Zg|apply Wp.step);case h=>((try simp(disch:=omega)only[↓reduceIte,Za,↓X0,X1,Nat.reduceEqDiff,Int.reduceEq,Nat.reduceAdd,Nat.reduceSub]);with_reducible first|done|exact rfl|exact bT|exact bF))|apply Ze|apply Zh|with_reducible apply Zl|simp only[↓X3]|with_reducible apply Zb))
 refine Wp.pure ⟨by simp only; omega,fun i a b d=>?_,rfl,ul6,il6,by omega,h7.mv (by simp only; omega) rfl rfl⟩
 show H7 i=H i
 rw [s7 i (by omega) b (by omega),s6 i (by omega) b (by omega)]
 exact hk5 i a b d
end Go.Proofs.Ytbgkimkbngocjaa.Ax
