/- What the law needs: laws of the abstract machine, and contracts of functions. -/
import Derived.Test.YtbgkimkbngocjaaM10
import Derived.Test.YtbgkimkbngocjaaM12
import Derived.Test.YtbgkimkbngocjaaM4
import Derived.Test.YtbgkimkbngocjaaM7
set_option linter.unusedVariables false
set_option linter.unusedSimpArgs false
set_option maxHeartbeats 8000000
namespace Go.Proofs.Ytbgkimkbngocjaa.Ax
open Go
theorem cExpr_leaf {p:List Nd} {k:Nat} {v:Int} {e:Env} {s:CS} (h0:s.how=0) (h:(gi p v).k=1∨(gi p v).k=2∨(gi p v).k=3):cExpr p (k+1) v e s=cPut (Zw 1 v 0) s:=by rw [cExpr,if_pos h0,if_pos h]
theorem cExpr_sym {p:List Nd} {k:Nat} {v:Int} {e:Env} {s:CS} (h0:s.how=0) (h:(gi p v).k=4):cExpr p (k+1) v e s=if special (gi p v).s=true then cFail 1 s else cPut (varIns (gi p v).s e) s:=by
 rw [cExpr,if_pos h0,if_neg (by omega)]; exact if_pos h
theorem cExpr_bad {p:List Nd} {k:Nat} {v:Int} {e:Env} {s:CS} (h0:s.how=0) (h1:¬ ((gi p v).k=1∨(gi p v).k=2∨(gi p v).k=3)) (h4:(gi p v).k≠4) (h:¬ ((gi p v).k=5∧(Zu p v).2=true)):cExpr p (k+1) v e s=cFail 1 s:=by
 rw [cExpr,if_pos h0,if_neg h1,if_neg h4,if_neg h]
theorem cExpr_pair {p:List Nd} {k:Nat} {v:Int} {e:Env} {s:CS} (h0:s.how=0) (h:(gi p v).k=5) (h2:(Zu p v).2=true):cExpr p (k+1) v e s=if (gi p (gi (Zu p v).1 0)).k=4∧special (gi p (gi (Zu p v).1 0)).s=true then cForm (cExpr p k) p (gi p (gi (Zu p v).1 0)).s (Zu p v).1 e s else if 5 < (Zu p v).1.length then cFail 1 s else cPut (Zw 7 0 ((Zu p v).1.length - 1)) ((Zu p v).1.foldl (fun s x=>cExpr p k x e s) s):=by
 rw [cExpr,if_pos h0,if_neg (by omega),if_neg (by omega),if_pos ⟨h,h2⟩]
theorem l123 {v:Value} {p:List Nd} {E:CEx} {l:List Int} (hE:∀ x∈l,XC 123 v p true E x) {c il n:Nat} {H:Hp} {ul ud w ew:Value} {s:CS} {e:Env} (h:CC c il n H v ul ud s) (hv:LO eNode c il n H v p) (he:EnvOk e) (hex:∀ x∈l,e.length+x.toNat≤90000) (hev:EV c il n H ew e.reverse) (hw:LO eInt c il n H w l) (hl:l.length≤1000000):∀ t n1,n≤n1→t 0=ptr c 0→t 2=ew→t 7=w→t 69=w→t 70=.int .i64 l.length→t 71=.int .i64 0 →
  Wp (Ya (S123L0 (Call Try.prog) Ya) t H n1) (fun o=>n≤o.n∧Kept c il n H o.H∧o.e=.exit 2∧Next c il n o.n o.H v ud (l.foldl (fun s x=>E x e s) s)∧o.t 0=ptr c 0∧o.t 7=w):=by
 intro t n1 hn1 e0 e2 e7 e69 e70 e71
 have hcn:=h.cn
 have hil:=h.iln
 refine Ye (fun d T H' n'=>∃ (j:Nat) (ul':Value) (il':Nat),j+d=l.length∧n≤n'∧Kept c il n H H'∧(il'=il∨n≤il')∧CC c il' n' H' v ul' ud ((l.take j).foldl (fun s x=>E x e s) s)∧T 0=ptr c 0∧T 2=ew∧T 7=w∧T 69=w∧T 70=.int .i64 l.length∧T 71=.int .i64 j) _ ?_ l.length _ _ _ ⟨0,ul,il,by omega,hn1,fun _ _ _ _=>rfl,.inl rfl,h.mv (by omega) rfl rfl,e0,e2,e7,e69,e70,e71⟩
 rintro d T H' n' ⟨j,ul',il',hj,hn,s1,hi',h',e0,e2,e7,e69,e70,e71⟩
 unfold S123L0
 by_cases hlt:(j:Int) < l.length
 ·have hlt':j < l.length:=by omega
  have hw':=hw.mv hn s1 hi'
  have hev':=hev.mv hn s1 hi'
  have hv':=hv.mv hn s1 hi'
  have g:=hw'.li.iAll (i:=(j:Int)) (by omega) hlt
  have hmem:=gi_mem (l:=l) (i:=(j:Int)) (by omega) hlt
  have hws:=wj (j:=j) (len:=l.length) hlt' (by omega)
  have hcn':=h'.cn
  have hil':=h'.iln
  ((repeat(first|((with_reducible first|apply Wp.gs|apply Wp.cs|apply Zd|apply Zf|apply Zc|apply Zg|apply Wp.step);case h=>((try simp(disch:=omega)only[↓reduceIte,Za,↓X0,X1,Nat.reduceEqDiff,Int.reduceEq,Nat.reduceAdd,Nat.reduceSub,e0,e2,e69,e70,e71,hlt,g]);with_reducible first|done|exact rfl|exact bT|exact bF))|apply Ze|apply Zh|with_reducible apply Zl|simp only[↓X3]|with_reducible apply Zb));try(with_reducible apply Zm;case h=>((try simp(disch:=omega)only[X1,Nat.reduceEqDiff,e0,e2,e69,e70,e71,hlt,g]);with_reducible exact rfl)))
  refine Zy (hE _ hmem c il' _ _ ul' ud ew _ e (h'.mv (by omega) rfl rfl) (hv'.mv (by omega) (fun i a b c=>rfl) (.inl rfl)) he (hex _ hmem) (hev'.mv (by omega) (fun i a b c=>rfl) (.inl rfl))) ?_
  rintro _ H3 n3 q3 s3 ⟨rfl,ul3,il3,j1,j2⟩
  (repeat(first|((with_reducible first|apply Wp.gs|apply Wp.cs|apply Zd|apply Zf|apply Zc|apply Zg|apply Wp.step);case h=>((try simp(disch:=omega)only[↓reduceIte,Za,↓X0,X1,Nat.reduceEqDiff,Int.reduceEq,Nat.reduceAdd,Nat.reduceSub,e71,hws]);with_reducible first|done|exact rfl|exact bT|exact bF))|apply Ze|apply Zh|with_reducible apply Zl|simp only[↓X3]|with_reducible apply Zb))
  refine Wp.pure (Nxt.go (d - 1) (by omega) ⟨j+1,ul3,il3,by omega,by omega,fun i a b c=>by rw [s3 i (by omega) b (by omega)]; exact s1 i a b c,by omega,?_,by simp [Zk,e0],by simp [Zk,e2],by simp [Zk,e7],by simp [Zk,e69],by simp [Zk,e70],by simp [Zk]⟩)
  rw [take_next hlt',List.foldl_append,List.foldl_cons,List.foldl_nil,← gi_nat hlt']
  exact j2.mv (by omega) rfl rfl
 ·((repeat(first|((with_reducible first|apply Wp.gs|apply Wp.cs|apply Zd|apply Zf|apply Zc|apply Zg|apply Wp.step);case h=>((try simp(disch:=omega)only[↓reduceIte,Za,↓X0,X1,Nat.reduceEqDiff,Int.reduceEq,Nat.reduceAdd,Nat.reduceSub,e70,e71,hlt]);with_reducible first|done|exact rfl|exact bT|exact bF))|apply Ze|apply Zh|with_reducible apply Zl|simp only[↓X3]|with_reducible apply Zb));try(with_reducible apply Zm;case h=>((try simp(disch:=omega)only[X1,Nat.reduceEqDiff,e70,e71,hlt]);with_reducible exact rfl)))
  rw [List.take_of_length_le (by omega)] at h'
  exact Wp.pure (Nxt.exit ⟨by simp only; omega,s1,rfl,⟨ul',il',hi',h'.mv (by simp only; omega) rfl rfl⟩,by simp [Zk,e0],by simp [Zk,e7]⟩)
theorem k123 {v:Value} {p:List Nd} (hp:PoolOk p):∀ (k:Nat) (x:Int),0≤x→x < (p.length:Int)→x < k→XC 123 v p true (cExpr p k) x
 | 0,x,h0,h1,hk=>by omega
 | k+1,x,h0,h1,hk=>by
  intro c il n H ul ud ew s e h hv he hex hev
  have ih:=fun (y:Int) (y0:0≤y) (y1:y < x)=>k123 (v:=v) hp k y y0 (by omega) (by omega)
  apply RtA.of
  rw [c123]; unfold S123
  have hcn:=h.cn
  have hil:=h.iln
  have hc:=h.hc
  have hpl:=hp.2
  by_cases hh:s.how=0
  case neg =>
   have e1:cExpr p (k+1) x e s=s:=(Goes.expr p (k+1) x e s).1 hh
   (repeat(first|((with_reducible first|apply Wp.gs|apply Wp.cs|apply Zd|apply Zf|apply Zc|apply Zg|apply Wp.step);case h=>((try simp(disch:=omega)only[↓reduceIte,Za,↓X0,X1,Nat.reduceEqDiff,Int.reduceEq,Nat.reduceAdd,Nat.reduceSub,X2,Zi,Nat.reduceLeDiff,hc,hh]);with_reducible first|done|exact rfl|exact bT|exact bF))|apply Ze|apply Zh|with_reducible apply Zl|simp only[↓X3]|with_reducible apply Zb))
   exact Wp.pure ⟨by simp only; omega,(by intros;first|with_reducible rfl|simp(disch:=omega)only[Zi,Zj]),rfl,ul,il,.inl rfl,by rw [e1]; exact h.mv (by simp only; omega) rfl rfl⟩
  have g:=hv.li.nAll (i:=x) h0 h1
  have fin:∀ (H2:Hp) (n2:Nat) (S:CS),n≤n2→Kept c il n H H2→Next c il n n2 H2 v ud S→S=cExpr p (k+1) x e s→Wp (some (Value.tuple ⟨[]⟩,H2,n2)) (fun q=>n≤q.2.2∧(∀ i,i < n→i≠c→i≠il→q.2.1 i=H i)∧q.1=.tuple ⟨[]⟩∧Next c il n q.2.2 q.2.1 v ud (cExpr p (k+1) x e s)):=by
   intro H2 n2 S z1 z2 z3 z4
   exact Wp.pure ⟨z1,z2,rfl,by rw [← z4]; exact z3⟩
  have leaf:=cExpr_leaf (p:=p) (k:=k) (v:=x) (e:=e) hh
  have sym:=cExpr_sym (p:=p) (k:=k) (v:=x) (e:=e) hh
  have bad:=cExpr_bad (p:=p) (k:=k) (v:=x) (e:=e) hh
  have pair:=cExpr_pair (p:=p) (k:=k) (v:=x) (e:=e) hh
  have hpos:=chainOf_pos hp h0 h1
  generalize cExpr p (k+1) x e s=F at *
  generalize hx:gi p x=X at *
  obtain ⟨xk,xn,xs,xa,xb⟩:=X
  simp only [Nd.cells] at g leaf sym bad pair hpos
  by_cases c2:xk=2
  ·subst c2
   ((repeat(first|((with_reducible first|apply Wp.gs|apply Wp.cs|apply Zd|apply Zf|apply Zc|apply Zg|apply Wp.step);case h=>((try simp(disch:=omega)only[↓reduceIte,Za,↓X0,X1,Nat.reduceEqDiff,Int.reduceEq,Nat.reduceAdd,Nat.reduceSub,X2,Zi,Nat.reduceLeDiff,hc,hh,g,bld_ins2]);with_reducible first|done|exact rfl|exact bT|exact bF))|apply Ze|apply Zh|with_reducible apply Zl|simp only[↓X3]|with_reducible apply Zb));try(with_reducible apply Zm;case h=>((try simp(disch:=omega)only[X1,Nat.reduceEqDiff,hc,hh,g,bld_ins2]);with_reducible exact rfl)))
   refine Zy (k115 (h.mv (by omega) (by intros;first|with_reducible rfl|simp(disch:=omega)only[Zi,Zj]) (by intros;first|with_reducible rfl|simp(disch:=omega)only[Zi,Zj])) (Zw 1 x 0)) ?_
   rintro _ H2 n2 q2 s2 ⟨rfl,ul2,il2,i2,h2⟩
   (repeat(first|((with_reducible first|apply Wp.gs|apply Wp.cs|apply Zd|apply Zf|apply Zc|apply Zg|apply Wp.step);case h=>((try simp(disch:=omega)only[↓reduceIte,Za,↓X0,X1,Nat.reduceEqDiff,Int.reduceEq,Nat.reduceAdd,Nat.reduceSub]);with_reducible first|done|exact rfl|exact bT|exact bF))|apply Ze|apply Zh|with_reducible apply Zl|simp only[↓X3]|with_reducible apply Zb))
   exact fin _ _ _ (by omega) (fun i a b c=>(s2 i (by omega) b c).trans (Zi _ _ (by omega))) ⟨ul2,il2,by omega,h2.mv (by omega) rfl rfl⟩ (leaf (by omega)).symm
  by_cases c3:xk=3
  ·subst c3
   ((repeat(first|((with_reducible first|apply Wp.gs|apply Wp.cs|apply Zd|apply Zf|apply Zc|apply Zg|apply Wp.step);case h=>((try simp(disch:=omega)only[↓reduceIte,Za,↓X0,X1,Nat.reduceEqDiff,Int.reduceEq,Nat.reduceAdd,Nat.reduceSub,X2,Zi,Nat.reduceLeDiff,hc,hh,g,bld_ins2]);with_reducible first|done|exact rfl|exact bT|exact bF))|apply Ze|apply Zh|with_reducible apply Zl|simp only[↓X3]|with_reducible apply Zb));try(with_reducible apply Zm;case h=>((try simp(disch:=omega)only[X1,Nat.reduceEqDiff,hc,hh,g,bld_ins2]);with_reducible exact rfl)))
   refine Zy (k115 (h.mv (by omega) (by intros;first|with_reducible rfl|simp(disch:=omega)only[Zi,Zj]) (by intros;first|with_reducible rfl|simp(disch:=omega)only[Zi,Zj])) (Zw 1 x 0)) ?_
   rintro _ H2 n2 q2 s2 ⟨rfl,ul2,il2,i2,h2⟩
   (repeat(first|((with_reducible first|apply Wp.gs|apply Wp.cs|apply Zd|apply Zf|apply Zc|apply Zg|apply Wp.step);case h=>((try simp(disch:=omega)only[↓reduceIte,Za,↓X0,X1,Nat.reduceEqDiff,Int.reduceEq,Nat.reduceAdd,Nat.reduceSub]);with_reducible first|done|exact rfl|exact bT|exact bF))|apply Ze|apply Zh|with_reducible apply Zl|simp only[↓X3]|with_reducible apply Zb))
   exact fin _ _ _ (by omega) (fun i a b c=>(s2 i (by omega) b c).trans (Zi _ _ (by omega))) ⟨ul2,il2,by omega,h2.mv (by omega) rfl rfl⟩ (leaf (by omega)).symm
  by_cases c1:xk=1
  ·subst c1
   ((repeat(first|((with_reducible first|apply Wp.gs|apply Wp.cs|apply Zd|apply Zf|apply Zc|apply Zg|apply Wp.step);case h=>((try simp(disch:=omega)only[↓reduceIte,Za,↓X0,X1,Nat.reduceEqDiff,Int.reduceEq,Nat.reduceAdd,Nat.reduceSub,X2,Zi,Nat.reduceLeDiff,hc,hh,g,bld_ins2]);with_reducible first|done|exact rfl|exact bT|exact bF))|apply Ze|apply Zh|with_reducible apply Zl|simp only[↓X3]|with_reducible apply Zb));try(with_reducible apply Zm;case h=>((try simp(disch:=omega)only[X1,Nat.reduceEqDiff,hc,hh,g,bld_ins2]);with_reducible exact rfl)))
   refine Zy (k115 (h.mv (by omega) (by intros;first|with_reducible rfl|simp(disch:=omega)only[Zi,Zj]) (by intros;first|with_reducible rfl|simp(disch:=omega)only[Zi,Zj])) (Zw 1 x 0)) ?_
   rintro _ H2 n2 q2 s2 ⟨rfl,ul2,il2,i2,h2⟩
   (repeat(first|((with_reducible first|apply Wp.gs|apply Wp.cs|apply Zd|apply Zf|apply Zc|apply Zg|apply Wp.step);case h=>((try simp(disch:=omega)only[↓reduceIte,Za,↓X0,X1,Nat.reduceEqDiff,Int.reduceEq,Nat.reduceAdd,Nat.reduceSub]);with_reducible first|done|exact rfl|exact bT|exact bF))|apply Ze|apply Zh|with_reducible apply Zl|simp only[↓X3]|with_reducible apply Zb))
   exact fin _ _ _ (by omega) (fun i a b c=>(s2 i (by omega) b c).trans (Zi _ _ (by omega))) ⟨ul2,il2,by omega,h2.mv (by omega) rfl rfl⟩ (leaf (by omega)).symm
  by_cases c4:xk=4
  ·subst c4
   ((repeat(first|((with_reducible first|apply Wp.gs|apply Wp.cs|apply Zd|apply Zf|apply Zc|apply Zg|apply Wp.step);case h=>((try simp(disch:=omega)only[↓reduceIte,Za,↓X0,X1,Nat.reduceEqDiff,Int.reduceEq,Nat.reduceAdd,Nat.reduceSub,X2,Zi,Nat.reduceLeDiff,hc,hh,g]);with_reducible first|done|exact rfl|exact bT|exact bF))|apply Ze|apply Zh|with_reducible apply Zl|simp only[↓X3]|with_reducible apply Zb));try(with_reducible apply Zm;case h=>((try simp(disch:=omega)only[X1,Nat.reduceEqDiff,hc,hh,g]);with_reducible exact rfl)))
   refine Zy (k127 (h.mv (by omega) (by intros;first|with_reducible rfl|simp(disch:=omega)only[Zi,Zj]) (by intros;first|with_reducible rfl|simp(disch:=omega)only[Zi,Zj])) xs he (hev.mv (by omega) (by intros;first|with_reducible rfl|simp(disch:=omega)only[Zi,Zj]) (.inl rfl))) ?_
   rintro _ H2 n2 q2 s2 ⟨rfl,ul2,il2,i2,h2⟩
   (repeat(first|((with_reducible first|apply Wp.gs|apply Wp.cs|apply Zd|apply Zf|apply Zc|apply Zg|apply Wp.step);case h=>((try simp(disch:=omega)only[↓reduceIte,Za,↓X0,X1,Nat.reduceEqDiff,Int.reduceEq,Nat.reduceAdd,Nat.reduceSub]);with_reducible first|done|exact rfl|exact bT|exact bF))|apply Ze|apply Zh|with_reducible apply Zl|simp only[↓X3]|with_reducible apply Zb))
   exact fin _ _ _ (by omega) (fun i a b c=>(s2 i (by omega) b c).trans (Zi _ _ (by omega))) ⟨ul2,il2,by omega,h2.mv (by omega) rfl rfl⟩ (sym rfl).symm
  by_cases c5:xk=5
  case neg =>
   ((repeat(first|((with_reducible first|apply Wp.gs|apply Wp.cs|apply Zd|apply Zf|apply Zc|apply Zg|apply Wp.step);case h=>((try simp(disch:=omega)only[↓reduceIte,Za,↓X0,X1,Nat.reduceEqDiff,Int.reduceEq,Nat.reduceAdd,Nat.reduceSub,X2,Zi,Nat.reduceLeDiff,hc,hh,g,c1,c2,c3,c4,c5]);with_reducible first|done|exact rfl|exact bT|exact bF))|apply Ze|apply Zh|with_reducible apply Zl|simp only[↓X3]|with_reducible apply Zb));try(with_reducible apply Zm;case h=>((try simp(disch:=omega)only[X1,Nat.reduceEqDiff,hc,hh,g,c1,c2,c3,c4,c5]);with_reducible exact rfl)))
   refine Zy (k111 (h.mv (by omega) (by intros;first|with_reducible rfl|simp(disch:=omega)only[Zi,Zj]) (by intros;first|with_reducible rfl|simp(disch:=omega)only[Zi,Zj])) 1 (by decide)) ?_
   rintro _ H2 n2 q2 s2 ⟨rfl,h2⟩
   (repeat(first|((with_reducible first|apply Wp.gs|apply Wp.cs|apply Zd|apply Zf|apply Zc|apply Zg|apply Wp.step);case h=>((try simp(disch:=omega)only[↓reduceIte,Za,↓X0,X1,Nat.reduceEqDiff,Int.reduceEq,Nat.reduceAdd,Nat.reduceSub]);with_reducible first|done|exact rfl|exact bT|exact bF))|apply Ze|apply Zh|with_reducible apply Zl|simp only[↓X3]|with_reducible apply Zb))
   exact fin _ _ _ (by omega) (fun i a b c=>(s2 i (by omega) b c).trans (Zi _ _ (by omega))) ⟨ul,il,.inl rfl,h2.mv (by omega) rfl rfl⟩ (bad (by omega) c4 (fun h=>c5 h.1)).symm
  subst c5
  have hmm:=chainOf_mem hp h0 h1
  have hcl:=chainOf_len h0 h1
  have hps:=hpos rfl
  ((repeat(first|((with_reducible first|apply Wp.gs|apply Wp.cs|apply Zd|apply Zf|apply Zc|apply Zg|apply Wp.step);case h=>((try simp(disch:=omega)only[↓reduceIte,Za,↓X0,X1,Nat.reduceEqDiff,Int.reduceEq,Nat.reduceAdd,Nat.reduceSub,X2,Zi,Nat.reduceLeDiff,hc,hh,g]);with_reducible first|done|exact rfl|exact bT|exact bF))|apply Ze|apply Zh|with_reducible apply Zl|simp only[↓X3]|with_reducible apply Zb));try(with_reducible apply Zm;case h=>((try simp(disch:=omega)only[X1,Nat.reduceEqDiff,hc,hh,g]);with_reducible exact rfl)))
  refine Wp.rtn (k89 (o:=0) (hv.li.mv (by omega) (by intros;first|with_reducible rfl|simp(disch:=omega)only[Zi,Zj])) hp (by omega) ((Zi _ _ (by omega)).trans hc) rfl _ h0 h1) ?_
  rintro _ H2 n2 q2 s2 ⟨up,rfl,idp,p1,p2,p3⟩
  have hnt:notTup up=true:=by rcases p3 with ⟨h,_⟩ | ⟨h,_⟩ <;> rw [h] <;> rfl
  have hk2:∀ i,i < n→H2 i=H i:=fun i hi=>(s2 i (by omega)).trans (Zi _ _ (by omega))
  have hc2:H2 c=some (.row [v,ul,ud,.int .i64 s.how] 0 true):=(hk2 c hcn).trans hc
  have hv2:Li eNode n H2 v p:=hv.li.mv (Nat.le_refl _) hk2
  cases hch:(Zu p x).2 with
  | false =>
   ((repeat(first|((with_reducible first|apply Wp.gs|apply Wp.cs|apply Zd|apply Zf|apply Zc|apply Zg|apply Wp.step);case h=>((try simp(disch:=omega)only[↓reduceIte,Za,↓X0,X1,Nat.reduceEqDiff,Int.reduceEq,Nat.reduceAdd,Nat.reduceSub,hnt]);with_reducible first|done|exact rfl|exact bT|exact bF))|apply Ze|apply Zh|with_reducible apply Zl|simp only[↓X3]|with_reducible apply Zb));try(with_reducible apply Zm;case h=>((try simp(disch:=omega)only[X1,Nat.reduceEqDiff,hnt]);with_reducible exact rfl)))
   refine Zy (k111 (h.mv (by omega) (hk2 c hcn) (hk2 il hil)) 1 (by decide)) ?_
   rintro _ H3 n3 q3 s3 ⟨rfl,h3⟩
   (repeat(first|((with_reducible first|apply Wp.gs|apply Wp.cs|apply Zd|apply Zf|apply Zc|apply Zg|apply Wp.step);case h=>((try simp(disch:=omega)only[↓reduceIte,Za,↓X0,X1,Nat.reduceEqDiff,Int.reduceEq,Nat.reduceAdd,Nat.reduceSub]);with_reducible first|done|exact rfl|exact bT|exact bF))|apply Ze|apply Zh|with_reducible apply Zl|simp only[↓X3]|with_reducible apply Zb))
   exact fin _ _ _ (by omega) (fun i a b c=>(s3 i (by omega) b c).trans (hk2 i a)) ⟨ul,il,.inl rfl,h3.mv (by omega) rfl rfl⟩ (bad (by omega) c4 (fun h=>by rw [hch] at h; cases h.2)).symm
  | true =>
   have pair:=pair rfl hch
   generalize hL:(Zu p x).1=L at *
   have m0:=gi_mem (l:=L) (i:=0) (by omega) (by omega)
   have r0:=hmm _ m0
   have gl:=(p3.lst (n:=n2) p2).iAll (i:=0) (by omega) (by omega)
   have hwl:LO eInt c il n2 H2 up L:=p3.lo p2 (by omega) (by omega)
   ((repeat(first|((with_reducible first|apply Wp.gs|apply Wp.cs|apply Zd|apply Zf|apply Zc|apply Zg|apply Wp.step);case h=>((try simp(disch:=omega)only[↓reduceIte,Za,↓X0,X1,Nat.reduceEqDiff,Int.reduceEq,Nat.reduceAdd,Nat.reduceSub,hnt,gl]);with_reducible first|done|exact rfl|exact bT|exact bF))|apply Ze|apply Zh|with_reducible apply Zl|simp only[↓X3]|with_reducible apply Zb));try(with_reducible apply Zm;case h=>((try simp(disch:=omega)only[X1,Nat.reduceEqDiff,hnt,gl]);with_reducible exact rfl)))
   refine Wp.rt (k90 (hv2.mv (by omega) (fun _ _=>rfl)) hc2 (by omega) _ r0.1 (by omega)) ?_
   intro H3 n3 q3 s3
   have hlu:Yc false up=some (.int .i64 L.length):=(p3.lst (n:=n2) p2).len
   have hEl:∀ y∈L,XC 123 v p true (cExpr p k) y:=fun y hy=>ih y (hmm y hy).1 (hmm y hy).2
   by_cases k4:(gi p (gi L 0)).k=4
   ·((repeat(first|((with_reducible first|apply Wp.gs|apply Wp.cs|apply Zd|apply Zf|apply Zc|apply Zg|apply Wp.step);case h=>((try simp(disch:=omega)only[↓reduceIte,Za,↓X0,X1,Nat.reduceEqDiff,Int.reduceEq,Nat.reduceAdd,Nat.reduceSub,k4]);with_reducible first|done|exact rfl|exact bT|exact bF))|apply Ze|apply Zh|with_reducible apply Zl|simp only[↓X3]|with_reducible apply Zb));try(with_reducible apply Zm;case h=>((try simp(disch:=omega)only[X1,Nat.reduceEqDiff,k4]);with_reducible exact rfl)))
    refine Wp.rt (k112 _ _ _) ?_
    intro H4 n4 q4 s4
    have hk4:∀ i,i < n→H4 i=H i:=fun i hi=>(s4 i (by omega)).trans ((s3 i (by omega)).trans (hk2 i hi))
    have hwl4:LO eInt c il n4 H4 up L:=hwl.mv (by omega) (fun i a _ _=>(s4 i (by omega)).trans (s3 i (by omega))) (.inl rfl)
    cases hsp:special (gi p (gi L 0)).s with
    | true =>
     rw [if_pos ⟨k4,hsp⟩] at pair
     ((repeat(first|((with_reducible first|apply Wp.gs|apply Wp.cs|apply Zd|apply Zf|apply Zc|apply Zg|apply Wp.step);case h=>((try simp(disch:=omega)only[↓reduceIte,Za,↓X0,X1,Nat.reduceEqDiff,Int.reduceEq,Nat.reduceAdd,Nat.reduceSub]);with_reducible first|done|exact rfl|exact bT|exact bF))|apply Ze|apply Zh|with_reducible apply Zl|simp only[↓X3]|with_reducible apply Zb));try(with_reducible apply Zm;case h=>((try simp(disch:=omega)only[X1,Nat.reduceEqDiff]);with_reducible exact rfl)))
     refine Zy (k128 hp (Goes.expr p k) hEl (h.mv (by omega) (hk4 c hcn) (hk4 il hil)) (hv.mv (by omega) (fun i a _ _=>hk4 i a) (.inl rfl)) he (fun y hy=>by have:=hmm y hy; omega) (hev.mv (by omega) (fun i a _ _=>hk4 i a) (.inl rfl)) (hwl4.mv (by omega) (fun _ _ _ _=>rfl) (.inl rfl)) (fun y hy=>by have:=hmm y hy; omega) (by omega)) ?_
     rintro _ H5 n5 q5 s5 ⟨rfl,ul5,il5,i5,h5⟩
     (repeat(first|((with_reducible first|apply Wp.gs|apply Wp.cs|apply Zd|apply Zf|apply Zc|apply Zg|apply Wp.step);case h=>((try simp(disch:=omega)only[↓reduceIte,Za,↓X0,X1,Nat.reduceEqDiff,Int.reduceEq,Nat.reduceAdd,Nat.reduceSub]);with_reducible first|done|exact rfl|exact bT|exact bF))|apply Ze|apply Zh|with_reducible apply Zl|simp only[↓X3]|with_reducible apply Zb))
     exact fin _ _ _ (by omega) (fun i a b c=>(s5 i (by omega) b c).trans (hk4 i a)) ⟨ul5,il5,by omega,h5.mv (by omega) rfl rfl⟩ pair.symm
    | false =>
     rw [if_neg (by rw [hsp]; rintro ⟨_,h⟩; cases h)] at pair
     have hw1:IntKind.i64.wrap ((L.length:Int) - 1)=(L.length:Int) - 1:=w64 (by omega)
     by_cases h5:5 < L.length
     ·rw [if_pos h5] at pair
      ((repeat(first|((with_reducible first|apply Wp.gs|apply Wp.cs|apply Zd|apply Zf|apply Zc|apply Zg|apply Wp.step);case h=>((try simp(disch:=omega)only[↓reduceIte,Za,↓X0,X1,Nat.reduceEqDiff,Int.reduceEq,Nat.reduceAdd,Nat.reduceSub,hlu,hw1,show (4:Int) < (L.length:Int) - 1 by omega]);with_reducible first|done|exact rfl|exact bT|exact bF))|apply Ze|apply Zh|with_reducible apply Zl|simp only[↓X3]|with_reducible apply Zb));try(with_reducible apply Zm;case h=>((try simp(disch:=omega)only[X1,Nat.reduceEqDiff,hlu,hw1,show (4:Int) < (L.length:Int) - 1 by omega]);with_reducible exact rfl)))
      refine Zy (k111 (h.mv (by omega) (hk4 c hcn) (hk4 il hil)) 1 (by decide)) ?_
      rintro _ H5 n5 q5 s5 ⟨rfl,h5⟩
      (repeat(first|((with_reducible first|apply Wp.gs|apply Wp.cs|apply Zd|apply Zf|apply Zc|apply Zg|apply Wp.step);case h=>((try simp(disch:=omega)only[↓reduceIte,Za,↓X0,X1,Nat.reduceEqDiff,Int.reduceEq,Nat.reduceAdd,Nat.reduceSub]);with_reducible first|done|exact rfl|exact bT|exact bF))|apply Ze|apply Zh|with_reducible apply Zl|simp only[↓X3]|with_reducible apply Zb))
      exact fin _ _ _ (by omega) (fun i a b c=>(s5 i (by omega) b c).trans (hk4 i a)) ⟨ul,il,.inl rfl,h5.mv (by omega) rfl rfl⟩ pair.symm
     ·rw [if_neg h5] at pair
      (repeat(first|((with_reducible first|apply Wp.gs|apply Wp.cs|apply Zd|apply Zf|apply Zc|apply Zg|apply Wp.step);case h=>((try simp(disch:=omega)only[↓reduceIte,Za,↓X0,X1,Nat.reduceEqDiff,Int.reduceEq,Nat.reduceAdd,Nat.reduceSub,hlu,hw1,show ¬ (4:Int) < (L.length:Int) - 1 by omega]);with_reducible first|done|exact rfl|exact bT|exact bF))|apply Ze|apply Zh|with_reducible apply Zl|simp only[↓X3]|with_reducible apply Zb))
      refine Wp.bind (l123 hEl (h.mv (m:=n4) (by omega) (hk4 c hcn) (hk4 il hil)) (hv.mv (by omega) (fun i a _ _=>hk4 i a) (.inl rfl)) he (fun y hy=>by have:=hmm y hy; omega) (hev.mv (by omega) (fun i a _ _=>hk4 i a) (.inl rfl)) hwl4 (by omega) _ _ (by omega) (by simp [Zk,Zq]) (by simp [Zk,Zq]) (by simp [Zk]) (by simp [Zk]) (by simp [Zk]) (by simp [Zk])) ?_
      rintro ⟨oe,ot,oH,on⟩ ⟨f1,f2,rfl,⟨ul5,il5,i5,h5'⟩,e0,e7⟩
      simp only at f1 f2 h5' e0 e7
      ((repeat(first|((with_reducible first|apply Wp.gs|apply Wp.cs|apply Zd|apply Zf|apply Zc|apply Zg|apply Wp.step);case h=>((try simp(disch:=omega)only[↓reduceIte,Za,↓X0,X1,Nat.reduceEqDiff,Int.reduceEq,Nat.reduceAdd,Nat.reduceSub,e0,e7,hlu,hw1,bld_ins3]);with_reducible first|done|exact rfl|exact bT|exact bF))|apply Ze|apply Zh|with_reducible apply Zl|simp only[↓X3]|with_reducible apply Zb));try(with_reducible apply Zm;case h=>((try simp(disch:=omega)only[X1,Nat.reduceEqDiff,e0,e7,hlu,hw1,bld_ins3]);with_reducible exact rfl)))
      refine Zy (k115 (h5'.mv (by omega) rfl rfl) (Zw 7 0 ((L.length:Int) - 1))) ?_
      rintro _ H6 n6 q6 s6 ⟨rfl,ul6,il6,i6,h6⟩
      have hcn5:=h5'.cn
      (repeat(first|((with_reducible first|apply Wp.gs|apply Wp.cs|apply Zd|apply Zf|apply Zc|apply Zg|apply Wp.step);case h=>((try simp(disch:=omega)only[↓reduceIte,Za,↓X0,X1,Nat.reduceEqDiff,Int.reduceEq,Nat.reduceAdd,Nat.reduceSub]);with_reducible first|done|exact rfl|exact bT|exact bF))|apply Ze|apply Zh|with_reducible apply Zl|simp only[↓X3]|with_reducible apply Zb))
      exact fin _ _ _ (by omega) (fun i a b c=>by rw [s6 i (by omega) b (by omega),f2 i (by omega) b (by omega)]; exact hk4 i a) ⟨ul6,il6,by omega,h6.mv (by omega) rfl rfl⟩ pair.symm
   ·rw [if_neg (fun h=>k4 h.1)] at pair
    have hk4:∀ i,i < n→H3 i=H i:=fun i hi=>((s3 i (by omega)).trans (hk2 i hi))
    have hwl4:LO eInt c il n3 H3 up L:=hwl.mv (by omega) (fun i a _ _=>(s3 i (by omega))) (.inl rfl)
    have hw1:IntKind.i64.wrap ((L.length:Int) - 1)=(L.length:Int) - 1:=w64 (by omega)
    by_cases h5:5 < L.length
    ·rw [if_pos h5] at pair
     ((repeat(first|((with_reducible first|apply Wp.gs|apply Wp.cs|apply Zd|apply Zf|apply Zc|apply Zg|apply Wp.step);case h=>((try simp(disch:=omega)only[↓reduceIte,Za,↓X0,X1,Nat.reduceEqDiff,Int.reduceEq,Nat.reduceAdd,Nat.reduceSub,k4,hlu,hw1,show (4:Int) < (L.length:Int) - 1 by omega]);with_reducible first|done|exact rfl|exact bT|exact bF))|apply Ze|apply Zh|with_reducible apply Zl|simp only[↓X3]|with_reducible apply Zb));try(with_reducible apply Zm;case h=>((try simp(disch:=omega)only[X1,Nat.reduceEqDiff,k4,hlu,hw1,show (4:Int) < (L.length:Int) - 1 by omega]);with_reducible exact rfl)))
     refine Zy (k111 (h.mv (by omega) (hk4 c hcn) (hk4 il hil)) 1 (by decide)) ?_
     rintro _ H5 n5 q5 s5 ⟨rfl,h5⟩
     (repeat(first|((with_reducible first|apply Wp.gs|apply Wp.cs|apply Zd|apply Zf|apply Zc|apply Zg|apply Wp.step);case h=>((try simp(disch:=omega)only[↓reduceIte,Za,↓X0,X1,Nat.reduceEqDiff,Int.reduceEq,Nat.reduceAdd,Nat.reduceSub]);with_reducible first|done|exact rfl|exact bT|exact bF))|apply Ze|apply Zh|with_reducible apply Zl|simp only[↓X3]|with_reducible apply Zb))
     exact fin _ _ _ (by omega) (fun i a b c=>(s5 i (by omega) b c).trans (hk4 i a)) ⟨ul,il,.inl rfl,h5.mv (by omega) rfl rfl⟩ pair.symm
    ·rw [if_neg h5] at pair
     (repeat(first|((with_reducible first|apply Wp.gs|apply Wp.cs|apply Zd|apply Zf|apply Zc|apply Zg|apply Wp.step);case h=>((try simp(disch:=omega)only[↓reduceIte,Za,↓X0,X1,Nat.reduceEqDiff,Int.reduceEq,Nat.reduceAdd,Nat.reduceSub,k4,hlu,hw1,show ¬ (4:Int) < (L.length:Int) - 1 by omega]);with_reducible first|done|exact rfl|exact bT|exact bF))|apply Ze|apply Zh|with_reducible apply Zl|simp only[↓X3]|with_reducible apply Zb))
     refine Wp.bind (l123 hEl (h.mv (m:=n3) (by omega) (hk4 c hcn) (hk4 il hil)) (hv.mv (by omega) (fun i a _ _=>hk4 i a) (.inl rfl)) he (fun y hy=>by have:=hmm y hy; omega) (hev.mv (by omega) (fun i a _ _=>hk4 i a) (.inl rfl)) hwl4 (by omega) _ _ (by omega) (by simp [Zk,Zq]) (by simp [Zk,Zq]) (by simp [Zk]) (by simp [Zk]) (by simp [Zk]) (by simp [Zk])) ?_
     rintro ⟨oe,ot,oH,on⟩ ⟨f1,f2,rfl,⟨ul5,il5,i5,h5'⟩,e0,e7⟩
     simp only at f1 f2 h5' e0 e7
     ((repeat(first|((with_reducible first|apply Wp.gs|apply Wp.cs|apply Zd|apply Zf|apply Zc|apply Zg|apply Wp.step);case h=>((try simp(disch:=omega)only[↓reduceIte,Za,↓X0,X1,Nat.reduceEqDiff,Int.reduceEq,Nat.reduceAdd,Nat.reduceSub,e0,e7,hlu,hw1,bld_ins3]);with_reducible first|done|exact rfl|exact bT|exact bF))|apply Ze|apply Zh|with_reducible apply Zl|simp only[↓X3]|with_reducible apply Zb));try(with_reducible apply Zm;case h=>((try simp(disch:=omega)only[X1,Nat.reduceEqDiff,e0,e7,hlu,hw1,bld_ins3]);with_reducible exact rfl)))
     refine Zy (k115 (h5'.mv (by omega) rfl rfl) (Zw 7 0 ((L.length:Int) - 1))) ?_
     rintro _ H6 n6 q6 s6 ⟨rfl,ul6,il6,i6,h6⟩
     have hcn5:=h5'.cn
     (repeat(first|((with_reducible first|apply Wp.gs|apply Wp.cs|apply Zd|apply Zf|apply Zc|apply Zg|apply Wp.step);case h=>((try simp(disch:=omega)only[↓reduceIte,Za,↓X0,X1,Nat.reduceEqDiff,Int.reduceEq,Nat.reduceAdd,Nat.reduceSub]);with_reducible first|done|exact rfl|exact bT|exact bF))|apply Ze|apply Zh|with_reducible apply Zl|simp only[↓X3]|with_reducible apply Zb))
     exact fin _ _ _ (by omega) (fun i a b c=>by rw [s6 i (by omega) b (by omega),f2 i (by omega) b (by omega)]; exact hk4 i a) ⟨ul6,il6,by omega,h6.mv (by omega) rfl rfl⟩ pair.symm
end Go.Proofs.Ytbgkimkbngocjaa.Ax
set_option linter.unusedVariables false
set_option linter.unusedSimpArgs false
set_option maxHeartbeats 8000000
namespace Go.Proofs.Ytbgkimkbngocjaa.Ax
open Go
theorem l124 {v:Value} {p:List Nd} {E:CEx} {l:List Int} (hg:∀ v e,Goes (E v e)) (hE:∀ x∈l,XR 124 v p E x) {c il n:Nat} {H:Hp} {ul ud w ew:Value} {s:CS} {e:Env} (h:CC c il n H v ul ud s) (hv:LO eNode c il n H v p) (he:EnvOk e) (hex:∀ x∈l,e.length+x.toNat≤90000) (hev:EV c il n H ew e) (hw:LO eInt c il n H w l) (hl:l.length≤1000000):∀ t n1,n≤n1→t 0=ptr c 0→t 2=ew→t 9=w→t 12=.int .i64 0 →
  Wp (Ya (S124L0 (Call Try.prog) Ya) t H n1) (fun o=>n≤o.n∧Kept c il n H o.H∧o.e=.exit 1∧NextW c il n o.n o.H v ud (l.foldl (fun s x=>E x e s) s)∧o.t 0=ptr c 0∧o.t 9=w):=by
 intro t n1 hn1 e0 e2 e9 e12
 have hcn:=h.cn
 have hil:=h.iln
 refine Ye (fun d T H' n'=>∃ (j:Nat) (ul':Value) (il':Nat) (a:CS),j+d=l.length∧n≤n'∧Kept c il n H H'∧(il'=il∨n≤il')∧CC c il' n' H' v ul' ud a∧Wk a ((l.take j).foldl (fun s x=>E x e s) s)∧T 0=ptr c 0∧T 2=ew∧T 9=w∧T 12=.int .i64 j) _ ?_ l.length _ _ _ ⟨0,ul,il,s,by omega,hn1,fun _ _ _ _=>rfl,.inl rfl,h.mv (by omega) rfl rfl,Wk.refl _,e0,e2,e9,e12⟩
 rintro d T H' n' ⟨j,ul',il',a,hj,hn,s1,hi',h',hwk,e0,e2,e9,e12⟩
 unfold S124L0
 have hw':=hw.mv hn s1 hi'
 have hlen:=hw'.li.len
 by_cases hlt:(j:Int) < l.length
 ·have hlt':j < l.length:=by omega
  have hev':=hev.mv hn s1 hi'
  have hv':=hv.mv hn s1 hi'
  have g:=hw'.li.iAll (i:=(j:Int)) (by omega) hlt
  have hmem:=gi_mem (l:=l) (i:=(j:Int)) (by omega) hlt
  have hws:=wj (j:=j) (len:=l.length) hlt' (by omega)
  have hcn':=h'.cn
  have hil':=h'.iln
  ((repeat(first|((with_reducible first|apply Wp.gs|apply Wp.cs|apply Zd|apply Zf|apply Zc|apply Zg|apply Wp.step);case h=>((try simp(disch:=omega)only[↓reduceIte,Za,↓X0,X1,Nat.reduceEqDiff,Int.reduceEq,Nat.reduceAdd,Nat.reduceSub,e0,e2,e9,e12,hlen,hlt,g]);with_reducible first|done|exact rfl|exact bT|exact bF))|apply Ze|apply Zh|with_reducible apply Zl|simp only[↓X3]|with_reducible apply Zb));try(with_reducible apply Zm;case h=>((try simp(disch:=omega)only[X1,Nat.reduceEqDiff,e0,e2,e9,e12,hlen,hlt,g]);with_reducible exact rfl)))
  refine Zy (hE _ hmem c il' _ _ ul' ud ew _ e (h'.mv (by omega) rfl rfl) (hv'.mv (by omega) (fun i a b c=>rfl) (.inl rfl)) he (hex _ hmem) (hev'.mv (by omega) (fun i a b c=>rfl) (.inl rfl))) ?_
  rintro _ H3 n3 q3 s3 ⟨rfl,a3,w3,ul3,il3,j1,j2⟩
  (repeat(first|((with_reducible first|apply Wp.gs|apply Wp.cs|apply Zd|apply Zf|apply Zc|apply Zg|apply Wp.step);case h=>((try simp(disch:=omega)only[↓reduceIte,Za,↓X0,X1,Nat.reduceEqDiff,Int.reduceEq,Nat.reduceAdd,Nat.reduceSub,e12,hws]);with_reducible first|done|exact rfl|exact bT|exact bF))|apply Ze|apply Zh|with_reducible apply Zl|simp only[↓X3]|with_reducible apply Zb))
  refine Wp.pure (Nxt.go (d - 1) (by omega) ⟨j+1,ul3,il3,a3,by omega,by omega,fun i a b c=>by rw [s3 i (by omega) b (by omega)]; exact s1 i a b c,by omega,j2.mv (by omega) rfl rfl,?_,by simp [Zk,e0],by simp [Zk,e2],by simp [Zk,e9],by simp [Zk]⟩)
  rw [take_next hlt',List.foldl_append,List.foldl_cons,List.foldl_nil,← gi_nat hlt']
  exact hwk.step (hg _ _) w3
 ·((repeat(first|((with_reducible first|apply Wp.gs|apply Wp.cs|apply Zd|apply Zf|apply Zc|apply Zg|apply Wp.step);case h=>((try simp(disch:=omega)only[↓reduceIte,Za,↓X0,X1,Nat.reduceEqDiff,Int.reduceEq,Nat.reduceAdd,Nat.reduceSub,e9,e12,hlen,hlt]);with_reducible first|done|exact rfl|exact bT|exact bF))|apply Ze|apply Zh|with_reducible apply Zl|simp only[↓X3]|with_reducible apply Zb));try(with_reducible apply Zm;case h=>((try simp(disch:=omega)only[X1,Nat.reduceEqDiff,e9,e12,hlen,hlt]);with_reducible exact rfl)))
  rw [List.take_of_length_le (by omega)] at hwk
  exact Wp.pure (Nxt.exit ⟨by simp only; omega,s1,rfl,⟨a,hwk,ul',il',hi',h'.mv (by simp only; omega) rfl rfl⟩,by simp [Zk,e0],by simp [Zk,e9]⟩)
theorem k124 {v:Value} {p:List Nd} (hp:PoolOk p):∀ (k:Nat) (x:Int),0≤x→x < (p.length:Int)→x < k→XR 124 v p (cExpr p k) x
 | 0,x,h0,h1,hk=>by omega
 | k+1,x,h0,h1,hk=>by
  intro c il n H ul ud ew s e h hv he hex hev
  have ih:=fun (y:Int) (y0:0≤y) (y1:y < x)=>k124 (v:=v) hp k y y0 (by omega) (by omega)
  apply RtA.of
  rw [c124]; unfold S124
  have hcn:=h.cn
  have hil:=h.iln
  have hne:=h.ne
  have hc:=h.hc
  have hpl:=hp.2
  by_cases hh:s.how=0
  case neg =>
   have e1:cExpr p (k+1) x e s=s:=(Goes.expr p (k+1) x e s).1 hh
   (repeat(first|((with_reducible first|apply Wp.gs|apply Wp.cs|apply Zd|apply Zf|apply Zc|apply Zg|apply Wp.step);case h=>((try simp(disch:=omega)only[↓reduceIte,Za,↓X0,X1,Nat.reduceEqDiff,Int.reduceEq,Nat.reduceAdd,Nat.reduceSub,X2,Zi,Nat.reduceLeDiff,hc,hh]);with_reducible first|done|exact rfl|exact bT|exact bF))|apply Ze|apply Zh|with_reducible apply Zl|simp only[↓X3]|with_reducible apply Zb))
   exact Wp.pure ⟨by simp only; omega,(by intros;first|with_reducible rfl|simp(disch:=omega)only[Zi,Zj]),rfl,s,by rw [e1]; exact Wk.refl _,ul,il,.inl rfl,h.mv (by simp only; omega) rfl rfl⟩
  have g:=hv.li.nAll (i:=x) h0 h1
  have fin:∀ (H2:Hp) (n2:Nat) (S:CS),n≤n2→Kept c il n H H2→NextW c il n n2 H2 v ud S→S=cExpr p (k+1) x e s→Wp (some (Value.tuple ⟨[]⟩,H2,n2)) (fun q=>n≤q.2.2∧(∀ i,i < n→i≠c→i≠il→q.2.1 i=H i)∧q.1=.tuple ⟨[]⟩∧NextW c il n q.2.2 q.2.1 v ud (cExpr p (k+1) x e s)):=by
   intro H2 n2 S z1 z2 z3 z4
   exact Wp.pure ⟨z1,z2,rfl,by rw [← z4]; exact z3⟩
  have leaf:=cExpr_leaf (p:=p) (k:=k) (v:=x) (e:=e) hh
  have sym:=cExpr_sym (p:=p) (k:=k) (v:=x) (e:=e) hh
  have bad:=cExpr_bad (p:=p) (k:=k) (v:=x) (e:=e) hh
  have pair:=cExpr_pair (p:=p) (k:=k) (v:=x) (e:=e) hh
  have hpos:=chainOf_pos hp h0 h1
  have hcf:cFail 1 s=⟨1,s.L,s.D⟩:=by unfold cFail; rw [if_pos hh]
  rw [hcf] at sym bad pair
  generalize cExpr p (k+1) x e s=F at *
  generalize hx:gi p x=X at *
  obtain ⟨xk,xn,xs,xa,xb⟩:=X
  simp only [Nd.cells] at g leaf sym bad pair hpos
  -- something came up
  have nogood:∀ (H0:Hp) (n0:Nat),n≤n0→(∀ i,i < n→H0 i=H i)→(⟨1,s.L,s.D⟩:CS)=F→Wp (some (Value.tuple ⟨[]⟩,H0.set c (some (.row [v,ul,ud,.int .i64 1] 0 true)),n0)) (fun q=>n≤q.2.2∧(∀ i,i < n→i≠c→i≠il→q.2.1 i=H i)∧q.1=.tuple ⟨[]⟩∧NextW c il n q.2.2 q.2.1 v ud F):=fun H0 n0 z1 z2 z3 =>
   fin _ _ _ z1 (fun i a b c=>(Zi _ _ b).trans (z2 i a)) ⟨_,Wk.refl _,ul,il,.inl rfl,h.how 1 (by decide) z1 (Zj _ _ _) ((Zi _ _ hne).trans (z2 il hil))⟩ z3
  by_cases c1:xk=1
  ·subst c1
   ((repeat(first|((with_reducible first|apply Wp.gs|apply Wp.cs|apply Zd|apply Zf|apply Zc|apply Zg|apply Wp.step);case h=>((try simp(disch:=omega)only[↓reduceIte,Za,↓X0,X1,Nat.reduceEqDiff,Int.reduceEq,Nat.reduceAdd,Nat.reduceSub,X2,Zi,Nat.reduceLeDiff,hc,hh,g,bld_ins2]);with_reducible first|done|exact rfl|exact bT|exact bF))|apply Ze|apply Zh|with_reducible apply Zl|simp only[↓X3]|with_reducible apply Zb));try(with_reducible apply Zm;case h=>((try simp(disch:=omega)only[X1,Nat.reduceEqDiff,hc,hh,g,bld_ins2]);with_reducible exact rfl)))
   refine Zy (k117 (h.mv (by omega) (by intros;first|with_reducible rfl|simp(disch:=omega)only[Zi,Zj]) (by intros;first|with_reducible rfl|simp(disch:=omega)only[Zi,Zj])) (Zw 1 x 0)) ?_
   rintro _ H2 n2 q2 s2 ⟨rfl,ul2,il2,i2,h2⟩
   (repeat(first|((with_reducible first|apply Wp.gs|apply Wp.cs|apply Zd|apply Zf|apply Zc|apply Zg|apply Wp.step);case h=>((try simp(disch:=omega)only[↓reduceIte,Za,↓X0,X1,Nat.reduceEqDiff,Int.reduceEq,Nat.reduceAdd,Nat.reduceSub]);with_reducible first|done|exact rfl|exact bT|exact bF))|apply Ze|apply Zh|with_reducible apply Zl|simp only[↓X3]|with_reducible apply Zb))
   exact fin _ _ _ (by omega) (fun i a b c=>(s2 i (by omega) b c).trans (Zi _ _ (by omega))) ⟨_,Wk.refl _,ul2,il2,by omega,h2.mv (by omega) rfl rfl⟩ (leaf (by omega)).symm
  by_cases c2:xk=2
  ·subst c2
   ((repeat(first|((with_reducible first|apply Wp.gs|apply Wp.cs|apply Zd|apply Zf|apply Zc|apply Zg|apply Wp.step);case h=>((try simp(disch:=omega)only[↓reduceIte,Za,↓X0,X1,Nat.reduceEqDiff,Int.reduceEq,Nat.reduceAdd,Nat.reduceSub,X2,Zi,Nat.reduceLeDiff,hc,hh,g,bld_ins2]);with_reducible first|done|exact rfl|exact bT|exact bF))|apply Ze|apply Zh|with_reducible apply Zl|simp only[↓X3]|with_reducible apply Zb));try(with_reducible apply Zm;case h=>((try simp(disch:=omega)only[X1,Nat.reduceEqDiff,hc,hh,g,bld_ins2]);with_reducible exact rfl)))
   refine Zy (k117 (h.mv (by omega) (by intros;first|with_reducible rfl|simp(disch:=omega)only[Zi,Zj]) (by intros;first|with_reducible rfl|simp(disch:=omega)only[Zi,Zj])) (Zw 1 x 0)) ?_
   rintro _ H2 n2 q2 s2 ⟨rfl,ul2,il2,i2,h2⟩
   (repeat(first|((with_reducible first|apply Wp.gs|apply Wp.cs|apply Zd|apply Zf|apply Zc|apply Zg|apply Wp.step);case h=>((try simp(disch:=omega)only[↓reduceIte,Za,↓X0,X1,Nat.reduceEqDiff,Int.reduceEq,Nat.reduceAdd,Nat.reduceSub]);with_reducible first|done|exact rfl|exact bT|exact bF))|apply Ze|apply Zh|with_reducible apply Zl|simp only[↓X3]|with_reducible apply Zb))
   exact fin _ _ _ (by omega) (fun i a b c=>(s2 i (by omega) b c).trans (Zi _ _ (by omega))) ⟨_,Wk.refl _,ul2,il2,by omega,h2.mv (by omega) rfl rfl⟩ (leaf (by omega)).symm
  by_cases c3:xk=3
  ·subst c3
   ((repeat(first|((with_reducible first|apply Wp.gs|apply Wp.cs|apply Zd|apply Zf|apply Zc|apply Zg|apply Wp.step);case h=>((try simp(disch:=omega)only[↓reduceIte,Za,↓X0,X1,Nat.reduceEqDiff,Int.reduceEq,Nat.reduceAdd,Nat.reduceSub,X2,Zi,Nat.reduceLeDiff,hc,hh,g,bld_ins2]);with_reducible first|done|exact rfl|exact bT|exact bF))|apply Ze|apply Zh|with_reducible apply Zl|simp only[↓X3]|with_reducible apply Zb));try(with_reducible apply Zm;case h=>((try simp(disch:=omega)only[X1,Nat.reduceEqDiff,hc,hh,g,bld_ins2]);with_reducible exact rfl)))
   refine Zy (k117 (h.mv (by omega) (by intros;first|with_reducible rfl|simp(disch:=omega)only[Zi,Zj]) (by intros;first|with_reducible rfl|simp(disch:=omega)only[Zi,Zj])) (Zw 1 x 0)) ?_
   rintro _ H2 n2 q2 s2 ⟨rfl,ul2,il2,i2,h2⟩
   (repeat(first|((with_reducible first|apply Wp.gs|apply Wp.cs|apply Zd|apply Zf|apply Zc|apply Zg|apply Wp.step);case h=>((try simp(disch:=omega)only[↓reduceIte,Za,↓X0,X1,Nat.reduceEqDiff,Int.reduceEq,Nat.reduceAdd,Nat.reduceSub]);with_reducible first|done|exact rfl|exact bT|exact bF))|apply Ze|apply Zh|with_reducible apply Zl|simp only[↓X3]|with_reducible apply Zb))
   exact fin _ _ _ (by omega) (fun i a b c=>(s2 i (by omega) b c).trans (Zi _ _ (by omega))) ⟨_,Wk.refl _,ul2,il2,by omega,h2.mv (by omega) rfl rfl⟩ (leaf (by omega)).symm
  by_cases c4:xk=4
  ·subst c4
   ((repeat(first|((with_reducible first|apply Wp.gs|apply Wp.cs|apply Zd|apply Zf|apply Zc|apply Zg|apply Wp.step);case h=>((try simp(disch:=omega)only[↓reduceIte,Za,↓X0,X1,Nat.reduceEqDiff,Int.reduceEq,Nat.reduceAdd,Nat.reduceSub,X2,Zi,Nat.reduceLeDiff,hc,hh,g]);with_reducible first|done|exact rfl|exact bT|exact bF))|apply Ze|apply Zh|with_reducible apply Zl|simp only[↓X3]|with_reducible apply Zb));try(with_reducible apply Zm;case h=>((try simp(disch:=omega)only[X1,Nat.reduceEqDiff,hc,hh,g]);with_reducible exact rfl)))
   refine Wp.rt (k118 _ _ _) ?_
   intro H2 n2 q2 s2
   have hk2:∀ i,i < n→H2 i=H i:=fun i hi=>(s2 i (by omega)).trans (Zi _ _ (by omega))
   have hbox:H2 (n+13)=some (.row [.int .i64 4,.int .i64 xn,.string xs,.int .i64 xa,.int .i64 xb] 0 true):=(s2 _ (by omega)).trans (Zj _ _ _)
   cases hsp:special xs with
   | true =>
    have sym:=sym rfl
    rw [if_pos hsp] at sym
    have hst:=h.st 1 (H':=H2) (hk2 c hcn)
    (repeat(first|((with_reducible first|apply Wp.gs|apply Wp.cs|apply Zd|apply Zf|apply Zc|apply Zg|apply Wp.step);case h=>((try simp(disch:=omega)only[↓reduceIte,Za,↓X0,X1,Nat.reduceEqDiff,Int.reduceEq,Nat.reduceAdd,Nat.reduceSub,X2,Zi,Nat.reduceLeDiff,hst]);with_reducible first|done|exact rfl|exact bT|exact bF))|apply Ze|apply Zh|with_reducible apply Zl|simp only[↓X3]|with_reducible apply Zb))
    exact nogood _ _ (by omega) hk2 sym.symm
   | false =>
    have sym:=sym rfl
    rw [if_neg (by rw [hsp]; decide)] at sym
    ((repeat(first|((with_reducible first|apply Wp.gs|apply Wp.cs|apply Zd|apply Zf|apply Zc|apply Zg|apply Wp.step);case h=>((try simp(disch:=omega)only[↓reduceIte,Za,↓X0,X1,Nat.reduceEqDiff,Int.reduceEq,Nat.reduceAdd,Nat.reduceSub,X2,Zi,Nat.reduceLeDiff,hbox]);with_reducible first|done|exact rfl|exact bT|exact bF))|apply Ze|apply Zh|with_reducible apply Zl|simp only[↓X3]|with_reducible apply Zb));try(with_reducible apply Zm;case h=>((try simp(disch:=omega)only[X1,Nat.reduceEqDiff,hbox]);with_reducible exact rfl)))
    refine Wp.rt (k129 xs he (hev.mv (by omega) (fun i a _ _=>hk2 i a) (.inl rfl))) ?_
    intro H3 n3 q3 s3
    have hk3:∀ i,i < n→H3 i=H i:=fun i hi=>(s3 i (by omega)).trans (hk2 i hi)
    have hbox3:H3 (n+13)=some (.row [.int .i64 4,.int .i64 xn,.string xs,.int .i64 xa,.int .i64 xb] 0 true):=(s3 _ (by omega)).trans hbox
    unfold varV
    cases hcv:cVar xs e 0 with
    | none =>
     have hvi:varIns xs e=⟨3,0,0,xs⟩:=by unfold varIns; rw [hcv]
     rw [hvi] at sym
     simp only
     ((repeat(first|((with_reducible first|apply Wp.gs|apply Wp.cs|apply Zd|apply Zf|apply Zc|apply Zg|apply Wp.step);case h=>((try simp(disch:=omega)only[↓reduceIte,Za,↓X0,X1,Nat.reduceEqDiff,Int.reduceEq,Nat.reduceAdd,Nat.reduceSub,X2,Zi,Nat.reduceLeDiff,hbox3,show ¬ (0:Int) ≤ -1 by decide,bld_insS]);with_reducible first|done|exact rfl|exact bT|exact bF))|apply Ze|apply Zh|with_reducible apply Zl|simp only[↓X3]|with_reducible apply Zb));try(with_reducible apply Zm;case h=>((try simp(disch:=omega)only[X1,Nat.reduceEqDiff,hbox3,show ¬ (0:Int) ≤ -1 by decide,bld_insS]);with_reducible exact rfl)))
     refine Zy (k117 (h.mv (by omega) (hk3 c hcn) (hk3 il hil)) ⟨3,0,0,xs⟩) ?_
     rintro _ H4 n4 q4 s4 ⟨rfl,ul4,il4,i4,h4⟩
     (repeat(first|((with_reducible first|apply Wp.gs|apply Wp.cs|apply Zd|apply Zf|apply Zc|apply Zg|apply Wp.step);case h=>((try simp(disch:=omega)only[↓reduceIte,Za,↓X0,X1,Nat.reduceEqDiff,Int.reduceEq,Nat.reduceAdd,Nat.reduceSub]);with_reducible first|done|exact rfl|exact bT|exact bF))|apply Ze|apply Zh|with_reducible apply Zl|simp only[↓X3]|with_reducible apply Zb))
     exact fin _ _ _ (by omega) (fun i a b c=>(s4 i (by omega) b c).trans (hk3 i a)) ⟨_,Wk.refl _,ul4,il4,by omega,h4.mv (by omega) rfl rfl⟩ sym.symm
    | some ab =>
     obtain ⟨a,b⟩:=ab
     have hvi:varIns xs e=Zw 2 a b:=by unfold varIns; rw [hcv]
     rw [hvi] at sym
     simp only
     ((repeat(first|((with_reducible first|apply Wp.gs|apply Wp.cs|apply Zd|apply Zf|apply Zc|apply Zg|apply Wp.step);case h=>((try simp(disch:=omega)only[↓reduceIte,Za,↓X0,X1,Nat.reduceEqDiff,Int.reduceEq,Nat.reduceAdd,Nat.reduceSub,X2,Zi,Nat.reduceLeDiff,show (0:Int)≤(a:Int) by omega,bld_ins]);with_reducible first|done|exact rfl|exact bT|exact bF))|apply Ze|apply Zh|with_reducible apply Zl|simp only[↓X3]|with_reducible apply Zb));try(with_reducible apply Zm;case h=>((try simp(disch:=omega)only[X1,Nat.reduceEqDiff,show (0:Int)≤(a:Int) by omega,bld_ins]);with_reducible exact rfl)))
     refine Zy (k117 (h.mv (by omega) (hk3 c hcn) (hk3 il hil)) (Zw 2 a b)) ?_
     rintro _ H4 n4 q4 s4 ⟨rfl,ul4,il4,i4,h4⟩
     (repeat(first|((with_reducible first|apply Wp.gs|apply Wp.cs|apply Zd|apply Zf|apply Zc|apply Zg|apply Wp.step);case h=>((try simp(disch:=omega)only[↓reduceIte,Za,↓X0,X1,Nat.reduceEqDiff,Int.reduceEq,Nat.reduceAdd,Nat.reduceSub]);with_reducible first|done|exact rfl|exact bT|exact bF))|apply Ze|apply Zh|with_reducible apply Zl|simp only[↓X3]|with_reducible apply Zb))
     exact fin _ _ _ (by omega) (fun i a b c=>(s4 i (by omega) b c).trans (hk3 i a)) ⟨_,Wk.refl _,ul4,il4,by omega,h4.mv (by omega) rfl rfl⟩ sym.symm
  by_cases c5:xk=5
  case neg =>
   have hst:=h.st 1 (H':=(H.set (n+13) (some (.row [.int .i64 xk,.int .i64 xn,.string xs,.int .i64 xa,.int .i64 xb] 0 true)))) (Zi _ _ (by omega))
   (repeat(first|((with_reducible first|apply Wp.gs|apply Wp.cs|apply Zd|apply Zf|apply Zc|apply Zg|apply Wp.step);case h=>((try simp(disch:=omega)only[↓reduceIte,Za,↓X0,X1,Nat.reduceEqDiff,Int.reduceEq,Nat.reduceAdd,Nat.reduceSub,X2,Zi,Nat.reduceLeDiff,hc,hh,g,c1,c2,c3,c4,c5,hst]);with_reducible first|done|exact rfl|exact bT|exact bF))|apply Ze|apply Zh|with_reducible apply Zl|simp only[↓X3]|with_reducible apply Zb))
   exact nogood _ _ (by omega) (by intros;first|with_reducible rfl|simp(disch:=omega)only[Zi,Zj]) (bad (by omega) c4 (fun h=>c5 h.1)).symm
  subst c5
  have hmm:=chainOf_mem hp h0 h1
  have hcl:=chainOf_len h0 h1
  have hps:=hpos rfl
  ((repeat(first|((with_reducible first|apply Wp.gs|apply Wp.cs|apply Zd|apply Zf|apply Zc|apply Zg|apply Wp.step);case h=>((try simp(disch:=omega)only[↓reduceIte,Za,↓X0,X1,Nat.reduceEqDiff,Int.reduceEq,Nat.reduceAdd,Nat.reduceSub,X2,Zi,Nat.reduceLeDiff,hc,hh,g]);with_reducible first|done|exact rfl|exact bT|exact bF))|apply Ze|apply Zh|with_reducible apply Zl|simp only[↓X3]|with_reducible apply Zb));try(with_reducible apply Zm;case h=>((try simp(disch:=omega)only[X1,Nat.reduceEqDiff,hc,hh,g]);with_reducible exact rfl)))
  refine Wp.rtn (k94 (hv.li.mv (by omega) (by intros;first|with_reducible rfl|simp(disch:=omega)only[Zi,Zj])) hp _ h0 h1) ?_
  rintro _ H2 n2 q2 s2 ⟨up,rfl,hup⟩
  have hnt:notTup up=true:=by obtain ⟨_,_,_,p3⟩:=hup; rcases p3 with ⟨h,_⟩ | ⟨h,_⟩ <;> rw [h] <;> rfl
  have hk2:∀ i,i < n→H2 i=H i:=fun i hi=>(s2 i (by omega)).trans (Zi _ _ (by omega))
  have hc2:H2 c=some (.row [v,ul,ud,.int .i64 s.how] 0 true):=(hk2 c hcn).trans hc
  by_cases hch:(Zu p x).2=true
  case neg =>
   have hlo:listOf p x=([],false):=by unfold listOf; rw [if_neg hch]
   have hst:=h.st 1 (H':=H2) (hk2 c hcn)
   (repeat(first|((with_reducible first|apply Wp.gs|apply Wp.cs|apply Zd|apply Zf|apply Zc|apply Zg|apply Wp.step);case h=>((try simp(disch:=omega)only[↓reduceIte,Za,↓X0,X1,Nat.reduceEqDiff,Int.reduceEq,Nat.reduceAdd,Nat.reduceSub,X2,Zi,Nat.reduceLeDiff,hnt,hlo,hst]);with_reducible first|done|exact rfl|exact bT|exact bF))|apply Ze|apply Zh|with_reducible apply Zl|simp only[↓X3]|with_reducible apply Zb))
   exact nogood _ _ (by omega) hk2 (bad (by omega) c4 (fun h=>hch h.2)).symm
  have hlo:listOf p x=((Zu p x).1,true):=by unfold listOf; rw [if_pos hch]
  rw [hlo] at hup
  simp only at hup
  have pair:=pair rfl hch
  obtain ⟨idp,p1,p2,p3⟩:=hup
  generalize hL:(Zu p x).1=L at *
  have m0:=gi_mem (l:=L) (i:=0) (by omega) (by omega)
  have r0:=hmm _ m0
  have gl:=(p3.lst (n:=n2) p2).iAll (i:=0) (by omega) (by omega)
  have g0:=(hv.li.mv (H':=H2) (Nat.le_refl _) hk2).nAll (i:=gi L 0) r0.1 (by omega)
  have hcl0:(gi p (gi L 0)).cells=[.int .i64 (gi p (gi L 0)).k,.int .i64 (gi p (gi L 0)).n,.string (gi p (gi L 0)).s,.int .i64 (gi p (gi L 0)).a,.int .i64 (gi p (gi L 0)).b]:=rfl
  rw [hcl0] at g0
  have hlu:Yc false up=some (.int .i64 L.length):=(p3.lst (n:=n2) p2).len
  have hEl:∀ y∈L,XR 124 v p (cExpr p k) y:=fun y hy=>ih y (hmm y hy).1 (hmm y hy).2
  have rest:∀ (T:Tm) (H4:Hp) (n4:Nat),n2+4≤n4→(∀ i,i < n2→H4 i=H2 i)→¬ 5 < L.length→T 0=ptr c 0→T 2=ew→T 9=up→T 12=.int .i64 0→F=cPut (Zw 7 0 ((L.length:Int) - 1)) (L.foldl (fun s x=>cExpr p k x e s) s)→Wp ((Ya (S124L0 (Call Try.prog) Ya) T H4 n4).bind fun o86=>(Yc false (o86.t 9)).bind fun v93=>(Zs .plain .sub v93 (.int .i64 1)).bind fun v94=>(bld [.int .i64 0,.int .i64 0,.int .i64 0,.string ⟨#[]⟩] [(0,1,.int .i64 7),(2,1,v94)]).bind fun v95=>(Call Try.prog 117 [o86.t 0,v95] o86.H (o86.n+6)).bind fun q96=>some (Value.tuple ⟨[]⟩,q96.2.1,q96.2.2)) (fun q=>n≤q.2.2∧(∀ i,i < n→i≠c→i≠il→q.2.1 i=H i)∧q.1=.tuple ⟨[]⟩∧NextW c il n q.2.2 q.2.1 v ud F):=by
   intro T H4 n4 z1 z2 z3 t0 t2 t9 t12 z4
   have hk4:∀ i,i < n→H4 i=H i:=fun i hi=>(z2 i (by omega)).trans (hk2 i hi)
   have hw1:IntKind.i64.wrap ((L.length:Int) - 1)=(L.length:Int) - 1:=w64 (by omega)
   have hwl:LO eInt c il n4 H4 up L:=(p3.mv (z2 idp p2)).lo (by omega) (by omega) (by omega)
   refine Wp.bind (l124 (Goes.expr p k) hEl (h.mv (m:=n4) (by omega) (hk4 c hcn) (hk4 il hil)) (hv.mv (by omega) (fun i a _ _=>hk4 i a) (.inl rfl)) he (fun y hy=>by have:=hmm y hy; omega) (hev.mv (by omega) (fun i a _ _=>hk4 i a) (.inl rfl)) hwl (by omega) T n4 (Nat.le_refl _) t0 t2 t9 t12) ?_
   rintro ⟨oe,ot,oH,on⟩ ⟨f1,f2,rfl,⟨a5,w5,ul5,il5,i5,h5'⟩,e0,e9⟩
   simp only at f1 f2 h5' e0 e9
   ((repeat(first|((with_reducible first|apply Wp.gs|apply Wp.cs|apply Zd|apply Zf|apply Zc|apply Zg|apply Wp.step);case h=>((try simp(disch:=omega)only[↓reduceIte,Za,↓X0,X1,Nat.reduceEqDiff,Int.reduceEq,Nat.reduceAdd,Nat.reduceSub,e0,e9,hlu,hw1,bld_ins3]);with_reducible first|done|exact rfl|exact bT|exact bF))|apply Ze|apply Zh|with_reducible apply Zl|simp only[↓X3]|with_reducible apply Zb));try(with_reducible apply Zm;case h=>((try simp(disch:=omega)only[X1,Nat.reduceEqDiff,e0,e9,hlu,hw1,bld_ins3]);with_reducible exact rfl)))
   refine Zy (k117 (h5'.mv (by omega) rfl rfl) (Zw 7 0 ((L.length:Int) - 1))) ?_
   rintro _ H6 n6 q6 s6 ⟨rfl,ul6,il6,i6,h6⟩
   have hcn5:=h5'.cn
   have w6:=w5.step (Goes.put (Zw 7 0 ((L.length:Int) - 1))) (Wk.refl _)
   (repeat(first|((with_reducible first|apply Wp.gs|apply Wp.cs|apply Zd|apply Zf|apply Zc|apply Zg|apply Wp.step);case h=>((try simp(disch:=omega)only[↓reduceIte,Za,↓X0,X1,Nat.reduceEqDiff,Int.reduceEq,Nat.reduceAdd,Nat.reduceSub]);with_reducible first|done|exact rfl|exact bT|exact bF))|apply Ze|apply Zh|with_reducible apply Zl|simp only[↓X3]|with_reducible apply Zb))
   exact fin _ _ _ (by omega) (fun i a b c=>by rw [s6 i (by omega) b (by omega),f2 i (by omega) b (by omega)]; exact hk4 i a) ⟨_,w6,ul6,il6,by omega,h6.mv (by omega) rfl rfl⟩ z4.symm
  by_cases k4:(gi p (gi L 0)).k=4
  ·((repeat(first|((with_reducible first|apply Wp.gs|apply Wp.cs|apply Zd|apply Zf|apply Zc|apply Zg|apply Wp.step);case h=>((try simp(disch:=omega)only[↓reduceIte,Za,↓X0,X1,Nat.reduceEqDiff,Int.reduceEq,Nat.reduceAdd,Nat.reduceSub,X2,Zi,Nat.reduceLeDiff,hnt,hlo,hc2,gl,g0,k4]);with_reducible first|done|exact rfl|exact bT|exact bF))|apply Ze|apply Zh|with_reducible apply Zl|simp only[↓X3]|with_reducible apply Zb));try(with_reducible apply Zm;case h=>((try simp(disch:=omega)only[X1,Nat.reduceEqDiff,hnt,hlo,hc2,gl,g0,k4]);with_reducible exact rfl)))
   refine Wp.rt (k118 _ _ _) ?_
   intro H4 n4 q4 s4
   have hs4:∀ i,i < n2→H4 i=H2 i:=fun i hi=>(s4 i (by omega)).trans (Zi _ _ (by omega))
   have hk4:∀ i,i < n→H4 i=H i:=fun i hi=>(hs4 i (by omega)).trans (hk2 i hi)
   have hwl4:LO eInt c il n4 H4 up L:=(p3.mv (hs4 idp p2)).lo (by omega) (by omega) (by omega)
   have hbox:H4 (n2+12)=some (.row [.int .i64 4,.int .i64 (gi p (gi L 0)).n,.string (gi p (gi L 0)).s,.int .i64 (gi p (gi L 0)).a,.int .i64 (gi p (gi L 0)).b] 0 true):=(s4 _ (by omega)).trans (Zj _ _ _)
   cases hsp:special (gi p (gi L 0)).s with
   | true =>
    rw [if_pos ⟨k4,hsp⟩] at pair
    ((repeat(first|((with_reducible first|apply Wp.gs|apply Wp.cs|apply Zd|apply Zf|apply Zc|apply Zg|apply Wp.step);case h=>((try simp(disch:=omega)only[↓reduceIte,Za,↓X0,X1,Nat.reduceEqDiff,Int.reduceEq,Nat.reduceAdd,Nat.reduceSub,X2,Zi,Nat.reduceLeDiff,hbox]);with_reducible first|done|exact rfl|exact bT|exact bF))|apply Ze|apply Zh|with_reducible apply Zl|simp only[↓X3]|with_reducible apply Zb));try(with_reducible apply Zm;case h=>((try simp(disch:=omega)only[X1,Nat.reduceEqDiff,hbox]);with_reducible exact rfl)))
    refine Zy (k130 hp (Goes.expr p k) hEl (h.mv (by omega) (hk4 c hcn) (hk4 il hil)) hh (hv.mv (by omega) (fun i a _ _=>hk4 i a) (.inl rfl)) he (fun y hy=>by have:=hmm y hy; omega) (hev.mv (by omega) (fun i a _ _=>hk4 i a) (.inl rfl)) (hwl4.mv (by omega) (fun _ _ _ _=>rfl) (.inl rfl)) (fun y hy=>by have:=hmm y hy; omega) (by omega)) ?_
    rintro _ H5 n5 q5 s5 ⟨rfl,a5,w5,ul5,il5,i5,h5⟩
    (repeat(first|((with_reducible first|apply Wp.gs|apply Wp.cs|apply Zd|apply Zf|apply Zc|apply Zg|apply Wp.step);case h=>((try simp(disch:=omega)only[↓reduceIte,Za,↓X0,X1,Nat.reduceEqDiff,Int.reduceEq,Nat.reduceAdd,Nat.reduceSub]);with_reducible first|done|exact rfl|exact bT|exact bF))|apply Ze|apply Zh|with_reducible apply Zl|simp only[↓X3]|with_reducible apply Zb))
    exact fin _ _ _ (by omega) (fun i a b c=>(s5 i (by omega) b c).trans (hk4 i a)) ⟨a5,w5,ul5,il5,by omega,h5.mv (by omega) rfl rfl⟩ pair.symm
   | false =>
    rw [if_neg (by rw [hsp]; rintro ⟨_,h⟩; cases h)] at pair
    by_cases h5:5 < L.length
    ·rw [if_pos h5] at pair
     have hst:=h.st 1 (H':=H4) (hk4 c hcn)
     (repeat(first|((with_reducible first|apply Wp.gs|apply Wp.cs|apply Zd|apply Zf|apply Zc|apply Zg|apply Wp.step);case h=>((try simp(disch:=omega)only[↓reduceIte,Za,↓X0,X1,Nat.reduceEqDiff,Int.reduceEq,Nat.reduceAdd,Nat.reduceSub,X2,Zi,Nat.reduceLeDiff,hlu,show (5:Int) < (L.length:Int) by omega,hst]);with_reducible first|done|exact rfl|exact bT|exact bF))|apply Ze|apply Zh|with_reducible apply Zl|simp only[↓X3]|with_reducible apply Zb))
     exact nogood _ _ (by omega) hk4 pair.symm
    ·rw [if_neg h5] at pair
     (repeat(first|((with_reducible first|apply Wp.gs|apply Wp.cs|apply Zd|apply Zf|apply Zc|apply Zg|apply Wp.step);case h=>((try simp(disch:=omega)only[↓reduceIte,Za,↓X0,X1,Nat.reduceEqDiff,Int.reduceEq,Nat.reduceAdd,Nat.reduceSub,hlu,show ¬ (5:Int) < (L.length:Int) by omega]);with_reducible first|done|exact rfl|exact bT|exact bF))|apply Ze|apply Zh|with_reducible apply Zl|simp only[↓X3]|with_reducible apply Zb))
     exact rest _ _ _ (by omega) hs4 h5 (by simp [Zk,Zq]) (by simp [Zk,Zq]) (by simp [Zk]) (by simp [Zk]) pair
  ·rw [if_neg (fun h=>k4 h.1)] at pair
   have hs4:∀ i,i < n2→(H2.set (n2+12) (some (.row [.int .i64 (gi p (gi L 0)).k,.int .i64 (gi p (gi L 0)).n,.string (gi p (gi L 0)).s,.int .i64 (gi p (gi L 0)).a,.int .i64 (gi p (gi L 0)).b] 0 true))) i=H2 i:=fun i hi=>Zi _ _ (by omega)
   by_cases h5:5 < L.length
   ·rw [if_pos h5] at pair
    have hst:=h.st 1 (H':=H2.set (n2+12) (some (.row [.int .i64 (gi p (gi L 0)).k,.int .i64 (gi p (gi L 0)).n,.string (gi p (gi L 0)).s,.int .i64 (gi p (gi L 0)).a,.int .i64 (gi p (gi L 0)).b] 0 true))) ((hs4 c (by omega)).trans (hk2 c hcn))
    (repeat(first|((with_reducible first|apply Wp.gs|apply Wp.cs|apply Zd|apply Zf|apply Zc|apply Zg|apply Wp.step);case h=>((try simp(disch:=omega)only[↓reduceIte,Za,↓X0,X1,Nat.reduceEqDiff,Int.reduceEq,Nat.reduceAdd,Nat.reduceSub,X2,Zi,Nat.reduceLeDiff,hnt,hlo,hc2,gl,g0,k4,hlu,show (5:Int) < (L.length:Int) by omega,hst]);with_reducible first|done|exact rfl|exact bT|exact bF))|apply Ze|apply Zh|with_reducible apply Zl|simp only[↓X3]|with_reducible apply Zb))
    exact nogood _ _ (by omega) (fun i hi=>(hs4 i (by omega)).trans (hk2 i hi)) pair.symm
   ·rw [if_neg h5] at pair
    (repeat(first|((with_reducible first|apply Wp.gs|apply Wp.cs|apply Zd|apply Zf|apply Zc|apply Zg|apply Wp.step);case h=>((try simp(disch:=omega)only[↓reduceIte,Za,↓X0,X1,Nat.reduceEqDiff,Int.reduceEq,Nat.reduceAdd,Nat.reduceSub,X2,Zi,Nat.reduceLeDiff,hnt,hlo,hc2,gl,g0,k4,hlu,show ¬ (5:Int) < (L.length:Int) by omega]);with_reducible first|done|exact rfl|exact bT|exact bF))|apply Ze|apply Zh|with_reducible apply Zl|simp only[↓X3]|with_reducible apply Zb))
    exact rest _ _ _ (by omega) hs4 h5 (by simp [Zk,Zq]) (by simp [Zk,Zq]) (by simp [Zk]) (by simp [Zk]) pair
end Go.Proofs.Ytbgkimkbngocjaa.Ax
set_option linter.unusedVariables false
set_option linter.unusedSimpArgs false
set_option maxHeartbeats 4000000
namespace Go.Proofs.Ytbgkimkbngocjaa.Ax
open Go
abbrev RtM3 (P:Program) (f:Nat) (args:List Value) (a b c:Nat) (H:Hp) (n:Nat) (v:Value) (R:Hp→Nat→Prop):Prop:=∃ H' n',n≤n'∧(∀ i,i < n→i≠a→i≠b→i≠c→H' i=H i)∧Call P f args H n=some (v,H',n')∧R H' n'
theorem Wp.rtm3 {P:Program} {f:Nat} {args:List Value} {H:Hp} {n a b c:Nat} {β:Type} {g:Value × Hp × Nat→Option β} {Q:β→Prop} {v:Value} {R:Hp→Nat→Prop} (h:RtM3 P f args a b c H n v R) (k:∀ H' n',n≤n'→(∀ i,i < n→i≠a→i≠b→i≠c→H' i=H i)→R H' n'→Wp (g (v,H',n')) Q):Wp ((Call P f args H n).bind g) Q:=by
 obtain ⟨H',n',h1,h2,h3,h4⟩:=h
 rw [h3]; exact k H' n' h1 h2 h4
theorem RtM3.of {P:Program} {f:Nat} {args:List Value} {a b c:Nat} {H:Hp} {n:Nat} {v:Value} {R:Hp→Nat→Prop} (h:Wp (Call P f args H n) fun q=>n≤q.2.2∧(∀ i,i < n→i≠a→i≠b→i≠c→q.2.1 i=H i)∧q.1=v∧R q.2.1 q.2.2):RtM3 P f args a b c H n v R:=by
 obtain ⟨⟨w,H',n'⟩,h1,h2,h3,h4,h5⟩:=h
 simp only at h2 h3 h4 h5
 subst h4; exact ⟨H',n',h2,h3,h1,h5⟩
end Go.Proofs.Ytbgkimkbngocjaa.Ax
set_option linter.unusedVariables false
set_option linter.unusedSimpArgs false
set_option maxHeartbeats 8000000
namespace Go.Proofs.Ytbgkimkbngocjaa.Ax
open Go
structure DC (c il idd n:Nat) (H:Hp) (v ul ud:Value) (s:CS):Prop where
 cc:CC c il n H v ul ud s
 ad:At eDef idd H ud s.D
 dn:idd < n
 nc:idd≠c
 ni:idd≠il
theorem DC.mv {c il idd n m:Nat} {H H':Hp} {v ul ud:Value} {s:CS} (h:DC c il idd n H v ul ud s) (hm:n≤m) (h1:H' c=H c) (h2:H' il=H il) (h3:H' idd=H idd):DC c il idd m H' v ul ud s :=
 ⟨h.cc.mv hm h1 h2,h.ad.mv h3,by have:=h.dn; omega,h.nc,h.ni⟩
abbrev Next3 (c il idd n n':Nat) (H':Hp) (v:Value) (s:CS):Prop:=∃ ul' il' ud' idd',(il'=il∨n≤il')∧(idd'=idd∨n≤idd')∧DC c il' idd' n' H' v ul' ud' s
theorem kD111 {c il idd n:Nat} {H:Hp} {v ul ud:Value} {s:CS} (h:DC c il idd n H v ul ud s) (x:Int) (hx:0≤x∧x≤3):RtM3 Try.prog 111 [ptr c 0,.int .i64 x] c il idd H n (.tuple ⟨[]⟩) (fun H' n'=>Next3 c il idd n n' H' v (cFail x s)):=by
 obtain ⟨r,H',n',h1,h2,h3,rfl,h4⟩:=k111 h.cc x hx
 refine ⟨H',n',h1,fun i a b c _=>h2 i a b c,h3,ul,il,ud,idd,.inl rfl,.inl rfl,h4,?_,by have:=h.dn; omega,h.nc,h.ni⟩
 rw [(Goes.fail x s).2.2]
 exact h.ad.mv (h2 idd h.dn h.nc h.ni)
theorem bld_df (s:ByteArray) (a b:Int):bld [.string ⟨#[]⟩,.int .i64 0,.int .i64 0] [(0,1,.string s),(1,1,.int .i64 a),(2,1,.int .i64 b)]=some (.agg ⟨(⟨s,a,b⟩:Df).cells⟩):=rfl
theorem k92 {v:Value} {p:List Nd} {E:CEx} {l:List Int} (hg:∀ v e,Goes (E v e)) (hE:∀ x∈l,XC 123 v p true E x) {c il idd n:Nat} {H:Hp} {ul ud wn w:Value} {s:CS} {name:ByteArray} {names:List ByteArray} (h:DC c il idd n H v ul ud s) (hv:LO eNode c il n H v p) (hvd:Off idd v) (hex:∀ x∈l,1+x.toNat≤90000) (hnl:names.length≤4) (hwn:LO eStr c il n H wn names) (hwd:Off idd wn) (hw:LO eInt c il n H w l) (hwd2:Off idd w) (hl:l.length≤1000000) (hD:s.D.length≤1048576):RtM3 Try.prog 92 [ptr c 0,.string name,wn,w] c il idd H n (.tuple ⟨[]⟩) (fun H' n'=>Next3 c il idd n n' H' v (cDefine E name names l s)):=by
 apply RtM3.of
 rw [c92]; unfold S92
 obtain ⟨hcc,had,hdn,hnc,hni⟩:=h
 have hcn:=hcc.cn
 have hil:=hcc.iln
 have hc:=hcc.hc
 have hne:=hcc.ne
 ((repeat(first|((with_reducible first|apply Wp.gs|apply Wp.cs|apply Zd|apply Zf|apply Zc|apply Zg|apply Wp.step);case h=>((try simp(disch:=omega)only[↓reduceIte,Za,↓X0,X1,Nat.reduceEqDiff,Int.reduceEq,Nat.reduceAdd,Nat.reduceSub,X2,Zi,Nat.reduceLeDiff,hc]);with_reducible first|done|exact rfl|exact bT|exact bF))|apply Ze|apply Zh|with_reducible apply Zl|simp only[↓X3]|with_reducible apply Zb));try(with_reducible apply Zm;case h=>((try simp(disch:=omega)only[X1,Nat.reduceEqDiff,hc]);with_reducible exact rfl)))
 refine Wp.rt (k11 ((had.lst hdn).mv (by omega) (fun _ _=>rfl)) hD name) ?_
 intro H1 n1 q1 s1
 have hc1:H1 c=some (.row [v,ul,ud,.int .i64 s.how] 0 true):=(s1 c (by omega)).trans hc
 unfold cDefine
 by_cases hd:0≤defOf s.D name
 ·rw [if_pos ((defOf_has _ _).1 hd)]
  ((repeat(first|((with_reducible first|apply Wp.gs|apply Wp.cs|apply Zd|apply Zf|apply Zc|apply Zg|apply Wp.step);case h=>((try simp(disch:=omega)only[↓reduceIte,Za,↓X0,X1,Nat.reduceEqDiff,Int.reduceEq,Nat.reduceAdd,Nat.reduceSub,hd]);with_reducible first|done|exact rfl|exact bT|exact bF))|apply Ze|apply Zh|with_reducible apply Zl|simp only[↓X3]|with_reducible apply Zb));try(with_reducible apply Zm;case h=>((try simp(disch:=omega)only[X1,Nat.reduceEqDiff,hd]);with_reducible exact rfl)))
  refine Wp.rtm3 (kD111 (DC.mv ⟨hcc,had,hdn,hnc,hni⟩ (by omega) (s1 c (by omega)) (s1 il (by omega)) (s1 idd (by omega))) 2 (by decide)) ?_
  rintro H2 n2 q2 s2 ⟨ul2,il2,ud2,idd2,i2,j2,h2⟩
  (repeat(first|((with_reducible first|apply Wp.gs|apply Wp.cs|apply Zd|apply Zf|apply Zc|apply Zg|apply Wp.step);case h=>((try simp(disch:=omega)only[↓reduceIte,Za,↓X0,X1,Nat.reduceEqDiff,Int.reduceEq,Nat.reduceAdd,Nat.reduceSub]);with_reducible first|done|exact rfl|exact bT|exact bF))|apply Ze|apply Zh|with_reducible apply Zl|simp only[↓X3]|with_reducible apply Zb))
  exact Wp.pure ⟨by simp only; omega,(by intros;first|with_reducible rfl|simp(disch:=omega)only[Zi,Zj,s2,s1]),rfl,ul2,il2,ud2,idd2,by omega,by omega,h2.mv (by simp only; omega) rfl rfl rfl⟩
 ·rw [if_neg (fun hh=>hd ((defOf_has _ _).2 hh))]
  have hlv:Yc false ul=some (.int .i64 s.L.length):=(hcc.al.lst hil).len
  have hb:=bsl_dc (n1+16) (⟨name,s.L.length,names.length⟩:Df)
  ((repeat(first|((with_reducible first|apply Wp.gs|apply Wp.cs|apply Zd|apply Zf|apply Zc|apply Zg|apply Wp.step);case h=>((try simp(disch:=omega)only[↓reduceIte,Za,↓X0,X1,Nat.reduceEqDiff,Int.reduceEq,Nat.reduceAdd,Nat.reduceSub,X2,Zi,Nat.reduceLeDiff,hd,hc1,hlv,hwn.li.len,bld_df,hb]);with_reducible first|done|exact rfl|exact bT|exact bF))|apply Ze|apply Zh|with_reducible apply Zl|simp only[↓X3]|with_reducible apply Zb));try(with_reducible apply Zm;case h=>((try simp(disch:=omega)only[X1,Nat.reduceEqDiff,hd,hc1,hlv,hwn.li.len,bld_df,hb]);with_reducible exact rfl)))
  refine Wp.app1 (E:=eDef) (⟨name,s.L.length,names.length⟩:Df) ((had.mv (s1 idd (by omega))).mv (by intros;first|with_reducible rfl|simp(disch:=omega)only[Zi,Zj])) (by omega) (by decide) (by omega) ?_
  intro H4 r1 r2
  have hc4:H4 c=some (.row [v,ul,ud,.int .i64 s.how] 0 true):=by simp (disch:=omega) only [r2,Zi,hc1]
  have hst:=st_cset (o:=2) (v:=sl (n1+17) 0 (s.D++[(⟨name,s.L.length,names.length⟩:Df)]).length) hc4 (by simp) rfl
  simp only [List.set_cons_succ,List.set_cons_zero] at hst
  generalize hu2:sl (n1+17) 0 (s.D++[(⟨name,s.L.length,names.length⟩:Df)]).length=u2 at *
  ((repeat(first|((with_reducible first|apply Wp.gs|apply Wp.cs|apply Zd|apply Zf|apply Zc|apply Zg|apply Wp.step);case h=>((try simp(disch:=omega)only[↓reduceIte,Za,↓X0,X1,Nat.reduceEqDiff,Int.reduceEq,Nat.reduceAdd,Nat.reduceSub,X2,Zi,Nat.reduceLeDiff,hst,bsl_v _ wn hwn.li.c1]);with_reducible first|done|exact rfl|exact bT|exact bF))|apply Ze|apply Zh|with_reducible apply Zl|simp only[↓X3]|with_reducible apply Zb));try(with_reducible apply Zm;case h=>((try simp(disch:=omega)only[X1,Nat.reduceEqDiff,hst,bsl_v _ wn hwn.li.c1]);with_reducible exact rfl)))
  generalize hG:(H4.set c _).set (n1+25) _=G
  have hk:∀ i,i < n→i≠c→i≠il→i≠idd→G i=H i:=fun i a b c d=>by
   rw [← hG]; simp (disch:=omega) only [Zi,r2,s1]
  have hGc:G c=some (.row [v,ul,u2,.int .i64 s.how] 0 true):=by rw [← hG]; simp (disch:=omega) only [Zi,Zj]
  have hGd:At eDef (n1+17) G u2 (s.D++[(⟨name,s.L.length,names.length⟩:Df)]):=by
   rw [← hu2]; refine .inr ⟨rfl,?_⟩
   rw [← hG]; simp (disch:=omega) only [Zi,r1]
  have hGe:At eVl (n1+25) G (sl (n1+25) 0 1) [wn]:=.inr ⟨rfl,by rw [← hG]; exact Zj _ _ _⟩
  have hGil:G il=H il:=by rw [← hG]; simp (disch:=omega) only [Zi,r2,s1]
  have hwnG:LO eStr c il (n1+27) G wn names:=⟨(hwn.li.keep' fun i o a k e=>hk i (hwn.li.2 i o a k e) (hwn.oc i o a k e) (hwn.oi i o a k e) (hwd i o a k e)).up (by omega),hwn.oc,hwn.oi⟩
  have hwG:LO eInt c il (n1+27) G w l:=⟨(hw.li.keep' fun i o a k e=>hk i (hw.li.2 i o a k e) (hw.oc i o a k e) (hw.oi i o a k e) (hwd2 i o a k e)).up (by omega),hw.oc,hw.oi⟩
  have hev:EV c il (n1+27) G (sl (n1+25) 0 1) ([]++[names]):=EV.snoc (ws:=[]) hGe (by omega) (by omega) (by omega) rfl (fun i h1 _=>by simp at h1) hwnG
  have hCC:CC c il (n1+27) G v ul u2 ⟨s.how,s.L,s.D++[(⟨name,s.L.length,names.length⟩:Df)]⟩:=⟨hGc,hcc.al.mv hGil,by omega,by omega,hcc.ne,hcc.len,hcc.hr⟩
  ((repeat(first|((with_reducible first|apply Wp.gs|apply Wp.cs|apply Zd|apply Zf|apply Zc|apply Zg|apply Wp.step);case h=>((try simp(disch:=omega)only[↓reduceIte,Za,↓X0,X1,Nat.reduceEqDiff,Int.reduceEq,Nat.reduceAdd,Nat.reduceSub]);with_reducible first|done|exact rfl|exact bT|exact bF))|apply Ze|apply Zh|with_reducible apply Zl|simp only[↓X3]|with_reducible apply Zb));try(with_reducible apply Zm;case h=>((try simp(disch:=omega)only[X1,Nat.reduceEqDiff]);with_reducible exact rfl)))
  refine Zy (k114 hE hCC ⟨(hv.li.keep' fun i o a k e=>hk i (hv.li.2 i o a k e) (hv.oc i o a k e) (hv.oi i o a k e) (hvd i o a k e)).up (by omega),hv.oc,hv.oi⟩ (e:=[names]) ⟨by simp,fun f hf=>by simp at hf; rw [hf]; exact hnl⟩ (fun x hx=>by have:=hex x hx; simpa using this) hev hwG hl) ?_
  rintro _ H5 n5 q5 s5 ⟨rfl,ul5,il5,i5,h5⟩
  have hB:=Goes.body hg [names] l ⟨s.how,s.L,s.D++[(⟨name,s.L.length,names.length⟩:Df)]⟩
  generalize cBody E [names] l ⟨s.how,s.L,s.D++[(⟨name,s.L.length,names.length⟩:Df)]⟩=S5 at *
  have hcn5:=h5.cn
  have hiln5:=h5.iln
  ((repeat(first|((with_reducible first|apply Wp.gs|apply Wp.cs|apply Zd|apply Zf|apply Zc|apply Zg|apply Wp.step);case h=>((try simp(disch:=omega)only[↓reduceIte,Za,↓X0,X1,Nat.reduceEqDiff,Int.reduceEq,Nat.reduceAdd,Nat.reduceSub,bld_ins1]);with_reducible first|done|exact rfl|exact bT|exact bF))|apply Ze|apply Zh|with_reducible apply Zl|simp only[↓X3]|with_reducible apply Zb));try(with_reducible apply Zm;case h=>((try simp(disch:=omega)only[X1,Nat.reduceEqDiff,bld_ins1]);with_reducible exact rfl)))
  refine Zy (k115 (h5.mv (by omega) rfl rfl) (Zw 8 0 0)) ?_
  rintro _ H6 n6 q6 s6 ⟨rfl,ul6,il6,i6,h6⟩
  have hP:=Goes.put (Zw 8 0 0) S5
  generalize cPut (Zw 8 0 0) S5=S6 at *
  (repeat(first|((with_reducible first|apply Wp.gs|apply Wp.cs|apply Zd|apply Zf|apply Zc|apply Zg|apply Wp.step);case h=>((try simp(disch:=omega)only[↓reduceIte,Za,↓X0,X1,Nat.reduceEqDiff,Int.reduceEq,Nat.reduceAdd,Nat.reduceSub]);with_reducible first|done|exact rfl|exact bT|exact bF))|apply Ze|apply Zh|with_reducible apply Zl|simp only[↓X3]|with_reducible apply Zb))
  refine Wp.pure ⟨by simp only; omega,fun i a b c d=>?_,rfl,ul6,il6,u2,n1+17,by omega,.inr (by omega),h6.mv (by simp only; omega) rfl rfl,?_,by simp only; omega,by omega,by omega⟩
  ·show H6 i=H i
   rw [s6 i (by omega) b (by omega),s5 i (by omega) b (by omega)]
   exact hk i a b c d
  ·rw [hP.2.2,hB.2.2]
   exact hGd.mv (by show H6 (n1+17)=G (n1+17); rw [s6 _ (by omega) (by omega) (by omega),s5 _ (by omega) (by omega) (by omega)])
theorem LO.off {α:Type} {E:Enc α} {lo n c il idd:Nat} {H:Hp} {w:Value} {l:List α} (h:New E lo n H w l) (hd:idd < lo):Off idd w:=by
 obtain ⟨id,h1,h2,h3⟩:=h
 rcases h3 with ⟨rfl,_⟩ | ⟨rfl,_⟩ <;> intro i o a k e <;> cases e <;> omega
theorem k91 {v:Value} {p:List Nd} (hp:PoolOk p) {E:CEx} {l:List Int} (hg:∀ v e,Goes (E v e)) (hE:∀ x∈l,XC 123 v p true E x) {c il idd n:Nat} {H:Hp} {ul ud w:Value} {s:CS} (h:DC c il idd n H v ul ud s) (hv:LO eNode c il n H v p) (hvd:Off idd v) (hr:∀ x∈l,0≤x∧x < (p.length:Int)) (hw:LO eInt c il n H w l) (hwd2:Off idd w) (hl:l.length≤100000) (hD:s.D.length≤1048576):RtM3 Try.prog 91 [ptr c 0,w] c il idd H n (.tuple ⟨[]⟩) (fun H' n'=>Next3 c il idd n n' H' v (cDefn E p l s)):=by
 apply RtM3.of
 rw [c91]; unfold S91
 have hcc:=h.cc
 have hdn:=h.dn
 have hcn:=hcc.cn
 have hil:=hcc.iln
 have hc:=hcc.hc
 have hpl:=hp.2
 have hlen:=hw.li.len
 generalize hF:cDefn E p l s=F at *
 have fin:∀ (H0:Hp) (n0:Nat) (x:Int),n≤n0→(∀ i,i < n→H0 i=H i)→0≤x∧x≤3→F=cFail x s→Wp ((Call Try.prog 111 [ptr c 0,.int .i64 x] H0 n0).bind fun q=>some (Value.tuple ⟨[]⟩,q.2.1,q.2.2)) (fun q=>n≤q.2.2∧(∀ i,i < n→i≠c→i≠il→i≠idd→q.2.1 i=H i)∧q.1=.tuple ⟨[]⟩∧Next3 c il idd n q.2.2 q.2.1 v F):=by
  intro H0 n0 x z1 z2 z3 z4
  refine Wp.rtm3 (kD111 (h.mv z1 (z2 c hcn) (z2 il hil) (z2 idd hdn)) x z3) ?_
  rintro H2 n2 q2 s2 ⟨ul2,il2,ud2,idd2,i2,j2,h2⟩
  refine Wp.pure ⟨by simp only; omega,fun i a b c d=>(s2 i (by omega) b c d).trans (z2 i a),rfl,?_⟩
  rw [z4]
  exact ⟨ul2,il2,ud2,idd2,by omega,by omega,h2.mv (Nat.le_refl _) rfl rfl rfl⟩
 unfold cDefn at hF
 by_cases h3:(l.length:Int) < 3
 ·(repeat(first|((with_reducible first|apply Wp.gs|apply Wp.cs|apply Zd|apply Zf|apply Zc|apply Zg|apply Wp.step);case h=>((try simp(disch:=omega)only[↓reduceIte,Za,↓X0,X1,Nat.reduceEqDiff,Int.reduceEq,Nat.reduceAdd,Nat.reduceSub,hlen,h3]);with_reducible first|done|exact rfl|exact bT|exact bF))|apply Ze|apply Zh|with_reducible apply Zl|simp only[↓X3]|with_reducible apply Zb))
  exact fin _ _ _ (by omega) (fun _ _=>rfl) (by decide) (by rw [← hF,if_neg (by omega)])
 have m1:=gi_mem (l:=l) (i:=1) (by omega) (by omega)
 have r1:=hr _ m1
 have g1:=hw.li.iAll (i:=1) (by omega) (by omega)
 ((repeat(first|((with_reducible first|apply Wp.gs|apply Wp.cs|apply Zd|apply Zf|apply Zc|apply Zg|apply Wp.step);case h=>((try simp(disch:=omega)only[↓reduceIte,Za,↓X0,X1,Nat.reduceEqDiff,Int.reduceEq,Nat.reduceAdd,Nat.reduceSub,hlen,h3,g1]);with_reducible first|done|exact rfl|exact bT|exact bF))|apply Ze|apply Zh|with_reducible apply Zl|simp only[↓X3]|with_reducible apply Zb));try(with_reducible apply Zm;case h=>((try simp(disch:=omega)only[X1,Nat.reduceEqDiff,hlen,h3,g1]);with_reducible exact rfl)))
 refine Wp.rtn (k89 (o:=0) (hv.li.mv (by omega) (fun _ _=>rfl)) hp (by omega) hc rfl _ r1.1 r1.2) ?_
 rintro _ H2 n2 q2 s2 ⟨up,rfl,idp,p1,p2,p3⟩
 have hnt:notTup up=true:=by rcases p3 with ⟨h,_⟩ | ⟨h,_⟩ <;> rw [h] <;> rfl
 have hlu:Yc false up=some (.int .i64 (Zu p (gi l 1)).1.length):=(p3.lst (n:=n2) p2).len
 have hceq:=chainOf_eq hp r1.1 r1.2
 cases hch:(Zu p (gi l 1)).2 with
 | false =>
  (repeat(first|((with_reducible first|apply Wp.gs|apply Wp.cs|apply Zd|apply Zf|apply Zc|apply Zg|apply Wp.step);case h=>((try simp(disch:=omega)only[↓reduceIte,Za,↓X0,X1,Nat.reduceEqDiff,Int.reduceEq,Nat.reduceAdd,Nat.reduceSub,hnt]);with_reducible first|done|exact rfl|exact bT|exact bF))|apply Ze|apply Zh|with_reducible apply Zl|simp only[↓X3]|with_reducible apply Zb))
  exact fin _ _ _ (by omega) (fun i hi=>s2 i (by omega)) (by decide) (by rw [← hF,if_neg]; rintro ⟨_,_,h⟩; rw [hch] at h; cases h)
 | true =>
  by_cases k5:(gi p (gi l 1)).k=5
  case neg =>
   have hl0:((Zu p (gi l 1)).1.length:Int)=0:=by rw [hceq,if_neg k5]; rfl
   (repeat(first|((with_reducible first|apply Wp.gs|apply Wp.cs|apply Zd|apply Zf|apply Zc|apply Zg|apply Wp.step);case h=>((try simp(disch:=omega)only[↓reduceIte,Za,↓X0,X1,Nat.reduceEqDiff,Int.reduceEq,Nat.reduceAdd,Nat.reduceSub,hnt,hlu,hl0]);with_reducible first|done|exact rfl|exact bT|exact bF))|apply Ze|apply Zh|with_reducible apply Zl|simp only[↓X3]|with_reducible apply Zb))
   exact fin _ _ _ (by omega) (fun i hi=>s2 i (by omega)) (by decide) (by rw [← hF,if_neg]; rintro ⟨_,h,_⟩; exact k5 h)
  have hpos:=chainOf_pos hp r1.1 r1.2 k5
  have hmm:=chainOf_mem hp r1.1 r1.2
  have hcl:=chainOf_len r1.1 r1.2
  rw [if_pos ⟨by omega,k5,hch⟩] at hF
  generalize hQ:(Zu p (gi l 1)).1=Q at *
  have hl0:¬ (Q.length:Int)=0:=by omega
  have m0:=gi_mem (l:=Q) (i:=0) (by omega) (by omega)
  have r0:=hmm _ m0
  have gl:=(p3.lst (n:=n2) p2).iAll (i:=0) (by omega) (by omega)
  have hc2:H2 c=some (.row [v,ul,ud,.int .i64 s.how] 0 true):=(s2 c (by omega)).trans hc
  ((repeat(first|((with_reducible first|apply Wp.gs|apply Wp.cs|apply Zd|apply Zf|apply Zc|apply Zg|apply Wp.step);case h=>((try simp(disch:=omega)only[↓reduceIte,Za,↓X0,X1,Nat.reduceEqDiff,Int.reduceEq,Nat.reduceAdd,Nat.reduceSub,hnt,hlu,hl0,gl]);with_reducible first|done|exact rfl|exact bT|exact bF))|apply Ze|apply Zh|with_reducible apply Zl|simp only[↓X3]|with_reducible apply Zb));try(with_reducible apply Zm;case h=>((try simp(disch:=omega)only[X1,Nat.reduceEqDiff,hnt,hlu,hl0,gl]);with_reducible exact rfl)))
  refine Wp.rt (k90 (hv.li.mv (by omega) (fun i hi=>s2 i (by omega))) hc2 (by omega) _ r0.1 (by omega)) ?_
  intro H3 n3 q3 s3
  have hk3:∀ i,i < n→H3 i=H i:=fun i hi=>(s3 i (by omega)).trans (s2 i (by omega))
  by_cases k4:(gi p (gi Q 0)).k=4
  case neg =>
   have hiv:isVar (gi p (gi Q 0))=false:=by rw [isVar_eq,decide_eq_false k4]; rfl
   (repeat(first|((with_reducible first|apply Wp.gs|apply Wp.cs|apply Zd|apply Zf|apply Zc|apply Zg|apply Wp.step);case h=>((try simp(disch:=omega)only[↓reduceIte,Za,↓X0,X1,Nat.reduceEqDiff,Int.reduceEq,Nat.reduceAdd,Nat.reduceSub,k4]);with_reducible first|done|exact rfl|exact bT|exact bF))|apply Ze|apply Zh|with_reducible apply Zl|simp only[↓X3]|with_reducible apply Zb))
   exact fin _ _ _ (by omega) hk3 (by decide) (by rw [← hF,if_neg (by rw [hiv]; decide)])
  ((repeat(first|((with_reducible first|apply Wp.gs|apply Wp.cs|apply Zd|apply Zf|apply Zc|apply Zg|apply Wp.step);case h=>((try simp(disch:=omega)only[↓reduceIte,Za,↓X0,X1,Nat.reduceEqDiff,Int.reduceEq,Nat.reduceAdd,Nat.reduceSub,k4]);with_reducible first|done|exact rfl|exact bT|exact bF))|apply Ze|apply Zh|with_reducible apply Zl|simp only[↓X3]|with_reducible apply Zb));try(with_reducible apply Zm;case h=>((try simp(disch:=omega)only[X1,Nat.reduceEqDiff,k4]);with_reducible exact rfl)))
  refine Wp.rt (k112 _ _ _) ?_
  intro H4 n4 q4 s4
  have hk4:∀ i,i < n→H4 i=H i:=fun i hi=>(s4 i (by omega)).trans (hk3 i hi)
  cases hsp:special (gi p (gi Q 0)).s with
  | true =>
   have hiv:isVar (gi p (gi Q 0))=false:=by rw [isVar_eq,hsp]; simp
   (repeat(first|((with_reducible first|apply Wp.gs|apply Wp.cs|apply Zd|apply Zf|apply Zc|apply Zg|apply Wp.step);case h=>((try simp(disch:=omega)only[↓reduceIte,Za,↓X0,X1,Nat.reduceEqDiff,Int.reduceEq,Nat.reduceAdd,Nat.reduceSub]);with_reducible first|done|exact rfl|exact bT|exact bF))|apply Ze|apply Zh|with_reducible apply Zl|simp only[↓X3]|with_reducible apply Zb))
   exact fin _ _ _ (by omega) hk4 (by decide) (by rw [← hF,if_neg (by rw [hiv]; decide)])
  | false =>
   have hiv:isVar (gi p (gi Q 0))=true:=by rw [isVar_eq,hsp,k4]; rfl
   rw [if_pos hiv] at hF
   have p3':At eInt idp H4 up Q:=p3.mv (by rw [s4 idp (by omega),s3 idp (by omega)])
   obtain ⟨w1,hs1,hw1⟩:=(p3'.lo (c:=c) (il:=il) (n:=n4) (by omega) (by omega) (by omega)).tail (by decide) 1 (by omega)
   have hs1':sliceV 1 up (some (.int .i64 1)) none=some w1:=hs1
   obtain ⟨w2,hs2,hw2⟩:=hw.tail (by decide) 2 (by omega)
   have hs2':sliceV 1 w (some (.int .i64 2)) none=some w2:=hs2
   ((repeat(first|((with_reducible first|apply Wp.gs|apply Wp.cs|apply Zd|apply Zf|apply Zc|apply Zg|apply Wp.step);case h=>((try simp(disch:=omega)only[↓reduceIte,Za,↓X0,X1,Nat.reduceEqDiff,Int.reduceEq,Nat.reduceAdd,Nat.reduceSub,hs1']);with_reducible first|done|exact rfl|exact bT|exact bF))|apply Ze|apply Zh|with_reducible apply Zl|simp only[↓X3]|with_reducible apply Zb));try(with_reducible apply Zm;case h=>((try simp(disch:=omega)only[X1,Nat.reduceEqDiff,hs1']);with_reducible exact rfl)))
   refine Wp.rtn (k113 (hv.li.mv (by omega) (fun i hi=>hk4 i (by omega))) ((hk4 c hcn).trans hc) (by omega) (hw1.li.mv (by omega) (fun _ _=>rfl)) (fun x hx=>by have:=hmm x (List.mem_of_mem_drop hx); omega) (by rw [List.length_drop]; omega)) ?_
   rintro _ H5 n5 q5 s5 ⟨un,rfl,hun⟩
   have hnt2:notTup un=true:=by obtain ⟨_,_,_,hat⟩:=hun; rcases hat with ⟨h,_⟩ | ⟨h,_⟩ <;> rw [h] <;> rfl
   have hnr:=cNames_rng p (Q.drop 1)
   have hk5:∀ i,i < n→H5 i=H i:=fun i hi=>(s5 i (by omega)).trans (hk4 i hi)
   by_cases hn0:(cNames p (Q.drop 1)).2=0
   ·rw [if_pos hn0] at hF
    rw [← hF]
    ((repeat(first|((with_reducible first|apply Wp.gs|apply Wp.cs|apply Zd|apply Zf|apply Zc|apply Zg|apply Wp.step);case h=>((try simp(disch:=omega)only[↓reduceIte,Za,↓X0,X1,Nat.reduceEqDiff,Int.reduceEq,Nat.reduceAdd,Nat.reduceSub,hnt2,hn0,hs2']);with_reducible first|done|exact rfl|exact bT|exact bF))|apply Ze|apply Zh|with_reducible apply Zl|simp only[↓X3]|with_reducible apply Zb));try(with_reducible apply Zm;case h=>((try simp(disch:=omega)only[X1,Nat.reduceEqDiff,hnt2,hn0,hs2']);with_reducible exact rfl)))
    refine Wp.rtm3 (k92 hg (fun x hx=>hE x (List.mem_of_mem_drop hx)) (h.mv (by omega) (hk5 c hcn) (hk5 il hil) (hk5 idd hdn)) (hv.mv (by omega) (fun i a _ _=>hk5 i a) (.inl rfl)) hvd (fun x hx=>by have:=hr x (List.mem_of_mem_drop hx); omega) hnr.2 ((hun.lo (by omega) (by omega)).mv (by omega) (fun _ _ _ _=>rfl) (.inl rfl)) (LO.off (c:=c) (il:=il) hun (by omega)) (hw2.mv (by omega) (fun i a _ _=>hk5 i a) (.inl rfl)) (sliceV_off hs2 hwd2) (by rw [List.length_drop]; omega) hD) ?_
    rintro H6 n6 q6 s6 ⟨ul6,il6,ud6,idd6,i6,j6,h6⟩
    (repeat(first|((with_reducible first|apply Wp.gs|apply Wp.cs|apply Zd|apply Zf|apply Zc|apply Zg|apply Wp.step);case h=>((try simp(disch:=omega)only[↓reduceIte,Za,↓X0,X1,Nat.reduceEqDiff,Int.reduceEq,Nat.reduceAdd,Nat.reduceSub]);with_reducible first|done|exact rfl|exact bT|exact bF))|apply Ze|apply Zh|with_reducible apply Zl|simp only[↓X3]|with_reducible apply Zb))
    exact Wp.pure ⟨by simp only; omega,fun i a b c d=>(s6 i (by omega) b c d).trans (hk5 i a),rfl,ul6,il6,ud6,idd6,by omega,by omega,h6.mv (by simp only; omega) rfl rfl rfl⟩
   ·rw [if_neg hn0] at hF
    (repeat(first|((with_reducible first|apply Wp.gs|apply Wp.cs|apply Zd|apply Zf|apply Zc|apply Zg|apply Wp.step);case h=>((try simp(disch:=omega)only[↓reduceIte,Za,↓X0,X1,Nat.reduceEqDiff,Int.reduceEq,Nat.reduceAdd,Nat.reduceSub,hnt2,hn0]);with_reducible first|done|exact rfl|exact bT|exact bF))|apply Ze|apply Zh|with_reducible apply Zl|simp only[↓X3]|with_reducible apply Zb))
    exact fin _ _ _ (by omega) hk5 (by omega) hF.symm
end Go.Proofs.Ytbgkimkbngocjaa.Ax
set_option linter.unusedVariables false
set_option linter.unusedSimpArgs false
set_option maxHeartbeats 8000000
namespace Go.Proofs.Ytbgkimkbngocjaa.Ax
open Go
theorem LO.nilS {α:Type} {E:Enc α} {c il n:Nat} {H:Hp}:LO E c il n H nilS ([]:List α):=⟨Li.nil,fun i o a k e=>(by cases e),fun i o a k e=>(by cases e)⟩
theorem k47 {v:Value} {p:List Nd} (hp:PoolOk p) {E:CEx} (hg:∀ v e,Goes (E v e)) (hE:∀ y:Int,0≤y→y < (p.length:Int)→XC 123 v p true E y) {c il idd n:Nat} {H:Hp} {ul ud:Value} {s:CS} (h:DC c il idd n H v ul ud s) (hv:LO eNode c il n H v p) (hvd:Off idd v) (x:Int) (h0:0≤x) (h1:x < (p.length:Int)) (hD:s.D.length≤1048576):RtM3 Try.prog 47 [ptr c 0,.int .i64 x] c il idd H n (.tuple ⟨[]⟩) (fun H' n'=>Next3 c il idd n n' H' v (cTop E p x s)):=by
 apply RtM3.of
 rw [c47]; unfold S47
 rw [show (⟨#[109,97,105,110]⟩:ByteArray)=wMain from rfl,show (⟨#[100,101,102,105,110,101]⟩:ByteArray)=wDefine from rfl]
 have hcc:=h.cc
 have hdn:=h.dn
 have hnc:=h.nc
 have hni:=h.ni
 have hcn:=hcc.cn
 have hil:=hcc.iln
 have hc:=hcc.hc
 have hpl:=hp.2
 have main:∀ (m:Nat) (H0:Hp),n≤m→(∀ i,i < n→H0 i=H i)→cTop E p x s=cDefine E wMain [] [x] s→Wp ((bsl (m+2) 1 1 [.int .i64 0] [(0,1,.int .i64 x)] H0).bind fun p24=>(Call Try.prog 92 [ptr c 0,.string wMain,nilS,p24.1] p24.2 (m+4)).bind fun q25=>some (Value.tuple ⟨[]⟩,q25.2.1,q25.2.2)) (fun q=>n≤q.2.2∧(∀ i,i < n→i≠c→i≠il→i≠idd→q.2.1 i=H i)∧q.1=.tuple ⟨[]⟩∧Next3 c il idd n q.2.2 q.2.1 v (cTop E p x s)):=by
  intro m H0 z1 z2 z3
  have hR:At eInt (m+2) (H0.set (m+2) (some (.row [.int .i64 x] 1 true))) (sl (m+2) 0 1) [x]:=.inr ⟨rfl,Zj _ _ _⟩
  have hk:∀ i,i < n→(H0.set (m+2) (some (.row [.int .i64 x] 1 true))) i=H i:=fun i hi=>by rw [Zi _ _ (by omega)]; exact z2 i hi
  ((repeat(first|((with_reducible first|apply Wp.gs|apply Wp.cs|apply Zd|apply Zf|apply Zc|apply Zg|apply Zn|apply Wp.step);case h=>((try simp(disch:=omega)only[↓reduceIte,Za,↓X0,X1,Nat.reduceEqDiff,Int.reduceEq,Nat.reduceAdd,Nat.reduceSub,bsl_i]);with_reducible first|done|exact rfl|exact bT|exact bF))|apply Ze|apply Zh|with_reducible apply Zl|simp only[↓X3]|with_reducible apply Zb));try(with_reducible apply Zm;case h=>((try simp(disch:=omega)only[X1,Nat.reduceEqDiff,bsl_i]);with_reducible exact rfl)))
  refine Wp.rtm3 (k92 hg (l:=[x]) (fun y hy=>by simp at hy; rw [hy]; exact hE x h0 h1) (h.mv (by omega) (hk c hcn) (hk il hil) (hk idd hdn)) (hv.mv (by omega) (fun i a _ _=>hk i a) (.inl rfl)) hvd (fun y hy=>by simp at hy; omega) (names:=[]) (by simp) LO.nilS (fun i o a k e=>(by cases e)) (hR.lo (by omega) (by omega) (by omega)) (fun i o a k e=>(by cases e; omega)) (by simp) hD) ?_
  rintro H2 n2 q2 s2 ⟨ul2,il2,ud2,idd2,i2,j2,h2⟩
  (repeat(first|((with_reducible first|apply Wp.gs|apply Wp.cs|apply Zd|apply Zf|apply Zc|apply Zg|apply Zn|apply Wp.step);case h=>((try simp(disch:=omega)only[↓reduceIte,Za,↓X0,X1,Nat.reduceEqDiff,Int.reduceEq,Nat.reduceAdd,Nat.reduceSub]);with_reducible first|done|exact rfl|exact bT|exact bF))|apply Ze|apply Zh|with_reducible apply Zl|simp only[↓X3]|with_reducible apply Zb))
  refine Wp.pure ⟨by simp only; omega,fun i a b c d=>(s2 i (by omega) b c d).trans (hk i a),rfl,?_⟩
  rw [z3]
  exact ⟨ul2,il2,ud2,idd2,by omega,by omega,h2.mv (by simp only; omega) rfl rfl rfl⟩
 have nodef:¬ ((gi p x).k=5∧(Zu p x).2=true∧(gi p (gi (Zu p x).1 0)).k=4∧(gi p (gi (Zu p x).1 0)).s=wDefine)→cTop E p x s=cDefine E wMain [] [x] s:=fun hn=>by
  unfold cTop isDefine; rw [decide_eq_false hn]; rfl
 ((repeat(first|((with_reducible first|apply Wp.gs|apply Wp.cs|apply Zd|apply Zf|apply Zc|apply Zg|apply Zn|apply Wp.step);case h=>((try simp(disch:=omega)only[↓reduceIte,Za,↓X0,X1,Nat.reduceEqDiff,Int.reduceEq,Nat.reduceAdd,Nat.reduceSub,X2,Zi,Nat.reduceLeDiff]);with_reducible first|done|exact rfl|exact bT|exact bF))|apply Ze|apply Zh|with_reducible apply Zl|simp only[↓X3]|with_reducible apply Zb));try(with_reducible apply Zm;case h=>((try simp(disch:=omega)only[X1,Nat.reduceEqDiff]);with_reducible exact rfl)))
 refine Wp.rtn (k89 (o:=0) (hv.li.mv (by omega) (fun _ _=>rfl)) hp (by omega) hc rfl _ h0 h1) ?_
 rintro _ H2 n2 q2 s2 ⟨up,rfl,idp,p1,p2,p3⟩
 have hnt:notTup up=true:=by rcases p3 with ⟨h,_⟩ | ⟨h,_⟩ <;> rw [h] <;> rfl
 have hlu:Yc false up=some (.int .i64 (Zu p x).1.length):=(p3.lst (n:=n2) p2).len
 have hceq:=chainOf_eq hp h0 h1
 by_cases hch:(Zu p x).2=true
 case neg =>
  (repeat(first|((with_reducible first|apply Wp.gs|apply Wp.cs|apply Zd|apply Zf|apply Zc|apply Zg|apply Zn|apply Wp.step);case h=>((try simp(disch:=omega)only[↓reduceIte,Za,↓X0,X1,Nat.reduceEqDiff,Int.reduceEq,Nat.reduceAdd,Nat.reduceSub,hnt,show (Zu p x).2=false by simpa using hch]);with_reducible first|done|exact rfl|exact bT|exact bF))|apply Ze|apply Zh|with_reducible apply Zl|simp only[↓X3]|with_reducible apply Zb))
  exact main _ _ (by omega) (fun i hi=>s2 i (by omega)) (nodef (fun h=>hch h.2.1))
 by_cases k5:(gi p x).k=5
 case neg =>
  have hl0:¬ (0:Int) < ((Zu p x).1.length:Int):=by rw [hceq,if_neg k5]; simp
  (repeat(first|((with_reducible first|apply Wp.gs|apply Wp.cs|apply Zd|apply Zf|apply Zc|apply Zg|apply Zn|apply Wp.step);case h=>((try simp(disch:=omega)only[↓reduceIte,Za,↓X0,X1,Nat.reduceEqDiff,Int.reduceEq,Nat.reduceAdd,Nat.reduceSub,hnt,hch,hlu,hl0]);with_reducible first|done|exact rfl|exact bT|exact bF))|apply Ze|apply Zh|with_reducible apply Zl|simp only[↓X3]|with_reducible apply Zb))
  exact main _ _ (by omega) (fun i hi=>s2 i (by omega)) (nodef (fun h=>k5 h.1))
 have hpos:=chainOf_pos hp h0 h1 k5
 have hmm:=chainOf_mem hp h0 h1
 have hcl:=chainOf_len h0 h1
 have hl0:(0:Int) < ((Zu p x).1.length:Int):=by omega
 have m0:=gi_mem (l:=(Zu p x).1) (i:=0) (by omega) (by omega)
 have r0:=hmm _ m0
 have gl:=(p3.lst (n:=n2) p2).iAll (i:=0) (by omega) (by omega)
 have hc2:H2 c=some (.row [v,ul,ud,.int .i64 s.how] 0 true):=(s2 c (by omega)).trans hc
 ((repeat(first|((with_reducible first|apply Wp.gs|apply Wp.cs|apply Zd|apply Zf|apply Zc|apply Zg|apply Zn|apply Wp.step);case h=>((try simp(disch:=omega)only[↓reduceIte,Za,↓X0,X1,Nat.reduceEqDiff,Int.reduceEq,Nat.reduceAdd,Nat.reduceSub,hnt,hch,hlu,hl0,gl]);with_reducible first|done|exact rfl|exact bT|exact bF))|apply Ze|apply Zh|with_reducible apply Zl|simp only[↓X3]|with_reducible apply Zb));try(with_reducible apply Zm;case h=>((try simp(disch:=omega)only[X1,Nat.reduceEqDiff,hnt,hch,hlu,hl0,gl]);with_reducible exact rfl)))
 refine Wp.rt (k90 (hv.li.mv (by omega) (fun i hi=>s2 i (by omega))) hc2 (by omega) _ r0.1 (by omega)) ?_
 intro H3 n3 q3 s3
 have hk3:∀ i,i < n→H3 i=H i:=fun i hi=>(s3 i (by omega)).trans (s2 i (by omega))
 by_cases k4:(gi p (gi (Zu p x).1 0)).k=4
 case neg =>
  (repeat(first|((with_reducible first|apply Wp.gs|apply Wp.cs|apply Zd|apply Zf|apply Zc|apply Zg|apply Zn|apply Wp.step);case h=>((try simp(disch:=omega)only[↓reduceIte,Za,↓X0,X1,Nat.reduceEqDiff,Int.reduceEq,Nat.reduceAdd,Nat.reduceSub,k4]);with_reducible first|done|exact rfl|exact bT|exact bF))|apply Ze|apply Zh|with_reducible apply Zl|simp only[↓X3]|with_reducible apply Zb))
  exact main _ _ (by omega) hk3 (nodef (fun h=>k4 h.2.2.1))
 by_cases hd:(gi p (gi (Zu p x).1 0)).s=wDefine
 case neg =>
  (repeat(first|((with_reducible first|apply Wp.gs|apply Wp.cs|apply Zd|apply Zf|apply Zc|apply Zg|apply Zn|apply Wp.step);case h=>((try simp(disch:=omega)only[↓reduceIte,Za,↓X0,X1,Nat.reduceEqDiff,Int.reduceEq,Nat.reduceAdd,Nat.reduceSub,k4,hd]);with_reducible first|done|exact rfl|exact bT|exact bF))|apply Ze|apply Zh|with_reducible apply Zl|simp only[↓X3]|with_reducible apply Zb))
  exact main _ _ (by omega) hk3 (nodef (fun h=>hd h.2.2.2))
 have hdef:cTop E p x s=cDefn E p (Zu p x).1 s:=by unfold cTop isDefine; rw [decide_eq_true ⟨k5,hch,k4,hd⟩]; rfl
 ((repeat(first|((with_reducible first|apply Wp.gs|apply Wp.cs|apply Zd|apply Zf|apply Zc|apply Zg|apply Zn|apply Wp.step);case h=>((try simp(disch:=omega)only[↓reduceIte,Za,↓X0,X1,Nat.reduceEqDiff,Int.reduceEq,Nat.reduceAdd,Nat.reduceSub,k4,hd,eq_self.{1}]);with_reducible first|done|exact rfl|exact bT|exact bF))|apply Ze|apply Zh|with_reducible apply Zl|simp only[↓X3]|with_reducible apply Zb));try(with_reducible apply Zm;case h=>((try simp(disch:=omega)only[X1,Nat.reduceEqDiff,k4,hd,eq_self.{1}]);with_reducible exact rfl)))
 have p3':At eInt idp H3 up (Zu p x).1:=p3.mv (s3 idp (by omega))
 refine Wp.rtm3 (k91 hp hg (l:=(Zu p x).1) (fun y hy=>hE y (hmm y hy).1 (by have:=hmm y hy; omega)) (h.mv (by omega) (hk3 c hcn) (hk3 il hil) (hk3 idd hdn)) (hv.mv (by omega) (fun i a _ _=>hk3 i a) (.inl rfl)) hvd (fun y hy=>by have:=hmm y hy; omega) ((p3'.lo (n:=n3+5) (by omega) (by omega) (by omega)).mv (by omega) (fun _ _ _ _=>rfl) (.inl rfl)) (fun i o a k e=>by rcases p3 with ⟨h,_⟩ | ⟨h,_⟩ <;> rw [h] at e <;> cases e; omega) (by omega) hD) ?_
 rintro H4 n4 q4 s4 ⟨ul4,il4,ud4,idd4,i4,j4,h4⟩
 (repeat(first|((with_reducible first|apply Wp.gs|apply Wp.cs|apply Zd|apply Zf|apply Zc|apply Zg|apply Zn|apply Wp.step);case h=>((try simp(disch:=omega)only[↓reduceIte,Za,↓X0,X1,Nat.reduceEqDiff,Int.reduceEq,Nat.reduceAdd,Nat.reduceSub]);with_reducible first|done|exact rfl|exact bT|exact bF))|apply Ze|apply Zh|with_reducible apply Zl|simp only[↓X3]|with_reducible apply Zb))
 refine Wp.pure ⟨by simp only; omega,fun i a b c d=>(s4 i (by omega) b c d).trans (hk3 i a),rfl,?_⟩
 rw [hdef]
 exact ⟨ul4,il4,ud4,idd4,by omega,by omega,h4.mv (by simp only; omega) rfl rfl rfl⟩
theorem cTop_D {E:CEx} (hg:∀ v e,Goes (E v e)) (p:List Nd) (x:Int) (s:CS):(cTop E p x s).D.length≤s.D.length+1:=by
 have hf:∀ h s,(cFail h s).D=s.D:=fun h s=>(Goes.fail h s).2.2
 have hd:∀ n ps b,(cDefine E n ps b s).D.length≤s.D.length+1:=by
  intro n ps b
  unfold cDefine
  split
  ·rw [hf]; omega
  ·rw [(Goes.put _ _).2.2,(Goes.body hg _ _ _).2.2]; simp
 unfold cTop cDefn
 repeat' split
 all_goals first | exact hd _ _ _ | (rw [hf]; omega)
theorem k44 {c n:Nat} {H:Hp} {v:Value} {l:List Nd} (hv:Li eNode n H v l) (hl:l.length≤1048576) (hc:H c=some (.row [v] 0 true)) (x:Int):Rt Try.prog 44 [.int .i64 x,ptr c 0] H n (.bool !decide (0≤x∧x < (l.length:Int))):=by
 apply Rt.mk
 rw [c44]; unfold S44
 ((repeat(first|((with_reducible first|apply Wp.gs|apply Wp.cs|apply Zd|apply Zf|apply Zc|apply Zg|apply Zn|apply Wp.step);case h=>((try simp(disch:=omega)only[↓reduceIte,Za,↓X0,X1,Nat.reduceEqDiff,Int.reduceEq,Nat.reduceAdd,Nat.reduceSub,X2,Zi,Nat.reduceLeDiff,hc]);with_reducible first|done|exact rfl|exact bT|exact bF))|apply Ze|apply Zh|with_reducible apply Zl|simp only[↓X3]|with_reducible apply Zb));try(with_reducible apply Zm;case h=>((try simp(disch:=omega)only[X1,Nat.reduceEqDiff,hc]);with_reducible exact rfl)))
 refine Wp.rt (k45 (hv.mv (by omega) (by intros;first|with_reducible rfl|simp(disch:=omega)only[Zi,Zj])) hl x) ?_
 intro H1 n1 q1 s1
 by_cases hx:0≤x∧x < (l.length:Int)
 ·(repeat(first|((with_reducible first|apply Wp.gs|apply Wp.cs|apply Zd|apply Zf|apply Zc|apply Zg|apply Zn|apply Wp.step);case h=>((try simp(disch:=omega)only[↓reduceIte,Za,↓X0,X1,Nat.reduceEqDiff,Int.reduceEq,Nat.reduceAdd,Nat.reduceSub,hx.1,hx.2]);with_reducible first|done|exact rfl|exact bT|exact bF))|apply Ze|apply Zh|with_reducible apply Zl|simp only[↓X3]|with_reducible apply Zb)); exact Wp.pure ⟨by simp only; omega,(by intros;first|with_reducible rfl|simp(disch:=omega)only[Zi,Zj,s1]),by rw [decide_eq_true hx]; rfl⟩
 ·(repeat(first|((with_reducible first|apply Wp.gs|apply Wp.cs|apply Zd|apply Zf|apply Zc|apply Zg|apply Zn|apply Wp.step);case h=>((try simp(disch:=omega)only[↓reduceIte,Za,↓X0,X1,Nat.reduceEqDiff,Int.reduceEq,Nat.reduceAdd,Nat.reduceSub,hx]);with_reducible first|done|exact rfl|exact bT|exact bF))|apply Ze|apply Zh|with_reducible apply Zl|simp only[↓X3]|with_reducible apply Zb)); exact Wp.pure ⟨by simp only; omega,(by intros;first|with_reducible rfl|simp(disch:=omega)only[Zi,Zj,s1]),by rw [decide_eq_false hx]; rfl⟩
theorem compAns_bad {p:List Nd} {l:List Int} (h:¬ (PoolOk p∧inPool p l)):compAns p l=⟨[],[],[],3,0⟩:=by unfold compAns; rw [if_neg h]
theorem compAns_3 {p:List Nd} {l:List Int} (h:PoolOk p∧inPool p l) (h3:(cAll p l 0 ⟨0,[],[]⟩).1.how=3):compAns p l=⟨[],[],[],3,0⟩:=by unfold compAns; rw [if_pos h,if_neg (by omega),if_pos h3]
theorem compAns_e {p:List Nd} {l:List Int} (h:PoolOk p∧inPool p l) (h0:(cAll p l 0 ⟨0,[],[]⟩).1.how≠0) (h3:(cAll p l 0 ⟨0,[],[]⟩).1.how≠3):compAns p l=⟨[],[],[],(cAll p l 0 ⟨0,[],[]⟩).1.how,(cAll p l 0 ⟨0,[],[]⟩).2⟩:=by unfold compAns; rw [if_pos h,if_neg h0,if_neg h3]
theorem compAns_n {p:List Nd} {l:List Int} (h:PoolOk p∧inPool p l) (h0:(cAll p l 0 ⟨0,[],[]⟩).1.how=0) (h3:¬ CodeOk p (cAll p l 0 ⟨0,[],[]⟩).1.L (cAll p l 0 ⟨0,[],[]⟩).1.D):compAns p l=⟨[],[],[],3,0⟩:=by unfold compAns; rw [if_pos h,if_pos h0,if_neg h3]
theorem compAns_y {p:List Nd} {l:List Int} (h:PoolOk p∧inPool p l) (h0:(cAll p l 0 ⟨0,[],[]⟩).1.how=0) (h3:CodeOk p (cAll p l 0 ⟨0,[],[]⟩).1.L (cAll p l 0 ⟨0,[],[]⟩).1.D):compAns p l=⟨p,(cAll p l 0 ⟨0,[],[]⟩).1.L,(cAll p l 0 ⟨0,[],[]⟩).1.D,0,l.length⟩:=by unfold compAns; rw [if_pos h,if_pos h0,if_pos h3]
def CompRes (n n':Nat) (H':Hp) (r:Value) (a:CA):Prop:=∃ u ul ud,r=.tuple ⟨[.agg ⟨[u,ul,ud]⟩,.int .i64 a.how,.int .i64 a.at_]⟩∧New3 n n' H' u ul ud a.p a.L a.D
theorem CompRes.none {n n':Nat} {H':Hp} (hn:n+3≤n') (h a:Int):CompRes n n' H' (.tuple ⟨[.agg ⟨[nilS,nilS,nilS]⟩,.int .i64 h,.int .i64 a]⟩) ⟨[],[],[],h,a⟩ :=
 ⟨nilS,nilS,nilS,rfl,n,n+1,n+2,by omega,by omega,by omega,by omega,by omega,by omega,by omega,by omega,by omega,At.nil,At.nil,At.nil⟩
theorem bld_3n:bld [nilS,nilS,nilS] []=some (.agg ⟨[nilS,nilS,nilS]⟩):=rfl
theorem l9 {v:Value} {p:List Nd} (hp:PoolOk p) {l:List Int} (hr:inPool p l) (hl:l.length≤1048576) {c il0 idd0 b n0:Nat} {H0:Hp} {w:Value} (hD0:DC c il0 idd0 n0 H0 v nilS nilS ⟨0,[],[]⟩) (hv:LO eNode c il0 n0 H0 v p) (hvd:Off idd0 v) (hw:LO eInt c il0 n0 H0 w l) (hwd:Off idd0 w) (hb:b < n0) (hbc:b≠c) (hbi:b≠il0) (hbd:b≠idd0):∀ t,t 4=ptr b 0→t 7=ptr c 0→t 24=w→t 25=.int .i64 l.length→t 26=.int .i64 0→t 1=w→H0 b=some (.row [nilS,nilS,nilS] 0 true) →
  Wp (Ya (S9L0 (Call Try.prog) Ya) t H0 n0) (fun o=>n0≤o.n∧(∀ i,i < n0→i≠c→i≠il0→i≠idd0→i≠b→o.H i=H0 i)∧o.H b=some (.row [nilS,nilS,nilS] 0 true)∧o.t 4=ptr b 0∧((o.e=.exit 0∧o.t 1=w∧o.t 7=ptr c 0∧(cAll p l 0 ⟨0,[],[]⟩).1.how=0∧∃ ul il ud idd,(il=il0∨n0≤il)∧(idd=idd0∨n0≤idd)∧DC c il idd o.n o.H v ul ud (cAll p l 0 ⟨0,[],[]⟩).1)∨(o.e=.ret∧(cAll p l 0 ⟨0,[],[]⟩).1.how≠0∧o.t 5=.int .i64 (cAll p l 0 ⟨0,[],[]⟩).1.how∧o.t 6=.int .i64 (if (cAll p l 0 ⟨0,[],[]⟩).1.how=3 then 0 else (cAll p l 0 ⟨0,[],[]⟩).2)))):=by
 intro t e4 e7 e24 e25 e26 e1 hb0
 have hcn0:=hD0.cc.cn
 have hil0:=hD0.cc.iln
 have hdn0:=hD0.dn
 refine Ye (fun d T H' n'=>∃ (j:Nat) (ul:Value) (il:Nat) (ud:Value) (idd:Nat) (s:CS),j+d=l.length∧n0≤n'∧(∀ i,i < n0→i≠c→i≠il0→i≠idd0→H' i=H0 i)∧(il=il0∨n0≤il)∧(idd=idd0∨n0≤idd)∧DC c il idd n' H' v ul ud s∧s.how=0∧s.D.length≤j∧cAll p l 0 ⟨0,[],[]⟩=cAll p (l.drop j) j s∧T 1=w∧T 4=ptr b 0∧T 7=ptr c 0∧T 24=w∧T 25=.int .i64 l.length∧T 26=.int .i64 j) _ ?_ l.length t H0 n0 ⟨0,nilS,il0,nilS,idd0,⟨0,[],[]⟩,by omega,by omega,fun _ _ _ _ _=>rfl,.inl rfl,.inl rfl,hD0,rfl,by simp,by simp,e1,e4,e7,e24,e25,e26⟩
 rintro d T H' n' ⟨j,ul,il,ud,idd,s,hj,hn,s1,hil,hidd,hDC,h0,hDl,hall,e1,e4,e7,e24,e25,e26⟩
 unfold S9L0
 have hbH:H' b=some (.row [nilS,nilS,nilS] 0 true):=by rw [s1 b hb hbc hbi hbd]; exact hb0
 have hkeep:∀ {α:Type} {E:Enc α} {w:Value} {l:List α},LO E c il0 n0 H0 w l→Off idd0 w→LO E c il n' H' w l∧Off idd w:=by
  intro α E w l hL hO
  refine ⟨⟨(hL.li.keep' fun i o a k e=>s1 i (hL.li.2 i o a k e) (hL.oc i o a k e) (hL.oi i o a k e) (hO i o a k e)).up hn,hL.oc,?_⟩,?_⟩
  ·rcases hil with rfl | h
   ·exact hL.oi
   ·exact hL.li.off h
  ·rcases hidd with rfl | h
   ·exact hO
   ·exact hL.li.off h
 obtain ⟨hw',hwd'⟩:=hkeep hw hwd
 obtain ⟨hv',hvd'⟩:=hkeep hv hvd
 have hcn:=hDC.cc.cn
 have hiln:=hDC.cc.iln
 have hdn:=hDC.dn
 by_cases hlt:(j:Int) < l.length
 ·have hlt':j < l.length:=by omega
  have g:=hw'.li.iAll (i:=(j:Int)) (by omega) hlt
  have hmem:=gi_mem (l:=l) (i:=(j:Int)) (by omega) hlt
  have hrj:=hr _ hmem
  have hws:=wj (j:=j) (len:=l.length) hlt' (by omega)
  have hdr:l.drop j=gi l (j:Int) :: l.drop (j+1):=by rw [gi_nat hlt']; exact List.drop_eq_getElem_cons hlt'
  rw [hdr,cAll] at hall
  ((repeat(first|((with_reducible first|apply Wp.gs|apply Wp.cs|apply Zd|apply Zf|apply Zc|apply Zg|apply Zn|apply Wp.step);case h=>((try simp(disch:=omega)only[↓reduceIte,Za,↓X0,X1,Nat.reduceEqDiff,Int.reduceEq,Nat.reduceAdd,Nat.reduceSub,e7,e24,e25,e26,hlt,g]);with_reducible first|done|exact rfl|exact bT|exact bF))|apply Ze|apply Zh|with_reducible apply Zl|simp only[↓X3]|with_reducible apply Zb));try(with_reducible apply Zm;case h=>((try simp(disch:=omega)only[X1,Nat.reduceEqDiff,e7,e24,e25,e26,hlt,g]);with_reducible exact rfl)))
  refine Wp.rtm3 (k47 hp (Goes.expr p p.length) (fun y y0 y1=>k123 hp p.length y y0 y1 y1) (hDC.mv (by omega) rfl rfl rfl) (hv'.mv (by omega) (fun _ _ _ _=>rfl) (.inl rfl)) hvd' _ hrj.1 hrj.2 (by omega)) ?_
  rintro H2 n2 q2 s2 ⟨ul2,il2,ud2,idd2,i2,j2,h2⟩
  have hDt:=cTop_D (Goes.expr p p.length) p (gi l (j:Int)) s
  generalize hS:cTop (cExpr p p.length) p (gi l (j:Int)) s=S at *
  have hc2:=h2.cc.hc
  have hr2:=h2.cc.hr
  have hb2:H2 b=some (.row [nilS,nilS,nilS] 0 true):=by rw [s2 b (by omega) hbc (by omega) (by omega)]; exact hbH
  have hk2:∀ i,i < n0→i≠c→i≠il0→i≠idd0→H2 i=H0 i:=fun i a b c d=>by rw [s2 i (by omega) b (by omega) (by omega)]; exact s1 i a b c d
  by_cases hS0:S.how=0
  ·rw [if_pos hS0] at hall
   (repeat(first|((with_reducible first|apply Wp.gs|apply Wp.cs|apply Zd|apply Zf|apply Zc|apply Zg|apply Zn|apply Wp.step);case h=>((try simp(disch:=omega)only[↓reduceIte,Za,↓X0,X1,Nat.reduceEqDiff,Int.reduceEq,Nat.reduceAdd,Nat.reduceSub,X2,Zi,Nat.reduceLeDiff,e1,e4,e7,e26,hc2,hS0,show ¬ (0:Int)=1 by decide,show ¬ (0:Int)=2 by decide,show ¬ (0:Int)=3 by decide,hws]);with_reducible first|done|exact rfl|exact bT|exact bF))|apply Ze|apply Zh|with_reducible apply Zl|simp only[↓X3]|with_reducible apply Zb))
   exact Wp.pure (Nxt.go (d - 1) (by omega) ⟨j+1,ul2,il2,ud2,idd2,S,by omega,by omega,hk2,by omega,by omega,h2.mv (by omega) rfl rfl rfl,hS0,by omega,hall,by simp [Zk,e1],by simp [Zk,e4],by simp [Zk,e7],by simp [Zk,e24],by simp [Zk,e25],by simp [Zk]⟩)
  ·rw [if_neg hS0] at hall
   have hst:st true 3 (ptr b 0) (.agg ⟨[nilS,nilS,nilS]⟩) H2=some (H2.set b (some (.row [nilS,nilS,nilS] 0 true))):=by
    rw [st_agg,stv_box hb2]; rfl
   have hfr:∀ i,i < n0→i≠c→i≠il0→i≠idd0→i≠b→(H2.set b (some (.row [nilS,nilS,nilS] 0 true))) i=H0 i:=fun i a b c d e=>by rw [Zi _ _ e]; exact hk2 i a b c d
   have hcb:(H2.set b (some (.row [nilS,nilS,nilS] 0 true))) c=some (.row [v,ul2,ud2,.int .i64 S.how] 0 true):=(Zi _ _ (Ne.symm hbc)).trans hc2
   by_cases hS1:S.how=1
   ·(repeat(first|((with_reducible first|apply Wp.gs|apply Wp.cs|apply Zd|apply Zf|apply Zc|apply Zg|apply Zn|apply Wp.step);case h=>((try simp(disch:=omega)only[↓reduceIte,Za,↓X0,X1,Nat.reduceEqDiff,Int.reduceEq,Nat.reduceAdd,Nat.reduceSub,X2,Zi,Nat.reduceLeDiff,e4,e7,e26,hc2,hS1,bld_3n,hst,hcb]);with_reducible first|done|exact rfl|exact bT|exact bF))|apply Ze|apply Zh|with_reducible apply Zl|simp only[↓X3]|with_reducible apply Zb))
    exact Wp.pure (Nxt.ret ⟨by simp only; omega,hfr,Zj _ _ _,by simp [Zk,e4],.inr ⟨rfl,by rw [hall]; exact hS0,by rw [hall]; simp [Zk,hS1],by rw [hall]; simp [Zk,hS1,e26]⟩⟩)
   ·by_cases hS2:S.how=2
    ·(repeat(first|((with_reducible first|apply Wp.gs|apply Wp.cs|apply Zd|apply Zf|apply Zc|apply Zg|apply Zn|apply Wp.step);case h=>((try simp(disch:=omega)only[↓reduceIte,Za,↓X0,X1,Nat.reduceEqDiff,Int.reduceEq,Nat.reduceAdd,Nat.reduceSub,X2,Zi,Nat.reduceLeDiff,e4,e7,e26,hc2,hS2,show ¬ (2:Int)=1 by decide,bld_3n,hst,hcb]);with_reducible first|done|exact rfl|exact bT|exact bF))|apply Ze|apply Zh|with_reducible apply Zl|simp only[↓X3]|with_reducible apply Zb))
     exact Wp.pure (Nxt.ret ⟨by simp only; omega,hfr,Zj _ _ _,by simp [Zk,e4],.inr ⟨rfl,by rw [hall]; exact hS0,by rw [hall]; simp [Zk,hS2],by rw [hall]; simp [Zk,hS2,e26]⟩⟩)
    ·have hS3:S.how=3:=by omega
     (repeat(first|((with_reducible first|apply Wp.gs|apply Wp.cs|apply Zd|apply Zf|apply Zc|apply Zg|apply Zn|apply Wp.step);case h=>((try simp(disch:=omega)only[↓reduceIte,Za,↓X0,X1,Nat.reduceEqDiff,Int.reduceEq,Nat.reduceAdd,Nat.reduceSub,X2,Zi,Nat.reduceLeDiff,e4,e7,e26,hc2,hS3,show ¬ (3:Int)=1 by decide,show ¬ (3:Int)=2 by decide,bld_3n,hst]);with_reducible first|done|exact rfl|exact bT|exact bF))|apply Ze|apply Zh|with_reducible apply Zl|simp only[↓X3]|with_reducible apply Zb))
     exact Wp.pure (Nxt.ret ⟨by simp only; omega,hfr,Zj _ _ _,by simp [Zk,e4],.inr ⟨rfl,by rw [hall]; exact hS0,by rw [hall]; simp [Zk,hS3],by rw [hall]; simp [Zk,hS3]⟩⟩)
 ·((repeat(first|((with_reducible first|apply Wp.gs|apply Wp.cs|apply Zd|apply Zf|apply Zc|apply Zg|apply Zn|apply Wp.step);case h=>((try simp(disch:=omega)only[↓reduceIte,Za,↓X0,X1,Nat.reduceEqDiff,Int.reduceEq,Nat.reduceAdd,Nat.reduceSub,e25,e26,hlt]);with_reducible first|done|exact rfl|exact bT|exact bF))|apply Ze|apply Zh|with_reducible apply Zl|simp only[↓X3]|with_reducible apply Zb));try(with_reducible apply Zm;case h=>((try simp(disch:=omega)only[X1,Nat.reduceEqDiff,e25,e26,hlt]);with_reducible exact rfl)))
  rw [List.drop_eq_nil_of_le (by omega),cAll] at hall
  exact Wp.pure (Nxt.exit ⟨by simp only; omega,fun i a b c d _=>s1 i a b c d,hbH,by simp [Zk,e4],.inl ⟨rfl,by simp [Zk,e1],by simp [Zk,e7],by rw [hall]; exact h0,ul,il,ud,idd,hil,hidd,by rw [hall]; exact hDC.mv (by simp only; omega) rfl rfl rfl⟩⟩)
end Go.Proofs.Ytbgkimkbngocjaa.Ax
set_option linter.unusedVariables false
set_option linter.unusedSimpArgs false
set_option maxHeartbeats 8000000
namespace Go.Proofs.Ytbgkimkbngocjaa.Ax
open Go
theorem CC.withD {c il n:Nat} {H:Hp} {v ul ud:Value} {s:CS} (h:CC c il n H v ul ud s) (D:List Df):CC c il n H v ul ud ⟨s.how,s.L,D⟩:=⟨h.hc,h.al,h.cn,h.iln,h.ne,h.len,h.hr⟩
abbrev NextW3 (c il idd n n':Nat) (H':Hp) (v:Value) (b:CS):Prop:=∃ a,Wk a b∧Next3 c il idd n n' H' v a
theorem l95 {c il idd n0:Nat} {H0:Hp} {v ul ud:Value} {s:CS} (h:DC c il idd n0 H0 v ul ud s) (name:ByteArray) (wn w:Value) (hD:s.D.length≤1048576):∀ t n,n0≤n→t 0=ptr c 0→t 1=.string name→t 2=wn→t 3=w→t 8=.int .i64 0 →
  Wp (Ya (S95L0 (Call Try.prog) Ya) t H0 n) (fun o=>n≤o.n∧(∀ i,i < n0→i≠c→o.H i=H0 i)∧o.e=.exit 0∧o.t 0=ptr c 0∧o.t 1=.string name∧o.t 2=wn∧o.t 3=w∧DC c il idd o.n o.H v ul ud ⟨if s.how=0 then (if hasDef name s.D=true then 2 else 0) else s.how,s.L,s.D⟩):=by
 intro t n hn e0 e1 e2 e3 e8
 obtain ⟨hcc,had,hdn,hnc,hni⟩:=h
 have hcn:=hcc.cn
 have hil:=hcc.iln
 have hne:=hcc.ne
 refine Ye (fun d T H' n'=>∃ (j:Nat) (x:Int),j+d=s.D.length+1∧1≤d∧n≤n'∧(∀ i,i < n0→i≠c→H' i=H0 i)∧CC c il n' H' v ul ud ⟨x,s.L,s.D⟩∧T 0=ptr c 0∧T 1=.string name∧T 2=wn∧T 3=w∧T 8=.int .i64 j∧((s.how≠0∧x=s.how)∨(s.how=0∧x=0∧hasDef name (s.D.take j)=false)∨(s.how=0∧x=2∧hasDef name s.D=true))) _ ?_ (s.D.length+1) _ _ _ ⟨0,s.how,by omega,by omega,by omega,fun _ _ _=>rfl,(hcc.withD s.D).mv (by omega) rfl rfl,e0,e1,e2,e3,e8,by by_cases h0:s.how=0; exact .inr (.inl ⟨h0,h0,by simp [hasDef]⟩); exact .inl ⟨h0,rfl⟩⟩
 rintro d T H' n' ⟨j,x,hj,hd,hn',s1,hcc',e0,e1,e2,e3,e8,hx⟩
 unfold S95L0
 have hc:=hcc'.hc
 simp only at hc
 have hadl:Li eDef n' H' ud s.D:=(had.mv (s1 idd hdn hnc)).lst (by omega)
 have fin:∀ T2:Tm,T2 0=ptr c 0→T2 1=.string name→T2 2=wn→T2 3=w→∀ m,n'≤m→x=(if s.how=0 then (if hasDef name s.D=true then 2 else 0) else s.how)→Wp (some (⟨.exit 0,T2,H',m⟩:Out)) (Nxt (fun d T H' n'=>∃ (j:Nat) (x:Int),j+d=s.D.length+1∧1≤d∧n≤n'∧(∀ i,i < n0→i≠c→H' i=H0 i)∧CC c il n' H' v ul ud ⟨x,s.L,s.D⟩∧T 0=ptr c 0∧T 1=.string name∧T 2=wn∧T 3=w∧T 8=.int .i64 j∧((s.how≠0∧x=s.how)∨(s.how=0∧x=0∧hasDef name (s.D.take j)=false)∨(s.how=0∧x=2∧hasDef name s.D=true))) d (fun o=>n≤o.n∧(∀ i,i < n0→i≠c→o.H i=H0 i)∧o.e=.exit 0∧o.t 0=ptr c 0∧o.t 1=.string name∧o.t 2=wn∧o.t 3=w∧DC c il idd o.n o.H v ul ud ⟨if s.how=0 then (if hasDef name s.D=true then 2 else 0) else s.how,s.L,s.D⟩)):=by
  intro T2 t0 t1 t2 t3 m hm hxe
  refine Wp.pure (Nxt.exit ⟨by simp only; omega,s1,rfl,t0,t1,t2,t3,?_,had.mv (s1 idd hdn hnc),by simp only; omega,hnc,hni⟩)
  rw [← hxe]
  exact hcc'.mv (by simp only; omega) rfl rfl
 by_cases hlt:(j:Int) < s.D.length
 ·have hlt':j < s.D.length:=by omega
  have g:=hadl.dAll (i:=(j:Int)) (by omega) hlt
  have hws:=wj (j:=j) (len:=s.D.length) hlt' (by omega)
  have htk:hasDef name (s.D.take (j+1))=(hasDef name (s.D.take j) || decide ((gi s.D (j:Int)).s=name)):=by
   unfold hasDef
   rw [take_next hlt',List.any_append,gi_nat hlt']; simp
  rcases hx with ⟨h0,rfl⟩ | ⟨h0,rfl,hno⟩ | ⟨h0,rfl,hyes⟩
  ·(repeat(first|((with_reducible first|apply Wp.gs|apply Wp.cs|apply Zd|apply Zf|apply Zc|apply Zg|apply Wp.step);case h=>((try simp(disch:=omega)only[↓reduceIte,Za,↓X0,X1,Nat.reduceEqDiff,Int.reduceEq,Nat.reduceAdd,Nat.reduceSub,X2,Zi,Nat.reduceLeDiff,e0,e1,e8,hc,hadl.len,hlt,h0]);with_reducible first|done|exact rfl|exact bT|exact bF))|apply Ze|apply Zh|with_reducible apply Zl|simp only[↓X3]|with_reducible apply Zb))
   exact fin _ (by simp [Zk,e0]) (by simp [Zk,e1]) (by simp [Zk,e2]) (by simp [Zk,e3]) _ (by omega) (by rw [if_neg h0])
  ·by_cases heq:(gi s.D (j:Int)).s=name
   ·have hst:=hcc'.st 2 rfl
    (repeat(first|((with_reducible first|apply Wp.gs|apply Wp.cs|apply Zd|apply Zf|apply Zc|apply Zg|apply Wp.step);case h=>((try simp(disch:=omega)only[↓reduceIte,Za,↓X0,X1,Nat.reduceEqDiff,Int.reduceEq,Nat.reduceAdd,Nat.reduceSub,X2,Zi,Nat.reduceLeDiff,e0,e1,e8,hc,hadl.len,hlt,g,heq,eq_self.{1},hst,hws]);with_reducible first|done|exact rfl|exact bT|exact bF))|apply Ze|apply Zh|with_reducible apply Zl|simp only[↓X3]|with_reducible apply Zb))
    refine Wp.pure (Nxt.go (d - 1) (by omega) ⟨j+1,2,by omega,by omega,by omega,fun i a b=>(Zi _ _ b).trans (s1 i a b),hcc'.how 2 (by decide) (by omega) (Zj _ _ _) (Zi _ _ hne),by simp [Zk,e0],by simp [Zk,e1],by simp [Zk,e2],by simp [Zk,e3],by simp [Zk],.inr (.inr ⟨h0,rfl,?_⟩)⟩)
    unfold hasDef
    rw [List.any_eq_true]
    exact ⟨_,gi_mem (l:=s.D) (i:=(j:Int)) (by omega) hlt,decide_eq_true heq⟩
   ·(repeat(first|((with_reducible first|apply Wp.gs|apply Wp.cs|apply Zd|apply Zf|apply Zc|apply Zg|apply Wp.step);case h=>((try simp(disch:=omega)only[↓reduceIte,Za,↓X0,X1,Nat.reduceEqDiff,Int.reduceEq,Nat.reduceAdd,Nat.reduceSub,X2,Zi,Nat.reduceLeDiff,e0,e1,e8,hc,hadl.len,hlt,g,heq,eq_self.{1},hws]);with_reducible first|done|exact rfl|exact bT|exact bF))|apply Ze|apply Zh|with_reducible apply Zl|simp only[↓X3]|with_reducible apply Zb))
    exact Wp.pure (Nxt.go (d - 1) (by omega) ⟨j+1,0,by omega,by omega,by omega,s1,hcc'.mv (by omega) rfl rfl,by simp [Zk,e0],by simp [Zk,e1],by simp [Zk,e2],by simp [Zk,e3],by simp [Zk],.inr (.inl ⟨h0,rfl,by rw [htk,hno,decide_eq_false heq]; rfl⟩)⟩)
  ·(repeat(first|((with_reducible first|apply Wp.gs|apply Wp.cs|apply Zd|apply Zf|apply Zc|apply Zg|apply Wp.step);case h=>((try simp(disch:=omega)only[↓reduceIte,Za,↓X0,X1,Nat.reduceEqDiff,Int.reduceEq,Nat.reduceAdd,Nat.reduceSub,X2,Zi,Nat.reduceLeDiff,e0,e1,e8,hc,hadl.len,hlt,show ¬ (2:Int)=0 by decide]);with_reducible first|done|exact rfl|exact bT|exact bF))|apply Ze|apply Zh|with_reducible apply Zl|simp only[↓X3]|with_reducible apply Zb))
   exact fin _ (by simp [Zk,e0]) (by simp [Zk,e1]) (by simp [Zk,e2]) (by simp [Zk,e3]) _ (by omega) (by rw [if_pos h0,if_pos hyes])
 ·(repeat(first|((with_reducible first|apply Wp.gs|apply Wp.cs|apply Zd|apply Zf|apply Zc|apply Zg|apply Wp.step);case h=>((try simp(disch:=omega)only[↓reduceIte,Za,↓X0,X1,Nat.reduceEqDiff,Int.reduceEq,Nat.reduceAdd,Nat.reduceSub,X2,Zi,Nat.reduceLeDiff,e0,e8,hc,hadl.len,hlt]);with_reducible first|done|exact rfl|exact bT|exact bF))|apply Ze|apply Zh|with_reducible apply Zl|simp only[↓X3]|with_reducible apply Zb))
  refine fin _ (by simp [Zk,e0]) (by simp [Zk,e1]) (by simp [Zk,e2]) (by simp [Zk,e3]) _ (by omega) ?_
  rw [List.take_of_length_le (by omega)] at hx
  rcases hx with ⟨h0,rfl⟩ | ⟨h0,rfl,hno⟩ | ⟨h0,rfl,hyes⟩
  ·rw [if_neg h0]
  ·rw [if_pos h0,hno]; rfl
  ·rw [if_pos h0,if_pos hyes]
theorem k95 {v:Value} {p:List Nd} {E:CEx} {l:List Int} (hg:∀ v e,Goes (E v e)) (hE:∀ x∈l,XR 124 v p E x) {c il idd n:Nat} {H:Hp} {ul ud wn w:Value} {s:CS} {name:ByteArray} {names:List ByteArray} (h:DC c il idd n H v ul ud s) (hv:LO eNode c il n H v p) (hvd:Off idd v) (hex:∀ x∈l,1+x.toNat≤90000) (hnl:names.length≤4) (hwn:LO eStr c il n H wn names) (hwd:Off idd wn) (hw:LO eInt c il n H w l) (hwd2:Off idd w) (hl:l.length≤1000000) (hD:s.D.length≤1048576):RtM3 Try.prog 95 [ptr c 0,.string name,wn,w] c il idd H n (.tuple ⟨[]⟩) (fun H' n'=>NextW3 c il idd n n' H' v (if s.how=0 then cDefine E name names l s else s)):=by
 apply RtM3.of
 rw [c95]; unfold S95
 have hdn:=h.dn
 have hnc:=h.nc
 have hni:=h.ni
 have hcn:=h.cc.cn
 have hil:=h.cc.iln
 (repeat(first|((with_reducible first|apply Wp.gs|apply Wp.cs|apply Zd|apply Zf|apply Zc|apply Zg|apply Wp.step);case h=>((try simp(disch:=omega)only[↓reduceIte,Za,↓X0,X1,Nat.reduceEqDiff,Int.reduceEq,Nat.reduceAdd,Nat.reduceSub]);with_reducible first|done|exact rfl|exact bT|exact bF))|apply Ze|apply Zh|with_reducible apply Zl|simp only[↓X3]|with_reducible apply Zb))
 refine Wp.bind (l95 h name wn w hD _ _ (by omega) (by simp [Zk,Zq]) (by simp [Zk,Zq]) (by simp [Zk,Zq]) (by simp [Zk,Zq]) (by simp [Zk])) ?_
 rintro ⟨oe,ot,oH,on⟩ ⟨f1,f2,rfl,e0,e1,e2,e3,f8⟩
 simp only at f1 f2 e0 e1 e2 e3 f8
 generalize hx:(if s.how=0 then (if hasDef name s.D=true then 2 else 0) else s.how)=x at *
 obtain ⟨hcc,had,hdn1,_,_⟩:=f8
 have hc:=hcc.hc
 have hne:=hcc.ne
 have hcn1:=hcc.cn
 simp only at hc had
 have hlv:Yc false ul=some (.int .i64 s.L.length):=(hcc.al.lst hcc.iln).len
 have hb:=fun id=>bsl_dc id (⟨name,s.L.length,names.length⟩:Df)
 ((repeat(first|((with_reducible first|apply Wp.gs|apply Wp.cs|apply Zd|apply Zf|apply Zc|apply Zg|apply Wp.step);case h=>((try simp(disch:=omega)only[↓reduceIte,Za,↓X0,X1,Nat.reduceEqDiff,Int.reduceEq,Nat.reduceAdd,Nat.reduceSub,X2,Zi,Nat.reduceLeDiff,e0,e1,e2,e3,hc,hlv,hwn.li.len,bld_df,hb]);with_reducible first|done|exact rfl|exact bT|exact bF))|apply Ze|apply Zh|with_reducible apply Zl|simp only[↓X3]|with_reducible apply Zb));try(with_reducible apply Zm;case h=>((try simp(disch:=omega)only[X1,Nat.reduceEqDiff,e0,e1,e2,e3,hc,hlv,hwn.li.len,bld_df,hb]);with_reducible exact rfl)))
 refine Wp.app1 (E:=eDef) (⟨name,s.L.length,names.length⟩:Df) (had.mv (by intros;first|with_reducible rfl|simp(disch:=omega)only[Zi,Zj])) (by omega) (by decide) (by omega) ?_
 intro H4 r1 r2
 have hc4:H4 c=some (.row [v,ul,ud,.int .i64 x] 0 true):=by simp (disch:=omega) only [r2,Zi,hc]
 have hst:=st_cset (o:=2) (v:=sl (on+15) 0 (s.D++[(⟨name,s.L.length,names.length⟩:Df)]).length) hc4 (by simp) rfl
 simp only [List.set_cons_succ,List.set_cons_zero] at hst
 generalize hu2:sl (on+15) 0 (s.D++[(⟨name,s.L.length,names.length⟩:Df)]).length=u2 at *
 ((repeat(first|((with_reducible first|apply Wp.gs|apply Wp.cs|apply Zd|apply Zf|apply Zc|apply Zg|apply Wp.step);case h=>((try simp(disch:=omega)only[↓reduceIte,Za,↓X0,X1,Nat.reduceEqDiff,Int.reduceEq,Nat.reduceAdd,Nat.reduceSub,X2,Zi,Nat.reduceLeDiff,e0,e1,e2,e3,hst,bsl_v _ wn hwn.li.c1]);with_reducible first|done|exact rfl|exact bT|exact bF))|apply Ze|apply Zh|with_reducible apply Zl|simp only[↓X3]|with_reducible apply Zb));try(with_reducible apply Zm;case h=>((try simp(disch:=omega)only[X1,Nat.reduceEqDiff,e0,e1,e2,e3,hst,bsl_v _ wn hwn.li.c1]);with_reducible exact rfl)))
 generalize hG:(H4.set c _).set (on+22) _=G
 have hk:∀ i,i < n→i≠c→i≠il→i≠idd→G i=H i:=fun i a b c d=>by
  rw [← hG]; simp (disch:=omega) only [Zi,r2,f2]
 have hGc:G c=some (.row [v,ul,u2,.int .i64 x] 0 true):=by rw [← hG]; simp (disch:=omega) only [Zi,Zj]
 have hGd:At eDef (on+15) G u2 (s.D++[(⟨name,s.L.length,names.length⟩:Df)]):=by
  rw [← hu2]; refine .inr ⟨rfl,?_⟩
  rw [← hG]; simp (disch:=omega) only [Zi,r1]
 have hGe:At eVl (on+22) G (sl (on+22) 0 1) [wn]:=.inr ⟨rfl,by rw [← hG]; exact Zj _ _ _⟩
 have hGil:G il=oH il:=by rw [← hG]; simp (disch:=omega) only [Zi,r2]
 have hwnG:LO eStr c il (on+24) G wn names:=⟨(hwn.li.keep' fun i o a k e=>hk i (hwn.li.2 i o a k e) (hwn.oc i o a k e) (hwn.oi i o a k e) (hwd i o a k e)).up (by omega),hwn.oc,hwn.oi⟩
 have hwG:LO eInt c il (on+24) G w l:=⟨(hw.li.keep' fun i o a k e=>hk i (hw.li.2 i o a k e) (hw.oc i o a k e) (hw.oi i o a k e) (hwd2 i o a k e)).up (by omega),hw.oc,hw.oi⟩
 have hvG:LO eNode c il (on+24) G v p:=⟨(hv.li.keep' fun i o a k e=>hk i (hv.li.2 i o a k e) (hv.oc i o a k e) (hv.oi i o a k e) (hvd i o a k e)).up (by omega),hv.oc,hv.oi⟩
 have hev:EV c il (on+24) G (sl (on+22) 0 1) ([]++[names]):=EV.snoc (ws:=[]) hGe (by omega) (by omega) (by omega) rfl (fun i h1 _=>by simp at h1) hwnG
 have hCC:CC c il (on+24) G v ul u2 ⟨x,s.L,s.D++[(⟨name,s.L.length,names.length⟩:Df)]⟩:=⟨hGc,hcc.al.mv hGil,by omega,by omega,hne,hcc.len,hcc.hr⟩
 ((repeat(first|((with_reducible first|apply Wp.gs|apply Wp.cs|apply Zd|apply Zf|apply Zc|apply Zg|apply Wp.step);case h=>((try simp(disch:=omega)only[↓reduceIte,Za,↓X0,X1,Nat.reduceEqDiff,Int.reduceEq,Nat.reduceAdd,Nat.reduceSub,e0,e3]);with_reducible first|done|exact rfl|exact bT|exact bF))|apply Ze|apply Zh|with_reducible apply Zl|simp only[↓X3]|with_reducible apply Zb));try(with_reducible apply Zm;case h=>((try simp(disch:=omega)only[X1,Nat.reduceEqDiff,e0,e3]);with_reducible exact rfl)))
 refine Zy (k116 hg hE hCC hvG (e:=[names]) ⟨by simp,fun f hf=>by simp at hf; rw [hf]; exact hnl⟩ (fun x hx=>by have:=hex x hx; simpa using this) hev hwG hl) ?_
 rintro _ H5 n5 q5 s5 ⟨rfl,A5,w5,ul5,il5,i5,h5⟩
 have hB:=Goes.body hg [names] l ⟨x,s.L,s.D++[(⟨name,s.L.length,names.length⟩:Df)]⟩
 have hcn5:=h5.cn
 have hiln5:=h5.iln
 ((repeat(first|((with_reducible first|apply Wp.gs|apply Wp.cs|apply Zd|apply Zf|apply Zc|apply Zg|apply Wp.step);case h=>((try simp(disch:=omega)only[↓reduceIte,Za,↓X0,X1,Nat.reduceEqDiff,Int.reduceEq,Nat.reduceAdd,Nat.reduceSub,e0,bld_ins1]);with_reducible first|done|exact rfl|exact bT|exact bF))|apply Ze|apply Zh|with_reducible apply Zl|simp only[↓X3]|with_reducible apply Zb));try(with_reducible apply Zm;case h=>((try simp(disch:=omega)only[X1,Nat.reduceEqDiff,e0,bld_ins1]);with_reducible exact rfl)))
 refine Zy (k117 (h5.mv (by omega) rfl rfl) (Zw 8 0 0)) ?_
 rintro _ H6 n6 q6 s6 ⟨rfl,ul6,il6,i6,h6⟩
 have w6:Wk (cPut (Zw 8 0 0) A5) (cPut (Zw 8 0 0) (cBody E [names] l ⟨x,s.L,s.D++[(⟨name,s.L.length,names.length⟩:Df)]⟩)):=w5.step (Goes.put _) (Wk.refl _)
 have hP:=Goes.put (Zw 8 0 0) (cBody E [names] l ⟨x,s.L,s.D++[(⟨name,s.L.length,names.length⟩:Df)]⟩)
 generalize hM:cPut (Zw 8 0 0) (cBody E [names] l ⟨x,s.L,s.D++[(⟨name,s.L.length,names.length⟩:Df)]⟩)=M at *
 have hMD:M.D=s.D++[(⟨name,s.L.length,names.length⟩:Df)]:=by rw [hP.2.2,hB.2.2]
 generalize cPut (Zw 8 0 0) A5=A6 at *
 (repeat(first|((with_reducible first|apply Wp.gs|apply Wp.cs|apply Zd|apply Zf|apply Zc|apply Zg|apply Wp.step);case h=>((try simp(disch:=omega)only[↓reduceIte,Za,↓X0,X1,Nat.reduceEqDiff,Int.reduceEq,Nat.reduceAdd,Nat.reduceSub]);with_reducible first|done|exact rfl|exact bT|exact bF))|apply Ze|apply Zh|with_reducible apply Zl|simp only[↓X3]|with_reducible apply Zb))
 refine Wp.pure ⟨by simp only; omega,fun i a b c d=>?_,rfl,⟨A6.how,A6.L,s.D++[(⟨name,s.L.length,names.length⟩:Df)]⟩,?_,ul6,il6,u2,on+15,by omega,.inr (by omega),(h6.withD _).mv (by simp only; omega) rfl rfl,?_,by simp only; omega,by omega,by omega⟩
 ·show H6 i=H i
  rw [s6 i (by omega) b (by omega),s5 i (by omega) b (by omega)]
  exact hk i a b c d
 ·have hA:Wk ⟨A6.how,A6.L,s.D++[(⟨name,s.L.length,names.length⟩:Df)]⟩ M:=by
   refine ⟨w6.1,fun h=>?_⟩
   rw [w6.2 h,← hMD]
  by_cases h0:s.how=0
  ·rw [if_pos h0] at hx ⊢
   unfold cDefine
   by_cases hd:hasDef name s.D=true
   ·rw [if_pos hd] at hx ⊢
    subst hx
    have e1:M=⟨2,s.L,s.D++[(⟨name,s.L.length,names.length⟩:Df)]⟩:=by
     rw [← hM,hB.1 (by show (2:Int)≠0; decide),cPut_how (by show (2:Int)≠0; decide)]
    have e2:cFail 2 s=⟨2,s.L,s.D⟩:=by unfold cFail; rw [if_pos h0]
    rw [e1] at hA
    rw [e2]
    exact ⟨hA.1,fun h=>by simp at h⟩
   ·rw [if_neg hd] at hx ⊢
    subst hx
    rw [h0,hM]
    exact hA
  ·rw [if_neg h0] at hx ⊢
   subst hx
   have e1:M=⟨s.how,s.L,s.D++[(⟨name,s.L.length,names.length⟩:Df)]⟩:=by
    rw [← hM,hB.1 h0]; exact cPut_how h0
   rw [e1] at hA
   exact ⟨hA.1,fun h=>absurd h h0⟩
 ·exact hGd.mv (by show H6 (on+15)=G (on+15); rw [s6 _ (by omega) (by omega) (by omega),s5 _ (by omega) (by omega) (by omega)])
end Go.Proofs.Ytbgkimkbngocjaa.Ax
set_option linter.unusedVariables false
set_option linter.unusedSimpArgs false
set_option maxHeartbeats 8000000
namespace Go.Proofs.Ytbgkimkbngocjaa.Ax
open Go
theorem bsl_zi (id:Nat) (H:Hp):bsl id 1 0 [.int .i64 0] [] H=some (sl id 0 0,H.set id (some (.row [] 1 true))):=bsl_zn id _ 1 H rfl
theorem bsl_zs (id:Nat) (H:Hp):bsl id 1 0 [.string ⟨#[]⟩] [] H=some (sl id 0 0,H.set id (some (.row [] 1 true))):=bsl_zn id _ 1 H rfl
theorem DC.how {c il idd n:Nat} {H:Hp} {v ul ud:Value} {s:CS} (h:DC c il idd n H v ul ud s) (x:Int) (hx:0≤x∧x≤3) {n':Nat} {H':Hp} (hn:n≤n') (hc:H' c=some (.row [v,ul,ud,.int .i64 x] 0 true)) (hi:H' il=H il) (hd:H' idd=H idd):DC c il idd n' H' v ul ud ⟨x,s.L,s.D⟩ :=
 ⟨h.cc.how x hx hn hc hi,h.ad.mv hd,by have:=h.dn; omega,h.nc,h.ni⟩
theorem k51 {v:Value} {p:List Nd} (hp:PoolOk p) {E:CEx} (hg:∀ v e,Goes (E v e)) (hE:∀ y:Int,0≤y→y < (p.length:Int)→XR 124 v p E y) {c il idd n:Nat} {H:Hp} {ul ud:Value} {s:CS} (h:DC c il idd n H v ul ud s) (hh:s.how=0) (hv:LO eNode c il n H v p) (hvd:Off idd v) (x:Int) (h0:0≤x) (h1:x < (p.length:Int)) (hD:s.D.length≤1048576):RtM3 Try.prog 51 [ptr c 0,.int .i64 x] c il idd H n (.tuple ⟨[]⟩) (fun H' n'=>NextW3 c il idd n n' H' v (cTop E p x s)):=by
 apply RtM3.of
 rw [c51]; unfold S51
 rw [show (⟨#[109,97,105,110]⟩:ByteArray)=wMain from rfl,show (⟨#[100,101,102,105,110,101]⟩:ByteArray)=wDefine from rfl]
 have hcc:=h.cc
 have hdn:=h.dn
 have hnc:=h.nc
 have hni:=h.ni
 have hcn:=hcc.cn
 have hil:=hcc.iln
 have hne:=hcc.ne
 have hc:=hcc.hc
 have hpl:=hp.2
 have hs0:s=⟨0,s.L,s.D⟩:=by cases s; simp only at hh; subst hh; rfl
 have nodef:¬ ((gi p x).k=5∧(Zu p x).2=true∧(gi p (gi (Zu p x).1 0)).k=4∧(gi p (gi (Zu p x).1 0)).s=wDefine)→cTop E p x s=cDefine E wMain [] [x] s:=fun hn=>by
  unfold cTop isDefine; rw [decide_eq_false hn]; rfl
 have isdef:((gi p x).k=5∧(Zu p x).2=true∧(gi p (gi (Zu p x).1 0)).k=4∧(gi p (gi (Zu p x).1 0)).s=wDefine)→cTop E p x s=cDefn E p (Zu p x).1 s:=fun hn=>by
  unfold cTop isDefine; rw [decide_eq_true hn]; rfl
 generalize cTop E p x s=F at *
 have main:∀ (m:Nat) (H0:Hp),n≤m→(∀ i,i < n→H0 i=H i)→F=cDefine E wMain [] [x] s→Wp ((bsl (m+1) 1 0 [.string ⟨#[]⟩] [] H0).bind fun p45=>(bsl (m+3) 1 1 [.int .i64 0] [(0,1,.int .i64 x)] p45.2).bind fun p46=>(Call Try.prog 95 [ptr c 0,.string wMain,p45.1,p46.1] p46.2 (m+5)).bind fun q47=>some (Value.tuple ⟨[]⟩,q47.2.1,q47.2.2)) (fun q=>n≤q.2.2∧(∀ i,i < n→i≠c→i≠il→i≠idd→q.2.1 i=H i)∧q.1=.tuple ⟨[]⟩∧NextW3 c il idd n q.2.2 q.2.1 v F):=by
  intro m H0 z1 z2 z3
  ((repeat(first|((with_reducible first|apply Wp.gs|apply Wp.cs|apply Zd|apply Zf|apply Zc|apply Zg|apply Zn|apply Wp.step);case h=>((try simp(disch:=omega)only[↓reduceIte,Za,↓X0,X1,Nat.reduceEqDiff,Int.reduceEq,Nat.reduceAdd,Nat.reduceSub,bsl_zs,bsl_i]);with_reducible first|done|exact rfl|exact bT|exact bF))|apply Ze|apply Zh|with_reducible apply Zl|simp only[↓X3]|simp(disch:=decide)only[asks_nil,asks_in,asks_out,askB_nil,askB_in,askB_out]|with_reducible apply Zb));try(with_reducible apply Zm;case h=>((try simp(disch:=omega)only[X1,Nat.reduceEqDiff,bsl_zs,bsl_i]);with_reducible exact rfl)))
  generalize hG:Hp.set _ (m+3) _=G
  have hk:∀ i,i < n→G i=H i:=fun i hi=>by rw [← hG]; simp (disch:=omega) only [Zi,z2]
  have hN:At eStr (m+1) G (sl (m+1) 0 0) []:=.inr ⟨rfl,by rw [← hG]; simp (disch:=omega) only [Zi,Zj]; rfl⟩
  have hR:At eInt (m+3) G (sl (m+3) 0 1) [x]:=.inr ⟨rfl,by rw [← hG]; exact Zj _ _ _⟩
  refine Wp.rtm3 (k95 hg (l:=[x]) (fun y hy=>by simp at hy; rw [hy]; exact hE x h0 h1) (h.mv (by omega) (hk c hcn) (hk il hil) (hk idd hdn)) (hv.mv (by omega) (fun i a _ _=>hk i a) (.inl rfl)) hvd (fun y hy=>by simp at hy; omega) (names:=[]) (by simp) (hN.lo (by omega) (by omega) (by omega)) (fun i o a k e=>(by cases e; omega)) (hR.lo (by omega) (by omega) (by omega)) (fun i o a k e=>(by cases e; omega)) (by simp) hD) ?_
  rintro H2 n2 q2 s2 ⟨a2,w2,ul2,il2,ud2,idd2,i2,j2,h2⟩
  rw [if_pos hh] at w2
  (repeat(first|((with_reducible first|apply Wp.gs|apply Wp.cs|apply Zd|apply Zf|apply Zc|apply Zg|apply Zn|apply Wp.step);case h=>((try simp(disch:=omega)only[↓reduceIte,Za,↓X0,X1,Nat.reduceEqDiff,Int.reduceEq,Nat.reduceAdd,Nat.reduceSub]);with_reducible first|done|exact rfl|exact bT|exact bF))|apply Ze|apply Zh|with_reducible apply Zl|simp only[↓X3]|simp(disch:=decide)only[asks_nil,asks_in,asks_out,askB_nil,askB_in,askB_out]|with_reducible apply Zb))
  refine Wp.pure ⟨by simp only; omega,fun i a b c d=>(s2 i (by omega) b c d).trans (hk i a),rfl,a2,?_,ul2,il2,ud2,idd2,by omega,by omega,h2.mv (by simp only; omega) rfl rfl rfl⟩
  rw [z3]; exact w2
 have bad:∀ (H0:Hp) (m:Nat),n≤m→(∀ i,i < n→H0 i=H i)→F=cFail 1 s→Wp (some (Value.tuple ⟨[]⟩,H0.set c (some (.row [v,ul,ud,.int .i64 1] 0 true)),m)) (fun q=>n≤q.2.2∧(∀ i,i < n→i≠c→i≠il→i≠idd→q.2.1 i=H i)∧q.1=.tuple ⟨[]⟩∧NextW3 c il idd n q.2.2 q.2.1 v F):=by
  intro H0 m z1 z2 z3
  have e2:cFail 1 s=⟨1,s.L,s.D⟩:=by unfold cFail; rw [if_pos hh]
  refine Wp.pure ⟨z1,fun i a b _ _=>(Zi _ _ b).trans (z2 i a),rfl,⟨1,s.L,s.D⟩,by rw [z3,e2]; exact Wk.refl _,ul,il,ud,idd,.inl rfl,.inl rfl,h.how 1 (by decide) z1 (Zj _ _ _) ((Zi _ _ hne).trans (z2 il hil)) ((Zi _ _ hnc).trans (z2 idd hdn))⟩
 have g:=(hv.li.mv (H':=H.set n (some (.row [] 1 true))) (Nat.le_refl _) (by intros;first|with_reducible rfl|simp(disch:=omega)only[Zi,Zj])).nAll (i:=x) h0 h1
 by_cases k5:(gi p x).k=5
 case neg =>
  (repeat(first|((with_reducible first|apply Wp.gs|apply Wp.cs|apply Zd|apply Zf|apply Zc|apply Zg|apply Zn|apply Wp.step);case h=>((try simp(disch:=omega)only[↓reduceIte,Za,↓X0,X1,Nat.reduceEqDiff,Int.reduceEq,Nat.reduceAdd,Nat.reduceSub,X2,Zi,Nat.reduceLeDiff,bsl_zi,hc,g,k5]);with_reducible first|done|exact rfl|exact bT|exact bF))|apply Ze|apply Zh|with_reducible apply Zl|simp only[↓X3]|simp(disch:=decide)only[asks_nil,asks_in,asks_out,askB_nil,askB_in,askB_out]|with_reducible apply Zb))
  exact main _ _ (by omega) (by intros;first|with_reducible rfl|simp(disch:=omega)only[Zi,Zj]) (nodef (fun h=>k5 h.1))
 have hpos:=chainOf_pos hp h0 h1 k5
 have hmm:=chainOf_mem hp h0 h1
 have hcl:=chainOf_len h0 h1
 ((repeat(first|((with_reducible first|apply Wp.gs|apply Wp.cs|apply Zd|apply Zf|apply Zc|apply Zg|apply Zn|apply Wp.step);case h=>((try simp(disch:=omega)only[↓reduceIte,Za,↓X0,X1,Nat.reduceEqDiff,Int.reduceEq,Nat.reduceAdd,Nat.reduceSub,X2,Zi,Nat.reduceLeDiff,bsl_zi,hc,g,k5]);with_reducible first|done|exact rfl|exact bT|exact bF))|apply Ze|apply Zh|with_reducible apply Zl|simp only[↓X3]|simp(disch:=decide)only[asks_nil,asks_in,asks_out,askB_nil,askB_in,askB_out]|with_reducible apply Zb));try(with_reducible apply Zm;case h=>((try simp(disch:=omega)only[X1,Nat.reduceEqDiff,bsl_zi,hc,g,k5]);with_reducible exact rfl)))
 refine Wp.rtn (k94 (hv.li.mv (by omega) (by intros;first|with_reducible rfl|simp(disch:=omega)only[Zi,Zj])) hp _ h0 h1) ?_
 rintro _ H2 n2 q2 s2 ⟨up,rfl,hup⟩
 have hk2:∀ i,i < n→H2 i=H i:=fun i hi=>(s2 i (by omega)).trans (Zi _ _ (by omega))
 have hc2:H2 c=some (.row [v,ul,ud,.int .i64 s.how] 0 true):=(hk2 c hcn).trans hc
 by_cases hch:(Zu p x).2=true
 case neg =>
  have hlo:listOf p x=([],false):=by unfold listOf; rw [if_neg hch]
  (repeat(first|((with_reducible first|apply Wp.gs|apply Wp.cs|apply Zd|apply Zf|apply Zc|apply Zg|apply Zn|apply Wp.step);case h=>((try simp(disch:=omega)only[↓reduceIte,Za,↓X0,X1,Nat.reduceEqDiff,Int.reduceEq,Nat.reduceAdd,Nat.reduceSub,X2,Zi,Nat.reduceLeDiff,hlo]);with_reducible first|done|exact rfl|exact bT|exact bF))|apply Ze|apply Zh|with_reducible apply Zl|simp only[↓X3]|simp(disch:=decide)only[asks_nil,asks_in,asks_out,askB_nil,askB_in,askB_out]|with_reducible apply Zb))
  exact main _ _ (by omega) hk2 (nodef (fun h=>hch h.2.1))
 have hlo:listOf p x=((Zu p x).1,true):=by unfold listOf; rw [if_pos hch]
 rw [hlo] at hup
 simp only at hup
 obtain ⟨idp,p1,p2,p3⟩:=hup
 generalize hL:(Zu p x).1=L at *
 have m0:=gi_mem (l:=L) (i:=0) (by omega) (by omega)
 have r0:=hmm _ m0
 have gl:=(p3.lst (n:=n2) p2).iAll (i:=0) (by omega) (by omega)
 have hv2:Li eNode n H2 v p:=hv.li.mv (Nat.le_refl _) hk2
 have g0:=hv2.nAll (i:=gi L 0) r0.1 (by omega)
 have hlu:Yc false up=some (.int .i64 L.length):=(p3.lst (n:=n2) p2).len
 by_cases k4:(gi p (gi L 0)).k=4
 case neg =>
  (repeat(first|((with_reducible first|apply Wp.gs|apply Wp.cs|apply Zd|apply Zf|apply Zc|apply Zg|apply Zn|apply Wp.step);case h=>((try simp(disch:=omega)only[↓reduceIte,Za,↓X0,X1,Nat.reduceEqDiff,Int.reduceEq,Nat.reduceAdd,Nat.reduceSub,X2,Zi,Nat.reduceLeDiff,hlo,hc2,gl,g0,k4]);with_reducible first|done|exact rfl|exact bT|exact bF))|apply Ze|apply Zh|with_reducible apply Zl|simp only[↓X3]|simp(disch:=decide)only[asks_nil,asks_in,asks_out,askB_nil,askB_in,askB_out]|with_reducible apply Zb))
  exact main _ _ (by omega) hk2 (nodef (fun h=>k4 h.2.2.1))
 by_cases hd:(gi p (gi L 0)).s=wDefine
 case neg =>
  (repeat(first|((with_reducible first|apply Wp.gs|apply Wp.cs|apply Zd|apply Zf|apply Zc|apply Zg|apply Zn|apply Wp.step);case h=>((try simp(disch:=omega)only[↓reduceIte,Za,↓X0,X1,Nat.reduceEqDiff,Int.reduceEq,Nat.reduceAdd,Nat.reduceSub,X2,Zi,Nat.reduceLeDiff,hlo,hc2,gl,g0,k4,hd]);with_reducible first|done|exact rfl|exact bT|exact bF))|apply Ze|apply Zh|with_reducible apply Zl|simp only[↓X3]|simp(disch:=decide)only[asks_nil,asks_in,asks_out,askB_nil,askB_in,askB_out]|with_reducible apply Zb))
  exact main _ _ (by omega) hk2 (nodef (fun h=>hd h.2.2.2))
 have hF:=isdef ⟨k5,hch,k4,hd⟩
 unfold cDefn at hF
 clear main nodef isdef
 by_cases h3:(L.length:Int) < 3
 ·have hst:=hcc.st 1 (H':=H2) (hk2 c hcn)
  (repeat(first|((with_reducible first|apply Wp.gs|apply Wp.cs|apply Zd|apply Zf|apply Zc|apply Zg|apply Zn|apply Wp.step);case h=>((try simp(disch:=omega)only[↓reduceIte,Za,↓X0,X1,Nat.reduceEqDiff,Int.reduceEq,Nat.reduceAdd,Nat.reduceSub,X2,Zi,Nat.reduceLeDiff,hlo,hc2,gl,g0,k4,hd,eq_self.{1},hlu,h3,hst]);with_reducible first|done|exact rfl|exact bT|exact bF))|apply Ze|apply Zh|with_reducible apply Zl|simp only[↓X3]|simp(disch:=decide)only[asks_nil,asks_in,asks_out,askB_nil,askB_in,askB_out]|with_reducible apply Zb))
  exact bad _ _ (by omega) hk2 (by rw [hF,if_neg (by omega)])
 have m1:=gi_mem (l:=L) (i:=1) (by omega) (by omega)
 have r1:=hmm _ m1
 have gl1:=(p3.lst (n:=n2) p2).iAll (i:=1) (by omega) (by omega)
 have g1:=hv2.nAll (i:=gi L 1) r1.1 (by omega)
 by_cases k51:(gi p (gi L 1)).k=5
 case neg =>
  have hst:=hcc.st 1 (H':=H2) (hk2 c hcn)
  (repeat(first|((with_reducible first|apply Wp.gs|apply Wp.cs|apply Zd|apply Zf|apply Zc|apply Zg|apply Zn|apply Wp.step);case h=>((try simp(disch:=omega)only[↓reduceIte,Za,↓X0,X1,Nat.reduceEqDiff,Int.reduceEq,Nat.reduceAdd,Nat.reduceSub,X2,Zi,Nat.reduceLeDiff,hlo,hc2,gl,g0,k4,hd,eq_self.{1},hlu,h3,gl1,g1,k51,hst]);with_reducible first|done|exact rfl|exact bT|exact bF))|apply Ze|apply Zh|with_reducible apply Zl|simp only[↓X3]|simp(disch:=decide)only[asks_nil,asks_in,asks_out,askB_nil,askB_in,askB_out]|with_reducible apply Zb))
  exact bad _ _ (by omega) hk2 (by rw [hF,if_neg]; rintro ⟨_,h,_⟩; exact k51 h)
 ((repeat(first|((with_reducible first|apply Wp.gs|apply Wp.cs|apply Zd|apply Zf|apply Zc|apply Zg|apply Zn|apply Wp.step);case h=>((try simp(disch:=omega)only[↓reduceIte,Za,↓X0,X1,Nat.reduceEqDiff,Int.reduceEq,Nat.reduceAdd,Nat.reduceSub,X2,Zi,Nat.reduceLeDiff,hlo,hc2,gl,g0,k4,hd,eq_self.{1},hlu,h3,gl1,g1,k51]);with_reducible first|done|exact rfl|exact bT|exact bF))|apply Ze|apply Zh|with_reducible apply Zl|simp only[↓X3]|simp(disch:=decide)only[asks_nil,asks_in,asks_out,askB_nil,askB_in,askB_out]|with_reducible apply Zb));try(with_reducible apply Zm;case h=>((try simp(disch:=omega)only[X1,Nat.reduceEqDiff,hlo,hc2,gl,g0,k4,hd,eq_self.{1},hlu,h3,gl1,g1,k51]);with_reducible exact rfl)))
 refine Wp.rtn (k94 (hv2.mv (by omega) (by intros;first|with_reducible rfl|simp(disch:=omega)only[Zi,Zj])) hp _ r1.1 (by omega)) ?_
 rintro _ H3 n3 q3 s3 ⟨uq,rfl,huq⟩
 have hk3:∀ i,i < n→H3 i=H i:=fun i hi=>(s3 i (by omega)).trans (hk2 i hi)
 have hc3:H3 c=some (.row [v,ul,ud,.int .i64 s.how] 0 true):=(hk3 c hcn).trans hc
 by_cases hch1:(Zu p (gi L 1)).2=true
 case neg =>
  have hlo1:listOf p (gi L 1)=([],false):=by unfold listOf; rw [if_neg hch1]
  have hst:=hcc.st 1 (H':=H3) (hk3 c hcn)
  (repeat(first|((with_reducible first|apply Wp.gs|apply Wp.cs|apply Zd|apply Zf|apply Zc|apply Zg|apply Zn|apply Wp.step);case h=>((try simp(disch:=omega)only[↓reduceIte,Za,↓X0,X1,Nat.reduceEqDiff,Int.reduceEq,Nat.reduceAdd,Nat.reduceSub,X2,Zi,Nat.reduceLeDiff,hlo1,hst]);with_reducible first|done|exact rfl|exact bT|exact bF))|apply Ze|apply Zh|with_reducible apply Zl|simp only[↓X3]|simp(disch:=decide)only[asks_nil,asks_in,asks_out,askB_nil,askB_in,askB_out]|with_reducible apply Zb))
  exact bad _ _ (by omega) hk3 (by rw [hF,if_neg]; rintro ⟨_,_,h⟩; exact hch1 h)
 have hlo1:listOf p (gi L 1)=((Zu p (gi L 1)).1,true):=by unfold listOf; rw [if_pos hch1]
 rw [hlo1] at huq
 simp only at huq
 rw [if_pos ⟨by omega,k51,hch1⟩] at hF
 have hpos1:=chainOf_pos hp r1.1 (by omega) k51
 have hmm1:=chainOf_mem hp r1.1 (by omega)
 have hcl1:=chainOf_len r1.1 (show gi L 1 < (p.length:Int) by omega)
 obtain ⟨idq,t1,t2,t3⟩:=huq
 generalize hQ:(Zu p (gi L 1)).1=Q at *
 have mq:=gi_mem (l:=Q) (i:=0) (by omega) (by omega)
 have rq:=hmm1 _ mq
 have gq:=(t3.lst (n:=n3) t2).iAll (i:=0) (by omega) (by omega)
 ((repeat(first|((with_reducible first|apply Wp.gs|apply Wp.cs|apply Zd|apply Zf|apply Zc|apply Zg|apply Zn|apply Wp.step);case h=>((try simp(disch:=omega)only[↓reduceIte,Za,↓X0,X1,Nat.reduceEqDiff,Int.reduceEq,Nat.reduceAdd,Nat.reduceSub,X2,Zi,Nat.reduceLeDiff,hlo1,gq]);with_reducible first|done|exact rfl|exact bT|exact bF))|apply Ze|apply Zh|with_reducible apply Zl|simp only[↓X3]|simp(disch:=decide)only[asks_nil,asks_in,asks_out,askB_nil,askB_in,askB_out]|with_reducible apply Zb));try(with_reducible apply Zm;case h=>((try simp(disch:=omega)only[X1,Nat.reduceEqDiff,hlo1,gq]);with_reducible exact rfl)))
 refine Wp.rt (k96 (hv2.mv (by omega) (fun i hi=>s3 i (by omega))) hc3 (by omega) _ rq.1 (by omega)) ?_
 intro H4 n4 q4 s4
 have hk4:∀ i,i < n→H4 i=H i:=fun i hi=>(s4 i (by omega)).trans (hk3 i hi)
 cases hiv:isVar (gi p (gi Q 0)) with
 | false =>
  have hst:=hcc.st 1 (H':=H4) (hk4 c hcn)
  (repeat(first|((with_reducible first|apply Wp.gs|apply Wp.cs|apply Zd|apply Zf|apply Zc|apply Zg|apply Zn|apply Wp.step);case h=>((try simp(disch:=omega)only[↓reduceIte,Za,↓X0,X1,Nat.reduceEqDiff,Int.reduceEq,Nat.reduceAdd,Nat.reduceSub,X2,Zi,Nat.reduceLeDiff,hst]);with_reducible first|done|exact rfl|exact bT|exact bF))|apply Ze|apply Zh|with_reducible apply Zl|simp only[↓X3]|simp(disch:=decide)only[asks_nil,asks_in,asks_out,askB_nil,askB_in,askB_out]|with_reducible apply Zb))
  exact bad _ _ (by omega) hk4 (by rw [hF,if_neg (by rw [hiv]; decide)])
 | true =>
  rw [if_pos hiv] at hF
  have t3':At eInt idq H4 uq Q:=t3.mv (s4 idq (by omega))
  have p3':At eInt idp H4 up L:=p3.mv (by rw [s4 idp (by omega),s3 idp (by omega)])
  obtain ⟨w1,hs1,hw1⟩:=(t3'.lo (c:=c) (il:=il) (n:=n4) (by omega) (by omega) (by omega)).tail (by decide) 1 (by omega)
  have hs1':sliceV 1 uq (some (.int .i64 1)) none=some w1:=hs1
  have hLO:=p3'.lo (c:=c) (il:=il) (n:=n4) (by omega) (by omega) (by omega)
  have hLd:Off idd up:=fun i o a k e=>by rcases p3 with ⟨h,_⟩ | ⟨h,_⟩ <;> rw [h] at e <;> cases e; omega
  obtain ⟨w2,hs2,hw2⟩:=hLO.tail (by decide) 2 (by omega)
  have hs2':sliceV 1 up (some (.int .i64 2)) none=some w2:=hs2
  ((repeat(first|((with_reducible first|apply Wp.gs|apply Wp.cs|apply Zd|apply Zf|apply Zc|apply Zg|apply Zn|apply Wp.step);case h=>((try simp(disch:=omega)only[↓reduceIte,Za,↓X0,X1,Nat.reduceEqDiff,Int.reduceEq,Nat.reduceAdd,Nat.reduceSub,hs1']);with_reducible first|done|exact rfl|exact bT|exact bF))|apply Ze|apply Zh|with_reducible apply Zl|simp only[↓X3]|simp(disch:=decide)only[asks_nil,asks_in,asks_out,askB_nil,askB_in,askB_out]|with_reducible apply Zb));try(with_reducible apply Zm;case h=>((try simp(disch:=omega)only[X1,Nat.reduceEqDiff,hs1']);with_reducible exact rfl)))
  refine Zy (k97 (l:=Q.drop 1) (hcc.mv (by omega) (hk4 c hcn) (hk4 il hil)) hh (hv.mv (by omega) (fun i a _ _=>hk4 i a) (.inl rfl)) (hw1.mv (by omega) (fun _ _ _ _=>rfl) (.inl rfl)) (fun x hx=>by have:=hmm1 x (List.mem_of_mem_drop hx); omega) (by rw [List.length_drop]; omega)) ?_
  rintro un H5 n5 q5 s5 ⟨ns,hun,hnl,hnn,h5⟩
  have hk5:Kept c il n H H5:=fun i a b c=>(s5 i (by omega) b c).trans (hk4 i a)
  have hDC5:DC c il idd n5 H5 v ul ud ⟨(cNames p (Q.drop 1)).2,s.L,s.D⟩:=⟨h5,h.ad.mv (by rw [s5 idd (by omega) hnc hni]; exact hk4 idd hdn),by omega,hnc,hni⟩
  ((repeat(first|((with_reducible first|apply Wp.gs|apply Wp.cs|apply Zd|apply Zf|apply Zc|apply Zg|apply Zn|apply Wp.step);case h=>((try simp(disch:=omega)only[↓reduceIte,Za,↓X0,X1,Nat.reduceEqDiff,Int.reduceEq,Nat.reduceAdd,Nat.reduceSub,hs2']);with_reducible first|done|exact rfl|exact bT|exact bF))|apply Ze|apply Zh|with_reducible apply Zl|simp only[↓X3]|simp(disch:=decide)only[asks_nil,asks_in,asks_out,askB_nil,askB_in,askB_out]|with_reducible apply Zb));try(with_reducible apply Zm;case h=>((try simp(disch:=omega)only[X1,Nat.reduceEqDiff,hs2']);with_reducible exact rfl)))
  refine Wp.rtm3 (k95 hg (l:=L.drop 2) (fun y hy=>hE y (hmm y (List.mem_of_mem_drop hy)).1 (by have:=hmm y (List.mem_of_mem_drop hy); omega)) (hDC5.mv (by omega) rfl rfl rfl) (hv.mv (by omega) hk5 (.inl rfl)) hvd (fun y hy=>by have:=hmm y (List.mem_of_mem_drop hy); omega) hnl ((hun.lo (by omega) (by omega)).mv (by omega) (fun _ _ _ _=>rfl) (.inl rfl)) (LO.off (c:=c) (il:=il) hun (by omega)) (hw2.mv (by omega) (fun i a b c=>s5 i (by omega) b c) (.inl rfl)) (sliceV_off hs2 hLd) (by rw [List.length_drop]; omega) hD) ?_
  rintro H6 n6 q6 s6 ⟨a6,w6,ul6,il6,ud6,idd6,i6,j6,h6⟩
  (repeat(first|((with_reducible first|apply Wp.gs|apply Wp.cs|apply Zd|apply Zf|apply Zc|apply Zg|apply Zn|apply Wp.step);case h=>((try simp(disch:=omega)only[↓reduceIte,Za,↓X0,X1,Nat.reduceEqDiff,Int.reduceEq,Nat.reduceAdd,Nat.reduceSub]);with_reducible first|done|exact rfl|exact bT|exact bF))|apply Ze|apply Zh|with_reducible apply Zl|simp only[↓X3]|simp(disch:=decide)only[asks_nil,asks_in,asks_out,askB_nil,askB_in,askB_out]|with_reducible apply Zb))
  refine Wp.pure ⟨by simp only; omega,fun i a b c d=>(s6 i (by omega) b c d).trans (hk5 i a b c),rfl,a6,?_,ul6,il6,ud6,idd6,by omega,by omega,h6.mv (by simp only; omega) rfl rfl rfl⟩
  rw [hF]
  by_cases hn0:(cNames p (Q.drop 1)).2=0
  ·rw [if_pos hn0] at w6 ⊢
   rw [hn0,← hs0] at w6
   rw [← hnn hn0]; exact w6
  ·rw [if_neg hn0] at w6 ⊢
   have e2:cFail (cNames p (Q.drop 1)).2 s=⟨(cNames p (Q.drop 1)).2,s.L,s.D⟩:=by unfold cFail; rw [if_pos hh]
   rw [e2]; exact w6
end Go.Proofs.Ytbgkimkbngocjaa.Ax
