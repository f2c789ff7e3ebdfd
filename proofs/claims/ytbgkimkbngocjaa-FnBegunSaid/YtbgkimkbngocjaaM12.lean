/- What the law needs: laws of the abstract machine, and contracts of functions. -/
import Derived.Test.YtbgkimkbngocjaaM9
import Derived.Test.YtbgkimkbngocjaaM11
import Derived.Test.YtbgkimkbngocjaaM4
import Derived.Test.YtbgkimkbngocjaaM7
import Derived.Test.YtbgkimkbngocjaaM3
set_option linter.unusedVariables false
set_option linter.unusedSimpArgs false
set_option maxHeartbeats 8000000
namespace Go.Proofs.Ytbgkimkbngocjaa.Ax
open Go
theorem cExpr_leaf {p:List Nd} {k:Nat} {v:Int} {e:Env} {s:CS} (h0:s.how=0) (h:(gi p v).k=1∨(gi p v).k=2∨(gi p v).k=3):cExpr p (k+1) v e s=cPut (Yd 1 v 0) s:=by rw [cExpr,if_pos h0,if_pos h]
theorem cExpr_sym {p:List Nd} {k:Nat} {v:Int} {e:Env} {s:CS} (h0:s.how=0) (h:(gi p v).k=4):cExpr p (k+1) v e s=if special (gi p v).s=true then cFail 1 s else cPut (varIns (gi p v).s e) s:=by
 rw [cExpr,if_pos h0,if_neg (by omega)]; exact if_pos h
theorem cExpr_bad {p:List Nd} {k:Nat} {v:Int} {e:Env} {s:CS} (h0:s.how=0) (h1:¬ ((gi p v).k=1∨(gi p v).k=2∨(gi p v).k=3)) (h4:(gi p v).k≠4) (h:¬ ((gi p v).k=5∧(Zv p v).2=true)):cExpr p (k+1) v e s=cFail 1 s:=by
 rw [cExpr,if_pos h0,if_neg h1,if_neg h4,if_neg h]
theorem cExpr_pair {p:List Nd} {k:Nat} {v:Int} {e:Env} {s:CS} (h0:s.how=0) (h:(gi p v).k=5) (h2:(Zv p v).2=true):cExpr p (k+1) v e s=if (gi p (gi (Zv p v).1 0)).k=4∧special (gi p (gi (Zv p v).1 0)).s=true then cForm (cExpr p k) p (gi p (gi (Zv p v).1 0)).s (Zv p v).1 e s else if 5 < (Zv p v).1.length then cFail 1 s else cPut (Yd 7 0 ((Zv p v).1.length - 1)) ((Zv p v).1.foldl (fun s x=>cExpr p k x e s) s):=by
 rw [cExpr,if_pos h0,if_neg (by omega),if_neg (by omega),if_pos ⟨h,h2⟩]
end Go.Proofs.Ytbgkimkbngocjaa.Ax
set_option linter.unusedVariables false
set_option linter.unusedSimpArgs false
set_option maxHeartbeats 8000000
namespace Go.Proofs.Ytbgkimkbngocjaa.Ax
open Go
theorem l124 {v:Value} {p:List Nd} {E:CEx} {l:List Int} (hg:∀ v e,Goes (E v e)) (hE:∀ x∈l,XR 124 v p E x) {c il n:Nat} {H:Hp} {ul ud w ew:Value} {s:CS} {e:Env} (h:CC c il n H v ul ud s) (hv:LO eNode c il n H v p) (he:EnvOk e) (hex:∀ x∈l,e.length+x.toNat≤90000) (hev:EV c il n H ew e) (hw:LO eInt c il n H w l) (hl:l.length≤1000000):∀ t n1,n≤n1→t 0=ptr c 0→t 2=ew→t 9=w→t 12=.int .i64 0 →
  Wp (Yf (S124L0 (Call Try.prog) Yf) t H n1) (fun o=>n≤o.n∧Kept c il n H o.H∧o.e=.exit 1∧NextW c il n o.n o.H v ud (l.foldl (fun s x=>E x e s) s)∧o.t 0=ptr c 0∧o.t 9=w):=by
 intro t n1 hn1 e0 e2 e9 e12
 have hcn:=h.cn
 have hil:=h.iln
 refine Loop_rule (fun d T H' n'=>∃ (j:Nat) (ul':Value) (il':Nat) (a:CS),j+d=l.length∧n≤n'∧Kept c il n H H'∧(il'=il∨n≤il')∧CC c il' n' H' v ul' ud a∧Wk a ((l.take j).foldl (fun s x=>E x e s) s)∧T 0=ptr c 0∧T 2=ew∧T 9=w∧T 12=.int .i64 j) _ ?_ l.length _ _ _ ⟨0,ul,il,s,by omega,hn1,fun _ _ _ _=>rfl,.inl rfl,h.mv (by omega) rfl rfl,Wk.refl _,e0,e2,e9,e12⟩
 rintro d T H' n' ⟨j,ul',il',a,hj,hn,s1,hi',h',hwk,e0,e2,e9,e12⟩
 unfold S124L0
 have hw':=hw.mv hn s1 hi'
 have hlen:=hw'.li.len
 by_cases hlt:(j:Int) < l.length
 ·have hlt':j < l.length:=by omega
  have hev':=hev.mv hn s1 hi'
  have hv':=hv.mv hn s1 hi'
  have g:=hw'.li.iAll (i:=(j:Int)) (by omega) hlt
  have hmem:=gi_mem (l:=l) (i:=(j:Int)) (by omega) hlt
  have hws:=wj (j:=j) (len:=l.length) hlt' (by omega)
  have hcn':=h'.cn
  have hil':=h'.iln
  ((repeat(first|((with_reducible first|apply Wp.gs|apply Wp.cs|apply Zc|apply Zg|apply Zd|apply Zi|apply Wp.step);case h=>((try simp(disch:=omega)only[↓reduceIte,Za,↓X0,X1,Nat.reduceEqDiff,Int.reduceEq,Nat.reduceAdd,Nat.reduceSub,e0,e2,e9,e12,hlen,hlt,g]);with_reducible first|done|exact rfl|exact bT|exact bF))|apply Zf|apply Zj|with_reducible apply Zk|simp only[↓X3]|with_reducible apply Zb));try(with_reducible apply Zm;case h=>((try simp(disch:=omega)only[X1,Nat.reduceEqDiff,e0,e2,e9,e12,hlen,hlt,g]);with_reducible exact rfl)))
  refine Wp.rta (hE _ hmem c il' _ _ ul' ud ew _ e (h'.mv (by omega) rfl rfl) (hv'.mv (by omega) (fun i a b c=>rfl) (.inl rfl)) he (hex _ hmem) (hev'.mv (by omega) (fun i a b c=>rfl) (.inl rfl))) ?_
  rintro _ H3 n3 q3 s3 ⟨rfl,a3,w3,ul3,il3,j1,j2⟩
  (repeat(first|((with_reducible first|apply Wp.gs|apply Wp.cs|apply Zc|apply Zg|apply Zd|apply Zi|apply Wp.step);case h=>((try simp(disch:=omega)only[↓reduceIte,Za,↓X0,X1,Nat.reduceEqDiff,Int.reduceEq,Nat.reduceAdd,Nat.reduceSub,e12,hws]);with_reducible first|done|exact rfl|exact bT|exact bF))|apply Zf|apply Zj|with_reducible apply Zk|simp only[↓X3]|with_reducible apply Zb))
  refine Wp.pure (Nxt.go (d - 1) (by omega) ⟨j+1,ul3,il3,a3,by omega,by omega,fun i a b c=>by rw [s3 i (by omega) b (by omega)]; exact s1 i a b c,by omega,j2.mv (by omega) rfl rfl,?_,by simp [Zl,e0],by simp [Zl,e2],by simp [Zl,e9],by simp [Zl]⟩)
  rw [take_next hlt',List.foldl_append,List.foldl_cons,List.foldl_nil,← gi_nat hlt']
  exact hwk.step (hg _ _) w3
 ·((repeat(first|((with_reducible first|apply Wp.gs|apply Wp.cs|apply Zc|apply Zg|apply Zd|apply Zi|apply Wp.step);case h=>((try simp(disch:=omega)only[↓reduceIte,Za,↓X0,X1,Nat.reduceEqDiff,Int.reduceEq,Nat.reduceAdd,Nat.reduceSub,e9,e12,hlen,hlt]);with_reducible first|done|exact rfl|exact bT|exact bF))|apply Zf|apply Zj|with_reducible apply Zk|simp only[↓X3]|with_reducible apply Zb));try(with_reducible apply Zm;case h=>((try simp(disch:=omega)only[X1,Nat.reduceEqDiff,e9,e12,hlen,hlt]);with_reducible exact rfl)))
  rw [List.take_of_length_le (by omega)] at hwk
  exact Wp.pure (Nxt.exit ⟨by simp only; omega,s1,rfl,⟨a,hwk,ul',il',hi',h'.mv (by simp only; omega) rfl rfl⟩,by simp [Zl,e0],by simp [Zl,e9]⟩)
theorem k124 {v:Value} {p:List Nd} (hp:PoolOk p):∀ (k:Nat) (x:Int),0≤x→x < (p.length:Int)→x < k→XR 124 v p (cExpr p k) x
 | 0,x,h0,h1,hk=>by omega
 | k+1,x,h0,h1,hk=>by
  intro c il n H ul ud ew s e h hv he hex hev
  have ih:=fun (y:Int) (y0:0≤y) (y1:y < x)=>k124 (v:=v) hp k y y0 (by omega) (by omega)
  apply RtA.of
  rw [c124]; unfold S124
  have hcn:=h.cn
  have hil:=h.iln
  have hne:=h.ne
  have hc:=h.hc
  have hpl:=hp.2
  by_cases hh:s.how=0
  case neg =>
   have e1:cExpr p (k+1) x e s=s:=(Goes.expr p (k+1) x e s).1 hh
   (repeat(first|((with_reducible first|apply Wp.gs|apply Wp.cs|apply Zc|apply Zg|apply Zd|apply Zi|apply Wp.step);case h=>((try simp(disch:=omega)only[↓reduceIte,Za,↓X0,X1,Nat.reduceEqDiff,Int.reduceEq,Nat.reduceAdd,Nat.reduceSub,X2,Ze,Nat.reduceLeDiff,hc,hh]);with_reducible first|done|exact rfl|exact bT|exact bF))|apply Zf|apply Zj|with_reducible apply Zk|simp only[↓X3]|with_reducible apply Zb))
   exact Wp.pure ⟨by simp only; omega,(by intros;first|with_reducible rfl|simp(disch:=omega)only[Ze,Zh]),rfl,s,by rw [e1]; exact Wk.refl _,ul,il,.inl rfl,h.mv (by simp only; omega) rfl rfl⟩
  have g:=hv.li.nAll (i:=x) h0 h1
  have fin:∀ (H2:Hp) (n2:Nat) (S:CS),n≤n2→Kept c il n H H2→NextW c il n n2 H2 v ud S→S=cExpr p (k+1) x e s→Wp (some (Value.tuple ⟨[]⟩,H2,n2)) (fun q=>n≤q.2.2∧(∀ i,i < n→i≠c→i≠il→q.2.1 i=H i)∧q.1=.tuple ⟨[]⟩∧NextW c il n q.2.2 q.2.1 v ud (cExpr p (k+1) x e s)):=by
   intro H2 n2 S z1 z2 z3 z4
   exact Wp.pure ⟨z1,z2,rfl,by rw [← z4]; exact z3⟩
  have leaf:=cExpr_leaf (p:=p) (k:=k) (v:=x) (e:=e) hh
  have sym:=cExpr_sym (p:=p) (k:=k) (v:=x) (e:=e) hh
  have bad:=cExpr_bad (p:=p) (k:=k) (v:=x) (e:=e) hh
  have pair:=cExpr_pair (p:=p) (k:=k) (v:=x) (e:=e) hh
  have hpos:=chainOf_pos hp h0 h1
  have hcf:cFail 1 s=⟨1,s.L,s.D⟩:=by unfold cFail; rw [if_pos hh]
  rw [hcf] at sym bad pair
  generalize cExpr p (k+1) x e s=F at *
  generalize hx:gi p x=X at *
  obtain ⟨xk,xn,xs,xa,xb⟩:=X
  simp only [Nd.cells] at g leaf sym bad pair hpos
  -- something came up
  have nogood:∀ (H0:Hp) (n0:Nat),n≤n0→(∀ i,i < n→H0 i=H i)→(⟨1,s.L,s.D⟩:CS)=F→Wp (some (Value.tuple ⟨[]⟩,H0.set c (some (.row [v,ul,ud,.int .i64 1] 0 true)),n0)) (fun q=>n≤q.2.2∧(∀ i,i < n→i≠c→i≠il→q.2.1 i=H i)∧q.1=.tuple ⟨[]⟩∧NextW c il n q.2.2 q.2.1 v ud F):=fun H0 n0 z1 z2 z3 =>
   fin _ _ _ z1 (fun i a b c=>(Ze _ _ b).trans (z2 i a)) ⟨_,Wk.refl _,ul,il,.inl rfl,h.how 1 (by decide) z1 (Zh _ _ _) ((Ze _ _ hne).trans (z2 il hil))⟩ z3
  by_cases c1:xk=1
  ·subst c1
   ((repeat(first|((with_reducible first|apply Wp.gs|apply Wp.cs|apply Zc|apply Zg|apply Zd|apply Zi|apply Wp.step);case h=>((try simp(disch:=omega)only[↓reduceIte,Za,↓X0,X1,Nat.reduceEqDiff,Int.reduceEq,Nat.reduceAdd,Nat.reduceSub,X2,Ze,Nat.reduceLeDiff,hc,hh,g,bld_ins2]);with_reducible first|done|exact rfl|exact bT|exact bF))|apply Zf|apply Zj|with_reducible apply Zk|simp only[↓X3]|with_reducible apply Zb));try(with_reducible apply Zm;case h=>((try simp(disch:=omega)only[X1,Nat.reduceEqDiff,hc,hh,g,bld_ins2]);with_reducible exact rfl)))
   refine Wp.rta (k117 (h.mv (by omega) (by intros;first|with_reducible rfl|simp(disch:=omega)only[Ze,Zh]) (by intros;first|with_reducible rfl|simp(disch:=omega)only[Ze,Zh])) (Yd 1 x 0)) ?_
   rintro _ H2 n2 q2 s2 ⟨rfl,ul2,il2,i2,h2⟩
   (repeat(first|((with_reducible first|apply Wp.gs|apply Wp.cs|apply Zc|apply Zg|apply Zd|apply Zi|apply Wp.step);case h=>((try simp(disch:=omega)only[↓reduceIte,Za,↓X0,X1,Nat.reduceEqDiff,Int.reduceEq,Nat.reduceAdd,Nat.reduceSub]);with_reducible first|done|exact rfl|exact bT|exact bF))|apply Zf|apply Zj|with_reducible apply Zk|simp only[↓X3]|with_reducible apply Zb))
   exact fin _ _ _ (by omega) (fun i a b c=>(s2 i (by omega) b c).trans (Ze _ _ (by omega))) ⟨_,Wk.refl _,ul2,il2,by omega,h2.mv (by omega) rfl rfl⟩ (leaf (by omega)).symm
  by_cases c2:xk=2
  ·subst c2
   ((repeat(first|((with_reducible first|apply Wp.gs|apply Wp.cs|apply Zc|apply Zg|apply Zd|apply Zi|apply Wp.step);case h=>((try simp(disch:=omega)only[↓reduceIte,Za,↓X0,X1,Nat.reduceEqDiff,Int.reduceEq,Nat.reduceAdd,Nat.reduceSub,X2,Ze,Nat.reduceLeDiff,hc,hh,g,bld_ins2]);with_reducible first|done|exact rfl|exact bT|exact bF))|apply Zf|apply Zj|with_reducible apply Zk|simp only[↓X3]|with_reducible apply Zb));try(with_reducible apply Zm;case h=>((try simp(disch:=omega)only[X1,Nat.reduceEqDiff,hc,hh,g,bld_ins2]);with_reducible exact rfl)))
   refine Wp.rta (k117 (h.mv (by omega) (by intros;first|with_reducible rfl|simp(disch:=omega)only[Ze,Zh]) (by intros;first|with_reducible rfl|simp(disch:=omega)only[Ze,Zh])) (Yd 1 x 0)) ?_
   rintro _ H2 n2 q2 s2 ⟨rfl,ul2,il2,i2,h2⟩
   (repeat(first|((with_reducible first|apply Wp.gs|apply Wp.cs|apply Zc|apply Zg|apply Zd|apply Zi|apply Wp.step);case h=>((try simp(disch:=omega)only[↓reduceIte,Za,↓X0,X1,Nat.reduceEqDiff,Int.reduceEq,Nat.reduceAdd,Nat.reduceSub]);with_reducible first|done|exact rfl|exact bT|exact bF))|apply Zf|apply Zj|with_reducible apply Zk|simp only[↓X3]|with_reducible apply Zb))
   exact fin _ _ _ (by omega) (fun i a b c=>(s2 i (by omega) b c).trans (Ze _ _ (by omega))) ⟨_,Wk.refl _,ul2,il2,by omega,h2.mv (by omega) rfl rfl⟩ (leaf (by omega)).symm
  by_cases c3:xk=3
  ·subst c3
   ((repeat(first|((with_reducible first|apply Wp.gs|apply Wp.cs|apply Zc|apply Zg|apply Zd|apply Zi|apply Wp.step);case h=>((try simp(disch:=omega)only[↓reduceIte,Za,↓X0,X1,Nat.reduceEqDiff,Int.reduceEq,Nat.reduceAdd,Nat.reduceSub,X2,Ze,Nat.reduceLeDiff,hc,hh,g,bld_ins2]);with_reducible first|done|exact rfl|exact bT|exact bF))|apply Zf|apply Zj|with_reducible apply Zk|simp only[↓X3]|with_reducible apply Zb));try(with_reducible apply Zm;case h=>((try simp(disch:=omega)only[X1,Nat.reduceEqDiff,hc,hh,g,bld_ins2]);with_reducible exact rfl)))
   refine Wp.rta (k117 (h.mv (by omega) (by intros;first|with_reducible rfl|simp(disch:=omega)only[Ze,Zh]) (by intros;first|with_reducible rfl|simp(disch:=omega)only[Ze,Zh])) (Yd 1 x 0)) ?_
   rintro _ H2 n2 q2 s2 ⟨rfl,ul2,il2,i2,h2⟩
   (repeat(first|((with_reducible first|apply Wp.gs|apply Wp.cs|apply Zc|apply Zg|apply Zd|apply Zi|apply Wp.step);case h=>((try simp(disch:=omega)only[↓reduceIte,Za,↓X0,X1,Nat.reduceEqDiff,Int.reduceEq,Nat.reduceAdd,Nat.reduceSub]);with_reducible first|done|exact rfl|exact bT|exact bF))|apply Zf|apply Zj|with_reducible apply Zk|simp only[↓X3]|with_reducible apply Zb))
   exact fin _ _ _ (by omega) (fun i a b c=>(s2 i (by omega) b c).trans (Ze _ _ (by omega))) ⟨_,Wk.refl _,ul2,il2,by omega,h2.mv (by omega) rfl rfl⟩ (leaf (by omega)).symm
  by_cases c4:xk=4
  ·subst c4
   ((repeat(first|((with_reducible first|apply Wp.gs|apply Wp.cs|apply Zc|apply Zg|apply Zd|apply Zi|apply Wp.step);case h=>((try simp(disch:=omega)only[↓reduceIte,Za,↓X0,X1,Nat.reduceEqDiff,Int.reduceEq,Nat.reduceAdd,Nat.reduceSub,X2,Ze,Nat.reduceLeDiff,hc,hh,g]);with_reducible first|done|exact rfl|exact bT|exact bF))|apply Zf|apply Zj|with_reducible apply Zk|simp only[↓X3]|with_reducible apply Zb));try(with_reducible apply Zm;case h=>((try simp(disch:=omega)only[X1,Nat.reduceEqDiff,hc,hh,g]);with_reducible exact rfl)))
   refine Wp.rt (k118 _ _ _) ?_
   intro H2 n2 q2 s2
   have hk2:∀ i,i < n→H2 i=H i:=fun i hi=>(s2 i (by omega)).trans (Ze _ _ (by omega))
   have hbox:H2 (n+13)=some (.row [.int .i64 4,.int .i64 xn,.string xs,.int .i64 xa,.int .i64 xb] 0 true):=(s2 _ (by omega)).trans (Zh _ _ _)
   cases hsp:special xs with
   | true =>
    have sym:=sym rfl
    rw [if_pos hsp] at sym
    have hst:=h.st 1 (H':=H2) (hk2 c hcn)
    (repeat(first|((with_reducible first|apply Wp.gs|apply Wp.cs|apply Zc|apply Zg|apply Zd|apply Zi|apply Wp.step);case h=>((try simp(disch:=omega)only[↓reduceIte,Za,↓X0,X1,Nat.reduceEqDiff,Int.reduceEq,Nat.reduceAdd,Nat.reduceSub,X2,Ze,Nat.reduceLeDiff,hst]);with_reducible first|done|exact rfl|exact bT|exact bF))|apply Zf|apply Zj|with_reducible apply Zk|simp only[↓X3]|with_reducible apply Zb))
    exact nogood _ _ (by omega) hk2 sym.symm
   | false =>
    have sym:=sym rfl
    rw [if_neg (by rw [hsp]; decide)] at sym
    ((repeat(first|((with_reducible first|apply Wp.gs|apply Wp.cs|apply Zc|apply Zg|apply Zd|apply Zi|apply Wp.step);case h=>((try simp(disch:=omega)only[↓reduceIte,Za,↓X0,X1,Nat.reduceEqDiff,Int.reduceEq,Nat.reduceAdd,Nat.reduceSub,X2,Ze,Nat.reduceLeDiff,hbox]);with_reducible first|done|exact rfl|exact bT|exact bF))|apply Zf|apply Zj|with_reducible apply Zk|simp only[↓X3]|with_reducible apply Zb));try(with_reducible apply Zm;case h=>((try simp(disch:=omega)only[X1,Nat.reduceEqDiff,hbox]);with_reducible exact rfl)))
    refine Wp.rt (k129 xs he (hev.mv (by omega) (fun i a _ _=>hk2 i a) (.inl rfl))) ?_
    intro H3 n3 q3 s3
    have hk3:∀ i,i < n→H3 i=H i:=fun i hi=>(s3 i (by omega)).trans (hk2 i hi)
    have hbox3:H3 (n+13)=some (.row [.int .i64 4,.int .i64 xn,.string xs,.int .i64 xa,.int .i64 xb] 0 true):=(s3 _ (by omega)).trans hbox
    unfold varV
    cases hcv:cVar xs e 0 with
    | none =>
     have hvi:varIns xs e=⟨3,0,0,xs⟩:=by unfold varIns; rw [hcv]
     rw [hvi] at sym
     simp only
     ((repeat(first|((with_reducible first|apply Wp.gs|apply Wp.cs|apply Zc|apply Zg|apply Zd|apply Zi|apply Wp.step);case h=>((try simp(disch:=omega)only[↓reduceIte,Za,↓X0,X1,Nat.reduceEqDiff,Int.reduceEq,Nat.reduceAdd,Nat.reduceSub,X2,Ze,Nat.reduceLeDiff,hbox3,show ¬ (0:Int) ≤ -1 by decide,bld_insS]);with_reducible first|done|exact rfl|exact bT|exact bF))|apply Zf|apply Zj|with_reducible apply Zk|simp only[↓X3]|with_reducible apply Zb));try(with_reducible apply Zm;case h=>((try simp(disch:=omega)only[X1,Nat.reduceEqDiff,hbox3,show ¬ (0:Int) ≤ -1 by decide,bld_insS]);with_reducible exact rfl)))
     refine Wp.rta (k117 (h.mv (by omega) (hk3 c hcn) (hk3 il hil)) ⟨3,0,0,xs⟩) ?_
     rintro _ H4 n4 q4 s4 ⟨rfl,ul4,il4,i4,h4⟩
     (repeat(first|((with_reducible first|apply Wp.gs|apply Wp.cs|apply Zc|apply Zg|apply Zd|apply Zi|apply Wp.step);case h=>((try simp(disch:=omega)only[↓reduceIte,Za,↓X0,X1,Nat.reduceEqDiff,Int.reduceEq,Nat.reduceAdd,Nat.reduceSub]);with_reducible first|done|exact rfl|exact bT|exact bF))|apply Zf|apply Zj|with_reducible apply Zk|simp only[↓X3]|with_reducible apply Zb))
     exact fin _ _ _ (by omega) (fun i a b c=>(s4 i (by omega) b c).trans (hk3 i a)) ⟨_,Wk.refl _,ul4,il4,by omega,h4.mv (by omega) rfl rfl⟩ sym.symm
    | some ab =>
     obtain ⟨a,b⟩:=ab
     have hvi:varIns xs e=Yd 2 a b:=by unfold varIns; rw [hcv]
     rw [hvi] at sym
     simp only
     ((repeat(first|((with_reducible first|apply Wp.gs|apply Wp.cs|apply Zc|apply Zg|apply Zd|apply Zi|apply Wp.step);case h=>((try simp(disch:=omega)only[↓reduceIte,Za,↓X0,X1,Nat.reduceEqDiff,Int.reduceEq,Nat.reduceAdd,Nat.reduceSub,X2,Ze,Nat.reduceLeDiff,show (0:Int)≤(a:Int) by omega,bld_ins]);with_reducible first|done|exact rfl|exact bT|exact bF))|apply Zf|apply Zj|with_reducible apply Zk|simp only[↓X3]|with_reducible apply Zb));try(with_reducible apply Zm;case h=>((try simp(disch:=omega)only[X1,Nat.reduceEqDiff,show (0:Int)≤(a:Int) by omega,bld_ins]);with_reducible exact rfl)))
     refine Wp.rta (k117 (h.mv (by omega) (hk3 c hcn) (hk3 il hil)) (Yd 2 a b)) ?_
     rintro _ H4 n4 q4 s4 ⟨rfl,ul4,il4,i4,h4⟩
     (repeat(first|((with_reducible first|apply Wp.gs|apply Wp.cs|apply Zc|apply Zg|apply Zd|apply Zi|apply Wp.step);case h=>((try simp(disch:=omega)only[↓reduceIte,Za,↓X0,X1,Nat.reduceEqDiff,Int.reduceEq,Nat.reduceAdd,Nat.reduceSub]);with_reducible first|done|exact rfl|exact bT|exact bF))|apply Zf|apply Zj|with_reducible apply Zk|simp only[↓X3]|with_reducible apply Zb))
     exact fin _ _ _ (by omega) (fun i a b c=>(s4 i (by omega) b c).trans (hk3 i a)) ⟨_,Wk.refl _,ul4,il4,by omega,h4.mv (by omega) rfl rfl⟩ sym.symm
  by_cases c5:xk=5
  case neg =>
   have hst:=h.st 1 (H':=(H.set (n+13) (some (.row [.int .i64 xk,.int .i64 xn,.string xs,.int .i64 xa,.int .i64 xb] 0 true)))) (Ze _ _ (by omega))
   (repeat(first|((with_reducible first|apply Wp.gs|apply Wp.cs|apply Zc|apply Zg|apply Zd|apply Zi|apply Wp.step);case h=>((try simp(disch:=omega)only[↓reduceIte,Za,↓X0,X1,Nat.reduceEqDiff,Int.reduceEq,Nat.reduceAdd,Nat.reduceSub,X2,Ze,Nat.reduceLeDiff,hc,hh,g,c1,c2,c3,c4,c5,hst]);with_reducible first|done|exact rfl|exact bT|exact bF))|apply Zf|apply Zj|with_reducible apply Zk|simp only[↓X3]|with_reducible apply Zb))
   exact nogood _ _ (by omega) (by intros;first|with_reducible rfl|simp(disch:=omega)only[Ze,Zh]) (bad (by omega) c4 (fun h=>c5 h.1)).symm
  subst c5
  have hmm:=chainOf_mem hp h0 h1
  have hcl:=chainOf_len h0 h1
  have hps:=hpos rfl
  ((repeat(first|((with_reducible first|apply Wp.gs|apply Wp.cs|apply Zc|apply Zg|apply Zd|apply Zi|apply Wp.step);case h=>((try simp(disch:=omega)only[↓reduceIte,Za,↓X0,X1,Nat.reduceEqDiff,Int.reduceEq,Nat.reduceAdd,Nat.reduceSub,X2,Ze,Nat.reduceLeDiff,hc,hh,g]);with_reducible first|done|exact rfl|exact bT|exact bF))|apply Zf|apply Zj|with_reducible apply Zk|simp only[↓X3]|with_reducible apply Zb));try(with_reducible apply Zm;case h=>((try simp(disch:=omega)only[X1,Nat.reduceEqDiff,hc,hh,g]);with_reducible exact rfl)))
  refine Wp.rtn (k94 (hv.li.mv (by omega) (by intros;first|with_reducible rfl|simp(disch:=omega)only[Ze,Zh])) hp _ h0 h1) ?_
  rintro _ H2 n2 q2 s2 ⟨up,rfl,hup⟩
  have hnt:notTup up=true:=by obtain ⟨_,_,_,p3⟩:=hup; rcases p3 with ⟨h,_⟩ | ⟨h,_⟩ <;> rw [h] <;> rfl
  have hk2:∀ i,i < n→H2 i=H i:=fun i hi=>(s2 i (by omega)).trans (Ze _ _ (by omega))
  have hc2:H2 c=some (.row [v,ul,ud,.int .i64 s.how] 0 true):=(hk2 c hcn).trans hc
  by_cases hch:(Zv p x).2=true
  case neg =>
   have hlo:listOf p x=([],false):=by unfold listOf; rw [if_neg hch]
   have hst:=h.st 1 (H':=H2) (hk2 c hcn)
   (repeat(first|((with_reducible first|apply Wp.gs|apply Wp.cs|apply Zc|apply Zg|apply Zd|apply Zi|apply Wp.step);case h=>((try simp(disch:=omega)only[↓reduceIte,Za,↓X0,X1,Nat.reduceEqDiff,Int.reduceEq,Nat.reduceAdd,Nat.reduceSub,X2,Ze,Nat.reduceLeDiff,hnt,hlo,hst]);with_reducible first|done|exact rfl|exact bT|exact bF))|apply Zf|apply Zj|with_reducible apply Zk|simp only[↓X3]|with_reducible apply Zb))
   exact nogood _ _ (by omega) hk2 (bad (by omega) c4 (fun h=>hch h.2)).symm
  have hlo:listOf p x=((Zv p x).1,true):=by unfold listOf; rw [if_pos hch]
  rw [hlo] at hup
  simp only at hup
  have pair:=pair rfl hch
  obtain ⟨idp,p1,p2,p3⟩:=hup
  generalize hL:(Zv p x).1=L at *
  have m0:=gi_mem (l:=L) (i:=0) (by omega) (by omega)
  have r0:=hmm _ m0
  have gl:=(p3.lst (n:=n2) p2).iAll (i:=0) (by omega) (by omega)
  have g0:=(hv.li.mv (H':=H2) (Nat.le_refl _) hk2).nAll (i:=gi L 0) r0.1 (by omega)
  have hcl0:(gi p (gi L 0)).cells=[.int .i64 (gi p (gi L 0)).k,.int .i64 (gi p (gi L 0)).n,.string (gi p (gi L 0)).s,.int .i64 (gi p (gi L 0)).a,.int .i64 (gi p (gi L 0)).b]:=rfl
  rw [hcl0] at g0
  have hlu:lenV false up=some (.int .i64 L.length):=(p3.lst (n:=n2) p2).len
  have hEl:∀ y∈L,XR 124 v p (cExpr p k) y:=fun y hy=>ih y (hmm y hy).1 (hmm y hy).2
  have rest:∀ (T:Tm) (H4:Hp) (n4:Nat),n2+4≤n4→(∀ i,i < n2→H4 i=H2 i)→¬ 5 < L.length→T 0=ptr c 0→T 2=ew→T 9=up→T 12=.int .i64 0→F=cPut (Yd 7 0 ((L.length:Int) - 1)) (L.foldl (fun s x=>cExpr p k x e s) s)→Wp ((Yf (S124L0 (Call Try.prog) Yf) T H4 n4).bind fun o86=>(lenV false (o86.t 9)).bind fun v93=>(Zr .plain .sub v93 (.int .i64 1)).bind fun v94=>(bld [.int .i64 0,.int .i64 0,.int .i64 0,.string ⟨#[]⟩] [(0,1,.int .i64 7),(2,1,v94)]).bind fun v95=>(Call Try.prog 117 [o86.t 0,v95] o86.H (o86.n+6)).bind fun q96=>some (Value.tuple ⟨[]⟩,q96.2.1,q96.2.2)) (fun q=>n≤q.2.2∧(∀ i,i < n→i≠c→i≠il→q.2.1 i=H i)∧q.1=.tuple ⟨[]⟩∧NextW c il n q.2.2 q.2.1 v ud F):=by
   intro T H4 n4 z1 z2 z3 t0 t2 t9 t12 z4
   have hk4:∀ i,i < n→H4 i=H i:=fun i hi=>(z2 i (by omega)).trans (hk2 i hi)
   have hw1:IntKind.i64.wrap ((L.length:Int) - 1)=(L.length:Int) - 1:=w64 (by omega)
   have hwl:LO eInt c il n4 H4 up L:=(p3.mv (z2 idp p2)).lo (by omega) (by omega) (by omega)
   refine Wp.bind (l124 (Goes.expr p k) hEl (h.mv (m:=n4) (by omega) (hk4 c hcn) (hk4 il hil)) (hv.mv (by omega) (fun i a _ _=>hk4 i a) (.inl rfl)) he (fun y hy=>by have:=hmm y hy; omega) (hev.mv (by omega) (fun i a _ _=>hk4 i a) (.inl rfl)) hwl (by omega) T n4 (Nat.le_refl _) t0 t2 t9 t12) ?_
   rintro ⟨oe,ot,oH,on⟩ ⟨f1,f2,rfl,⟨a5,w5,ul5,il5,i5,h5'⟩,e0,e9⟩
   simp only at f1 f2 h5' e0 e9
   ((repeat(first|((with_reducible first|apply Wp.gs|apply Wp.cs|apply Zc|apply Zg|apply Zd|apply Zi|apply Wp.step);case h=>((try simp(disch:=omega)only[↓reduceIte,Za,↓X0,X1,Nat.reduceEqDiff,Int.reduceEq,Nat.reduceAdd,Nat.reduceSub,e0,e9,hlu,hw1,bld_ins3]);with_reducible first|done|exact rfl|exact bT|exact bF))|apply Zf|apply Zj|with_reducible apply Zk|simp only[↓X3]|with_reducible apply Zb));try(with_reducible apply Zm;case h=>((try simp(disch:=omega)only[X1,Nat.reduceEqDiff,e0,e9,hlu,hw1,bld_ins3]);with_reducible exact rfl)))
   refine Wp.rta (k117 (h5'.mv (by omega) rfl rfl) (Yd 7 0 ((L.length:Int) - 1))) ?_
   rintro _ H6 n6 q6 s6 ⟨rfl,ul6,il6,i6,h6⟩
   have hcn5:=h5'.cn
   have w6:=w5.step (Goes.put (Yd 7 0 ((L.length:Int) - 1))) (Wk.refl _)
   (repeat(first|((with_reducible first|apply Wp.gs|apply Wp.cs|apply Zc|apply Zg|apply Zd|apply Zi|apply Wp.step);case h=>((try simp(disch:=omega)only[↓reduceIte,Za,↓X0,X1,Nat.reduceEqDiff,Int.reduceEq,Nat.reduceAdd,Nat.reduceSub]);with_reducible first|done|exact rfl|exact bT|exact bF))|apply Zf|apply Zj|with_reducible apply Zk|simp only[↓X3]|with_reducible apply Zb))
   exact fin _ _ _ (by omega) (fun i a b c=>by rw [s6 i (by omega) b (by omega),f2 i (by omega) b (by omega)]; exact hk4 i a) ⟨_,w6,ul6,il6,by omega,h6.mv (by omega) rfl rfl⟩ z4.symm
  by_cases k4:(gi p (gi L 0)).k=4
  ·((repeat(first|((with_reducible first|apply Wp.gs|apply Wp.cs|apply Zc|apply Zg|apply Zd|apply Zi|apply Wp.step);case h=>((try simp(disch:=omega)only[↓reduceIte,Za,↓X0,X1,Nat.reduceEqDiff,Int.reduceEq,Nat.reduceAdd,Nat.reduceSub,X2,Ze,Nat.reduceLeDiff,hnt,hlo,hc2,gl,g0,k4]);with_reducible first|done|exact rfl|exact bT|exact bF))|apply Zf|apply Zj|with_reducible apply Zk|simp only[↓X3]|with_reducible apply Zb));try(with_reducible apply Zm;case h=>((try simp(disch:=omega)only[X1,Nat.reduceEqDiff,hnt,hlo,hc2,gl,g0,k4]);with_reducible exact rfl)))
   refine Wp.rt (k118 _ _ _) ?_
   intro H4 n4 q4 s4
   have hs4:∀ i,i < n2→H4 i=H2 i:=fun i hi=>(s4 i (by omega)).trans (Ze _ _ (by omega))
   have hk4:∀ i,i < n→H4 i=H i:=fun i hi=>(hs4 i (by omega)).trans (hk2 i hi)
   have hwl4:LO eInt c il n4 H4 up L:=(p3.mv (hs4 idp p2)).lo (by omega) (by omega) (by omega)
   have hbox:H4 (n2+12)=some (.row [.int .i64 4,.int .i64 (gi p (gi L 0)).n,.string (gi p (gi L 0)).s,.int .i64 (gi p (gi L 0)).a,.int .i64 (gi p (gi L 0)).b] 0 true):=(s4 _ (by omega)).trans (Zh _ _ _)
   cases hsp:special (gi p (gi L 0)).s with
   | true =>
    rw [if_pos ⟨k4,hsp⟩] at pair
    ((repeat(first|((with_reducible first|apply Wp.gs|apply Wp.cs|apply Zc|apply Zg|apply Zd|apply Zi|apply Wp.step);case h=>((try simp(disch:=omega)only[↓reduceIte,Za,↓X0,X1,Nat.reduceEqDiff,Int.reduceEq,Nat.reduceAdd,Nat.reduceSub,X2,Ze,Nat.reduceLeDiff,hbox]);with_reducible first|done|exact rfl|exact bT|exact bF))|apply Zf|apply Zj|with_reducible apply Zk|simp only[↓X3]|with_reducible apply Zb));try(with_reducible apply Zm;case h=>((try simp(disch:=omega)only[X1,Nat.reduceEqDiff,hbox]);with_reducible exact rfl)))
    refine Wp.rta (k130 hp (Goes.expr p k) hEl (h.mv (by omega) (hk4 c hcn) (hk4 il hil)) hh (hv.mv (by omega) (fun i a _ _=>hk4 i a) (.inl rfl)) he (fun y hy=>by have:=hmm y hy; omega) (hev.mv (by omega) (fun i a _ _=>hk4 i a) (.inl rfl)) (hwl4.mv (by omega) (fun _ _ _ _=>rfl) (.inl rfl)) (fun y hy=>by have:=hmm y hy; omega) (by omega)) ?_
    rintro _ H5 n5 q5 s5 ⟨rfl,a5,w5,ul5,il5,i5,h5⟩
    (repeat(first|((with_reducible first|apply Wp.gs|apply Wp.cs|apply Zc|apply Zg|apply Zd|apply Zi|apply Wp.step);case h=>((try simp(disch:=omega)only[↓reduceIte,Za,↓X0,X1,Nat.reduceEqDiff,Int.reduceEq,Nat.reduceAdd,Nat.reduceSub]);with_reducible first|done|exact rfl|exact bT|exact bF))|apply Zf|apply Zj|with_reducible apply Zk|simp only[↓X3]|with_reducible apply Zb))
    exact fin _ _ _ (by omega) (fun i a b c=>(s5 i (by omega) b c).trans (hk4 i a)) ⟨a5,w5,ul5,il5,by omega,h5.mv (by omega) rfl rfl⟩ pair.symm
   | false =>
    rw [if_neg (by rw [hsp]; rintro ⟨_,h⟩; cases h)] at pair
    by_cases h5:5 < L.length
    ·rw [if_pos h5] at pair
     have hst:=h.st 1 (H':=H4) (hk4 c hcn)
     (repeat(first|((with_reducible first|apply Wp.gs|apply Wp.cs|apply Zc|apply Zg|apply Zd|apply Zi|apply Wp.step);case h=>((try simp(disch:=omega)only[↓reduceIte,Za,↓X0,X1,Nat.reduceEqDiff,Int.reduceEq,Nat.reduceAdd,Nat.reduceSub,X2,Ze,Nat.reduceLeDiff,hlu,show (5:Int) < (L.length:Int) by omega,hst]);with_reducible first|done|exact rfl|exact bT|exact bF))|apply Zf|apply Zj|with_reducible apply Zk|simp only[↓X3]|with_reducible apply Zb))
     exact nogood _ _ (by omega) hk4 pair.symm
    ·rw [if_neg h5] at pair
     (repeat(first|((with_reducible first|apply Wp.gs|apply Wp.cs|apply Zc|apply Zg|apply Zd|apply Zi|apply Wp.step);case h=>((try simp(disch:=omega)only[↓reduceIte,Za,↓X0,X1,Nat.reduceEqDiff,Int.reduceEq,Nat.reduceAdd,Nat.reduceSub,hlu,show ¬ (5:Int) < (L.length:Int) by omega]);with_reducible first|done|exact rfl|exact bT|exact bF))|apply Zf|apply Zj|with_reducible apply Zk|simp only[↓X3]|with_reducible apply Zb))
     exact rest _ _ _ (by omega) hs4 h5 (by simp [Zl,Zq]) (by simp [Zl,Zq]) (by simp [Zl]) (by simp [Zl]) pair
  ·rw [if_neg (fun h=>k4 h.1)] at pair
   have hs4:∀ i,i < n2→(H2.set (n2+12) (some (.row [.int .i64 (gi p (gi L 0)).k,.int .i64 (gi p (gi L 0)).n,.string (gi p (gi L 0)).s,.int .i64 (gi p (gi L 0)).a,.int .i64 (gi p (gi L 0)).b] 0 true))) i=H2 i:=fun i hi=>Ze _ _ (by omega)
   by_cases h5:5 < L.length
   ·rw [if_pos h5] at pair
    have hst:=h.st 1 (H':=H2.set (n2+12) (some (.row [.int .i64 (gi p (gi L 0)).k,.int .i64 (gi p (gi L 0)).n,.string (gi p (gi L 0)).s,.int .i64 (gi p (gi L 0)).a,.int .i64 (gi p (gi L 0)).b] 0 true))) ((hs4 c (by omega)).trans (hk2 c hcn))
    (repeat(first|((with_reducible first|apply Wp.gs|apply Wp.cs|apply Zc|apply Zg|apply Zd|apply Zi|apply Wp.step);case h=>((try simp(disch:=omega)only[↓reduceIte,Za,↓X0,X1,Nat.reduceEqDiff,Int.reduceEq,Nat.reduceAdd,Nat.reduceSub,X2,Ze,Nat.reduceLeDiff,hnt,hlo,hc2,gl,g0,k4,hlu,show (5:Int) < (L.length:Int) by omega,hst]);with_reducible first|done|exact rfl|exact bT|exact bF))|apply Zf|apply Zj|with_reducible apply Zk|simp only[↓X3]|with_reducible apply Zb))
    exact nogood _ _ (by omega) (fun i hi=>(hs4 i (by omega)).trans (hk2 i hi)) pair.symm
   ·rw [if_neg h5] at pair
    (repeat(first|((with_reducible first|apply Wp.gs|apply Wp.cs|apply Zc|apply Zg|apply Zd|apply Zi|apply Wp.step);case h=>((try simp(disch:=omega)only[↓reduceIte,Za,↓X0,X1,Nat.reduceEqDiff,Int.reduceEq,Nat.reduceAdd,Nat.reduceSub,X2,Ze,Nat.reduceLeDiff,hnt,hlo,hc2,gl,g0,k4,hlu,show ¬ (5:Int) < (L.length:Int) by omega]);with_reducible first|done|exact rfl|exact bT|exact bF))|apply Zf|apply Zj|with_reducible apply Zk|simp only[↓X3]|with_reducible apply Zb))
    exact rest _ _ _ (by omega) hs4 h5 (by simp [Zl,Zq]) (by simp [Zl,Zq]) (by simp [Zl]) (by simp [Zl]) pair
end Go.Proofs.Ytbgkimkbngocjaa.Ax
set_option linter.unusedVariables false
set_option linter.unusedSimpArgs false
set_option maxHeartbeats 4000000
namespace Go.Proofs.Ytbgkimkbngocjaa.Ax
open Go
abbrev RtM3 (P:Program) (f:Nat) (args:List Value) (a b c:Nat) (H:Hp) (n:Nat) (v:Value) (R:Hp→Nat→Prop):Prop:=∃ H' n',n≤n'∧(∀ i,i < n→i≠a→i≠b→i≠c→H' i=H i)∧Call P f args H n=some (v,H',n')∧R H' n'
theorem Wp.rtm3 {P:Program} {f:Nat} {args:List Value} {H:Hp} {n a b c:Nat} {β:Type} {g:Value × Hp × Nat→Option β} {Q:β→Prop} {v:Value} {R:Hp→Nat→Prop} (h:RtM3 P f args a b c H n v R) (k:∀ H' n',n≤n'→(∀ i,i < n→i≠a→i≠b→i≠c→H' i=H i)→R H' n'→Wp (g (v,H',n')) Q):Wp ((Call P f args H n).bind g) Q:=by
 obtain ⟨H',n',h1,h2,h3,h4⟩:=h
 rw [h3]; exact k H' n' h1 h2 h4
theorem RtM3.of {P:Program} {f:Nat} {args:List Value} {a b c:Nat} {H:Hp} {n:Nat} {v:Value} {R:Hp→Nat→Prop} (h:Wp (Call P f args H n) fun q=>n≤q.2.2∧(∀ i,i < n→i≠a→i≠b→i≠c→q.2.1 i=H i)∧q.1=v∧R q.2.1 q.2.2):RtM3 P f args a b c H n v R:=by
 obtain ⟨⟨w,H',n'⟩,h1,h2,h3,h4,h5⟩:=h
 simp only at h2 h3 h4 h5
 subst h4; exact ⟨H',n',h2,h3,h1,h5⟩
end Go.Proofs.Ytbgkimkbngocjaa.Ax
set_option linter.unusedVariables false
set_option linter.unusedSimpArgs false
set_option maxHeartbeats 8000000
namespace Go.Proofs.Ytbgkimkbngocjaa.Ax
open Go
structure DC (c il idd n:Nat) (H:Hp) (v ul ud:Value) (s:CS):Prop where
 cc:CC c il n H v ul ud s
 ad:At eDef idd H ud s.D
 dn:idd < n
 nc:idd≠c
 ni:idd≠il
theorem DC.mv {c il idd n m:Nat} {H H':Hp} {v ul ud:Value} {s:CS} (h:DC c il idd n H v ul ud s) (hm:n≤m) (h1:H' c=H c) (h2:H' il=H il) (h3:H' idd=H idd):DC c il idd m H' v ul ud s :=
 ⟨h.cc.mv hm h1 h2,h.ad.mv h3,by have:=h.dn; omega,h.nc,h.ni⟩
abbrev Next3 (c il idd n n':Nat) (H':Hp) (v:Value) (s:CS):Prop:=∃ ul' il' ud' idd',(il'=il∨n≤il')∧(idd'=idd∨n≤idd')∧DC c il' idd' n' H' v ul' ud' s
theorem bld_df (s:ByteArray) (a b:Int):bld [.string ⟨#[]⟩,.int .i64 0,.int .i64 0] [(0,1,.string s),(1,1,.int .i64 a),(2,1,.int .i64 b)]=some (.agg ⟨(⟨s,a,b⟩:Df).cells⟩):=rfl
theorem LO.off {α:Type} {E:Enc α} {lo n c il idd:Nat} {H:Hp} {w:Value} {l:List α} (h:New E lo n H w l) (hd:idd < lo):Off idd w:=by
 obtain ⟨id,h1,h2,h3⟩:=h
 rcases h3 with ⟨rfl,_⟩ | ⟨rfl,_⟩ <;> intro i o a k e <;> cases e <;> omega
end Go.Proofs.Ytbgkimkbngocjaa.Ax
set_option linter.unusedVariables false
set_option linter.unusedSimpArgs false
set_option maxHeartbeats 8000000
namespace Go.Proofs.Ytbgkimkbngocjaa.Ax
open Go
theorem LO.nilS {α:Type} {E:Enc α} {c il n:Nat} {H:Hp}:LO E c il n H nilS ([]:List α):=⟨Li.nil,fun i o a k e=>(by cases e),fun i o a k e=>(by cases e)⟩
theorem cTop_D {E:CEx} (hg:∀ v e,Goes (E v e)) (p:List Nd) (x:Int) (s:CS):(cTop E p x s).D.length≤s.D.length+1:=by
 have hf:∀ h s,(cFail h s).D=s.D:=fun h s=>(Goes.fail h s).2.2
 have hd:∀ n ps b,(cDefine E n ps b s).D.length≤s.D.length+1:=by
  intro n ps b
  unfold cDefine
  split
  ·rw [hf]; omega
  ·rw [(Goes.put _ _).2.2,(Goes.body hg _ _ _).2.2]; simp
 unfold cTop cDefn
 repeat' split
 all_goals first | exact hd _ _ _ | (rw [hf]; omega)
theorem compAns_bad {p:List Nd} {l:List Int} (h:¬ (PoolOk p∧inPool p l)):compAns p l=⟨[],[],[],3,0⟩:=by unfold compAns; rw [if_neg h]
theorem compAns_3 {p:List Nd} {l:List Int} (h:PoolOk p∧inPool p l) (h3:(cAll p l 0 ⟨0,[],[]⟩).1.how=3):compAns p l=⟨[],[],[],3,0⟩:=by unfold compAns; rw [if_pos h,if_neg (by omega),if_pos h3]
theorem compAns_e {p:List Nd} {l:List Int} (h:PoolOk p∧inPool p l) (h0:(cAll p l 0 ⟨0,[],[]⟩).1.how≠0) (h3:(cAll p l 0 ⟨0,[],[]⟩).1.how≠3):compAns p l=⟨[],[],[],(cAll p l 0 ⟨0,[],[]⟩).1.how,(cAll p l 0 ⟨0,[],[]⟩).2⟩:=by unfold compAns; rw [if_pos h,if_neg h0,if_neg h3]
theorem compAns_n {p:List Nd} {l:List Int} (h:PoolOk p∧inPool p l) (h0:(cAll p l 0 ⟨0,[],[]⟩).1.how=0) (h3:¬ CodeOk p (cAll p l 0 ⟨0,[],[]⟩).1.L (cAll p l 0 ⟨0,[],[]⟩).1.D):compAns p l=⟨[],[],[],3,0⟩:=by unfold compAns; rw [if_pos h,if_pos h0,if_neg h3]
theorem compAns_y {p:List Nd} {l:List Int} (h:PoolOk p∧inPool p l) (h0:(cAll p l 0 ⟨0,[],[]⟩).1.how=0) (h3:CodeOk p (cAll p l 0 ⟨0,[],[]⟩).1.L (cAll p l 0 ⟨0,[],[]⟩).1.D):compAns p l=⟨p,(cAll p l 0 ⟨0,[],[]⟩).1.L,(cAll p l 0 ⟨0,[],[]⟩).1.D,0,l.length⟩:=by unfold compAns; rw [if_pos h,if_pos h0,if_pos h3]
def CompRes (n n':Nat) (H':Hp) (r:Value) (a:CA):Prop:=∃ u ul ud,r=.tuple ⟨[.agg ⟨[u,ul,ud]⟩,.int .i64 a.how,.int .i64 a.at_]⟩∧New3 n n' H' u ul ud a.p a.L a.D
theorem CompRes.none {n n':Nat} {H':Hp} (hn:n+3≤n') (h a:Int):CompRes n n' H' (.tuple ⟨[.agg ⟨[nilS,nilS,nilS]⟩,.int .i64 h,.int .i64 a]⟩) ⟨[],[],[],h,a⟩ :=
 ⟨nilS,nilS,nilS,rfl,n,n+1,n+2,by omega,by omega,by omega,by omega,by omega,by omega,by omega,by omega,by omega,At.nil,At.nil,At.nil⟩
theorem bld_3n:bld [nilS,nilS,nilS] []=some (.agg ⟨[nilS,nilS,nilS]⟩):=rfl
end Go.Proofs.Ytbgkimkbngocjaa.Ax
set_option linter.unusedVariables false
set_option linter.unusedSimpArgs false
set_option maxHeartbeats 8000000
namespace Go.Proofs.Ytbgkimkbngocjaa.Ax
open Go
theorem CC.withD {c il n:Nat} {H:Hp} {v ul ud:Value} {s:CS} (h:CC c il n H v ul ud s) (D:List Df):CC c il n H v ul ud ⟨s.how,s.L,D⟩:=⟨h.hc,h.al,h.cn,h.iln,h.ne,h.len,h.hr⟩
abbrev NextW3 (c il idd n n':Nat) (H':Hp) (v:Value) (b:CS):Prop:=∃ a,Wk a b∧Next3 c il idd n n' H' v a
theorem l95 {c il idd n0:Nat} {H0:Hp} {v ul ud:Value} {s:CS} (h:DC c il idd n0 H0 v ul ud s) (name:ByteArray) (wn w:Value) (hD:s.D.length≤1048576):∀ t n,n0≤n→t 0=ptr c 0→t 1=.string name→t 2=wn→t 3=w→t 8=.int .i64 0 →
  Wp (Yf (S95L0 (Call Try.prog) Yf) t H0 n) (fun o=>n≤o.n∧(∀ i,i < n0→i≠c→o.H i=H0 i)∧o.e=.exit 0∧o.t 0=ptr c 0∧o.t 1=.string name∧o.t 2=wn∧o.t 3=w∧DC c il idd o.n o.H v ul ud ⟨if s.how=0 then (if hasDef name s.D=true then 2 else 0) else s.how,s.L,s.D⟩):=by
 intro t n hn e0 e1 e2 e3 e8
 obtain ⟨hcc,had,hdn,hnc,hni⟩:=h
 have hcn:=hcc.cn
 have hil:=hcc.iln
 have hne:=hcc.ne
 refine Loop_rule (fun d T H' n'=>∃ (j:Nat) (x:Int),j+d=s.D.length+1∧1≤d∧n≤n'∧(∀ i,i < n0→i≠c→H' i=H0 i)∧CC c il n' H' v ul ud ⟨x,s.L,s.D⟩∧T 0=ptr c 0∧T 1=.string name∧T 2=wn∧T 3=w∧T 8=.int .i64 j∧((s.how≠0∧x=s.how)∨(s.how=0∧x=0∧hasDef name (s.D.take j)=false)∨(s.how=0∧x=2∧hasDef name s.D=true))) _ ?_ (s.D.length+1) _ _ _ ⟨0,s.how,by omega,by omega,by omega,fun _ _ _=>rfl,(hcc.withD s.D).mv (by omega) rfl rfl,e0,e1,e2,e3,e8,by by_cases h0:s.how=0; exact .inr (.inl ⟨h0,h0,by simp [hasDef]⟩); exact .inl ⟨h0,rfl⟩⟩
 rintro d T H' n' ⟨j,x,hj,hd,hn',s1,hcc',e0,e1,e2,e3,e8,hx⟩
 unfold S95L0
 have hc:=hcc'.hc
 simp only at hc
 have hadl:Li eDef n' H' ud s.D:=(had.mv (s1 idd hdn hnc)).lst (by omega)
 have fin:∀ T2:Tm,T2 0=ptr c 0→T2 1=.string name→T2 2=wn→T2 3=w→∀ m,n'≤m→x=(if s.how=0 then (if hasDef name s.D=true then 2 else 0) else s.how)→Wp (some (⟨.exit 0,T2,H',m⟩:Out)) (Nxt (fun d T H' n'=>∃ (j:Nat) (x:Int),j+d=s.D.length+1∧1≤d∧n≤n'∧(∀ i,i < n0→i≠c→H' i=H0 i)∧CC c il n' H' v ul ud ⟨x,s.L,s.D⟩∧T 0=ptr c 0∧T 1=.string name∧T 2=wn∧T 3=w∧T 8=.int .i64 j∧((s.how≠0∧x=s.how)∨(s.how=0∧x=0∧hasDef name (s.D.take j)=false)∨(s.how=0∧x=2∧hasDef name s.D=true))) d (fun o=>n≤o.n∧(∀ i,i < n0→i≠c→o.H i=H0 i)∧o.e=.exit 0∧o.t 0=ptr c 0∧o.t 1=.string name∧o.t 2=wn∧o.t 3=w∧DC c il idd o.n o.H v ul ud ⟨if s.how=0 then (if hasDef name s.D=true then 2 else 0) else s.how,s.L,s.D⟩)):=by
  intro T2 t0 t1 t2 t3 m hm hxe
  refine Wp.pure (Nxt.exit ⟨by simp only; omega,s1,rfl,t0,t1,t2,t3,?_,had.mv (s1 idd hdn hnc),by simp only; omega,hnc,hni⟩)
  rw [← hxe]
  exact hcc'.mv (by simp only; omega) rfl rfl
 by_cases hlt:(j:Int) < s.D.length
 ·have hlt':j < s.D.length:=by omega
  have g:=hadl.dAll (i:=(j:Int)) (by omega) hlt
  have hws:=wj (j:=j) (len:=s.D.length) hlt' (by omega)
  have htk:hasDef name (s.D.take (j+1))=(hasDef name (s.D.take j) || decide ((gi s.D (j:Int)).s=name)):=by
   unfold hasDef
   rw [take_next hlt',List.any_append,gi_nat hlt']; simp
  rcases hx with ⟨h0,rfl⟩ | ⟨h0,rfl,hno⟩ | ⟨h0,rfl,hyes⟩
  ·(repeat(first|((with_reducible first|apply Wp.gs|apply Wp.cs|apply Zc|apply Zg|apply Zd|apply Zi|apply Wp.step);case h=>((try simp(disch:=omega)only[↓reduceIte,Za,↓X0,X1,Nat.reduceEqDiff,Int.reduceEq,Nat.reduceAdd,Nat.reduceSub,X2,Ze,Nat.reduceLeDiff,e0,e1,e8,hc,hadl.len,hlt,h0]);with_reducible first|done|exact rfl|exact bT|exact bF))|apply Zf|apply Zj|with_reducible apply Zk|simp only[↓X3]|with_reducible apply Zb))
   exact fin _ (by simp [Zl,e0]) (by simp [Zl,e1]) (by simp [Zl,e2]) (by simp [Zl,e3]) _ (by omega) (by rw [if_neg h0])
  ·by_cases heq:(gi s.D (j:Int)).s=name
   ·have hst:=hcc'.st 2 rfl
    (repeat(first|((with_reducible first|apply Wp.gs|apply Wp.cs|apply Zc|apply Zg|apply Zd|apply Zi|apply Wp.step);case h=>((try simp(disch:=omega)only[↓reduceIte,Za,↓X0,X1,Nat.reduceEqDiff,Int.reduceEq,Nat.reduceAdd,Nat.reduceSub,X2,Ze,Nat.reduceLeDiff,e0,e1,e8,hc,hadl.len,hlt,g,heq,eq_self.{1},hst,hws]);with_reducible first|done|exact rfl|exact bT|exact bF))|apply Zf|apply Zj|with_reducible apply Zk|simp only[↓X3]|with_reducible apply Zb))
    refine Wp.pure (Nxt.go (d - 1) (by omega) ⟨j+1,2,by omega,by omega,by omega,fun i a b=>(Ze _ _ b).trans (s1 i a b),hcc'.how 2 (by decide) (by omega) (Zh _ _ _) (Ze _ _ hne),by simp [Zl,e0],by simp [Zl,e1],by simp [Zl,e2],by simp [Zl,e3],by simp [Zl],.inr (.inr ⟨h0,rfl,?_⟩)⟩)
    unfold hasDef
    rw [List.any_eq_true]
    exact ⟨_,gi_mem (l:=s.D) (i:=(j:Int)) (by omega) hlt,decide_eq_true heq⟩
   ·(repeat(first|((with_reducible first|apply Wp.gs|apply Wp.cs|apply Zc|apply Zg|apply Zd|apply Zi|apply Wp.step);case h=>((try simp(disch:=omega)only[↓reduceIte,Za,↓X0,X1,Nat.reduceEqDiff,Int.reduceEq,Nat.reduceAdd,Nat.reduceSub,X2,Ze,Nat.reduceLeDiff,e0,e1,e8,hc,hadl.len,hlt,g,heq,eq_self.{1},hws]);with_reducible first|done|exact rfl|exact bT|exact bF))|apply Zf|apply Zj|with_reducible apply Zk|simp only[↓X3]|with_reducible apply Zb))
    exact Wp.pure (Nxt.go (d - 1) (by omega) ⟨j+1,0,by omega,by omega,by omega,s1,hcc'.mv (by omega) rfl rfl,by simp [Zl,e0],by simp [Zl,e1],by simp [Zl,e2],by simp [Zl,e3],by simp [Zl],.inr (.inl ⟨h0,rfl,by rw [htk,hno,decide_eq_false heq]; rfl⟩)⟩)
  ·(repeat(first|((with_reducible first|apply Wp.gs|apply Wp.cs|apply Zc|apply Zg|apply Zd|apply Zi|apply Wp.step);case h=>((try simp(disch:=omega)only[↓reduceIte,Za,↓X0,X1,Nat.reduceEqDiff,Int.reduceEq,Nat.reduceAdd,Nat.reduceSub,X2,Ze,Nat.reduceLeDiff,e0,e1,e8,hc,hadl.len,hlt,show ¬ (2:Int)=0 by decide]);with_reducible first|done|exact rfl|exact bT|exact bF))|apply Zf|apply Zj|with_reducible apply Zk|simp only[↓X3]|with_reducible apply Zb))
   exact fin _ (by simp [Zl,e0]) (by simp [Zl,e1]) (by simp [Zl,e2]) (by simp [Zl,e3]) _ (by omega) (by rw [if_pos h0,if_pos hyes])
 ·(repeat(first|((with_reducible first|apply Wp.gs|apply Wp.cs|apply Zc|apply Zg|apply Zd|apply Zi|apply Wp.step);case h=>((try simp(disch:=omega)only[↓reduceIte,Za,↓X0,X1,Nat.reduceEqDiff,Int.reduceEq,Nat.reduceAdd,Nat.reduceSub,X2,Ze,Nat.reduceLeDiff,e0,e8,hc,hadl.len,hlt]);with_reducible first|done|exact rfl|exact bT|exact bF))|apply Zf|apply Zj|with_reducible apply Zk|simp only[↓X3]|with_reducible apply Zb))
  refine fin _ (by simp [Zl,e0]) (by simp [Zl,e1]) (by simp [Zl,e2]) (by simp [Zl,e3]) _ (by omega) ?_
  rw [List.take_of_length_le (by omega)] at hx
  rcases hx with ⟨h0,rfl⟩ | ⟨h0,rfl,hno⟩ | ⟨h0,rfl,hyes⟩
  ·rw [if_neg h0]
  ·rw [if_pos h0,hno]; rfl
  ·rw [if_pos h0,if_pos hyes]
theorem k95 {v:Value} {p:List Nd} {E:CEx} {l:List Int} (hg:∀ v e,Goes (E v e)) (hE:∀ x∈l,XR 124 v p E x) {c il idd n:Nat} {H:Hp} {ul ud wn w:Value} {s:CS} {name:ByteArray} {names:List ByteArray} (h:DC c il idd n H v ul ud s) (hv:LO eNode c il n H v p) (hvd:Off idd v) (hex:∀ x∈l,1+x.toNat≤90000) (hnl:names.length≤4) (hwn:LO eStr c il n H wn names) (hwd:Off idd wn) (hw:LO eInt c il n H w l) (hwd2:Off idd w) (hl:l.length≤1000000) (hD:s.D.length≤1048576):RtM3 Try.prog 95 [ptr c 0,.string name,wn,w] c il idd H n (.tuple ⟨[]⟩) (fun H' n'=>NextW3 c il idd n n' H' v (if s.how=0 then cDefine E name names l s else s)):=by
 apply RtM3.of
 rw [c95]; unfold S95
 have hdn:=h.dn
 have hnc:=h.nc
 have hni:=h.ni
 have hcn:=h.cc.cn
 have hil:=h.cc.iln
 (repeat(first|((with_reducible first|apply Wp.gs|apply Wp.cs|apply Zc|apply Zg|apply Zd|apply Zi|apply Wp.step);case h=>((try simp(disch:=omega)only[↓reduceIte,Za,↓X0,X1,Nat.reduceEqDiff,Int.reduceEq,Nat.reduceAdd,Nat.reduceSub]);with_reducible first|done|exact rfl|exact bT|exact bF))|apply Zf|apply Zj|with_reducible apply Zk|simp only[↓X3]|with_reducible apply Zb))
 refine Wp.bind (l95 h name wn w hD _ _ (by omega) (by simp [Zl,Zq]) (by simp [Zl,Zq]) (by simp [Zl,Zq]) (by simp [Zl,Zq]) (by simp [Zl])) ?_
 rintro ⟨oe,ot,oH,on⟩ ⟨f1,f2,rfl,e0,e1,e2,e3,f8⟩
 simp only at f1 f2 e0 e1 e2 e3 f8
 generalize hx:(if s.how=0 then (if hasDef name s.D=true then 2 else 0) else s.how)=x at *
 obtain ⟨hcc,had,hdn1,_,_⟩:=f8
 have hc:=hcc.hc
 have hne:=hcc.ne
 have hcn1:=hcc.cn
 simp only at hc had
 have hlv:lenV false ul=some (.int .i64 s.L.length):=(hcc.al.lst hcc.iln).len
 have hb:=fun id=>bsl_dc id (⟨name,s.L.length,names.length⟩:Df)
 ((repeat(first|((with_reducible first|apply Wp.gs|apply Wp.cs|apply Zc|apply Zg|apply Zd|apply Zi|apply Wp.step);case h=>((try simp(disch:=omega)only[↓reduceIte,Za,↓X0,X1,Nat.reduceEqDiff,Int.reduceEq,Nat.reduceAdd,Nat.reduceSub,X2,Ze,Nat.reduceLeDiff,e0,e1,e2,e3,hc,hlv,hwn.li.len,bld_df,hb]);with_reducible first|done|exact rfl|exact bT|exact bF))|apply Zf|apply Zj|with_reducible apply Zk|simp only[↓X3]|with_reducible apply Zb));try(with_reducible apply Zm;case h=>((try simp(disch:=omega)only[X1,Nat.reduceEqDiff,e0,e1,e2,e3,hc,hlv,hwn.li.len,bld_df,hb]);with_reducible exact rfl)))
 refine Wp.app1 (E:=eDef) (⟨name,s.L.length,names.length⟩:Df) (had.mv (by intros;first|with_reducible rfl|simp(disch:=omega)only[Ze,Zh])) (by omega) (by decide) (by omega) ?_
 intro H4 r1 r2
 have hc4:H4 c=some (.row [v,ul,ud,.int .i64 x] 0 true):=by simp (disch:=omega) only [r2,Ze,hc]
 have hst:=st_cset (o:=2) (v:=sl (on+15) 0 (s.D++[(⟨name,s.L.length,names.length⟩:Df)]).length) hc4 (by simp) rfl
 simp only [List.set_cons_succ,List.set_cons_zero] at hst
 generalize hu2:sl (on+15) 0 (s.D++[(⟨name,s.L.length,names.length⟩:Df)]).length=u2 at *
 ((repeat(first|((with_reducible first|apply Wp.gs|apply Wp.cs|apply Zc|apply Zg|apply Zd|apply Zi|apply Wp.step);case h=>((try simp(disch:=omega)only[↓reduceIte,Za,↓X0,X1,Nat.reduceEqDiff,Int.reduceEq,Nat.reduceAdd,Nat.reduceSub,X2,Ze,Nat.reduceLeDiff,e0,e1,e2,e3,hst,bsl_v _ wn hwn.li.c1]);with_reducible first|done|exact rfl|exact bT|exact bF))|apply Zf|apply Zj|with_reducible apply Zk|simp only[↓X3]|with_reducible apply Zb));try(with_reducible apply Zm;case h=>((try simp(disch:=omega)only[X1,Nat.reduceEqDiff,e0,e1,e2,e3,hst,bsl_v _ wn hwn.li.c1]);with_reducible exact rfl)))
 generalize hG:(H4.set c _).set (on+22) _=G
 have hk:∀ i,i < n→i≠c→i≠il→i≠idd→G i=H i:=fun i a b c d=>by
  rw [← hG]; simp (disch:=omega) only [Ze,r2,f2]
 have hGc:G c=some (.row [v,ul,u2,.int .i64 x] 0 true):=by rw [← hG]; simp (disch:=omega) only [Ze,Zh]
 have hGd:At eDef (on+15) G u2 (s.D++[(⟨name,s.L.length,names.length⟩:Df)]):=by
  rw [← hu2]; refine .inr ⟨rfl,?_⟩
  rw [← hG]; simp (disch:=omega) only [Ze,r1]
 have hGe:At eVl (on+22) G (sl (on+22) 0 1) [wn]:=.inr ⟨rfl,by rw [← hG]; exact Zh _ _ _⟩
 have hGil:G il=oH il:=by rw [← hG]; simp (disch:=omega) only [Ze,r2]
 have hwnG:LO eStr c il (on+24) G wn names:=⟨(hwn.li.keep' fun i o a k e=>hk i (hwn.li.2 i o a k e) (hwn.oc i o a k e) (hwn.oi i o a k e) (hwd i o a k e)).up (by omega),hwn.oc,hwn.oi⟩
 have hwG:LO eInt c il (on+24) G w l:=⟨(hw.li.keep' fun i o a k e=>hk i (hw.li.2 i o a k e) (hw.oc i o a k e) (hw.oi i o a k e) (hwd2 i o a k e)).up (by omega),hw.oc,hw.oi⟩
 have hvG:LO eNode c il (on+24) G v p:=⟨(hv.li.keep' fun i o a k e=>hk i (hv.li.2 i o a k e) (hv.oc i o a k e) (hv.oi i o a k e) (hvd i o a k e)).up (by omega),hv.oc,hv.oi⟩
 have hev:EV c il (on+24) G (sl (on+22) 0 1) ([]++[names]):=EV.snoc (ws:=[]) hGe (by omega) (by omega) (by omega) rfl (fun i h1 _=>by simp at h1) hwnG
 have hCC:CC c il (on+24) G v ul u2 ⟨x,s.L,s.D++[(⟨name,s.L.length,names.length⟩:Df)]⟩:=⟨hGc,hcc.al.mv hGil,by omega,by omega,hne,hcc.len,hcc.hr⟩
 ((repeat(first|((with_reducible first|apply Wp.gs|apply Wp.cs|apply Zc|apply Zg|apply Zd|apply Zi|apply Wp.step);case h=>((try simp(disch:=omega)only[↓reduceIte,Za,↓X0,X1,Nat.reduceEqDiff,Int.reduceEq,Nat.reduceAdd,Nat.reduceSub,e0,e3]);with_reducible first|done|exact rfl|exact bT|exact bF))|apply Zf|apply Zj|with_reducible apply Zk|simp only[↓X3]|with_reducible apply Zb));try(with_reducible apply Zm;case h=>((try simp(disch:=omega)only[X1,Nat.reduceEqDiff,e0,e3]);with_reducible exact rfl)))
 refine Wp.rta (k116 hg hE hCC hvG (e:=[names]) ⟨by simp,fun f hf=>by simp at hf; rw [hf]; exact hnl⟩ (fun x hx=>by have:=hex x hx; simpa using this) hev hwG hl) ?_
 rintro _ H5 n5 q5 s5 ⟨rfl,A5,w5,ul5,il5,i5,h5⟩
 have hB:=Goes.body hg [names] l ⟨x,s.L,s.D++[(⟨name,s.L.length,names.length⟩:Df)]⟩
 have hcn5:=h5.cn
 have hiln5:=h5.iln
 ((repeat(first|((with_reducible first|apply Wp.gs|apply Wp.cs|apply Zc|apply Zg|apply Zd|apply Zi|apply Wp.step);case h=>((try simp(disch:=omega)only[↓reduceIte,Za,↓X0,X1,Nat.reduceEqDiff,Int.reduceEq,Nat.reduceAdd,Nat.reduceSub,e0,bld_ins1]);with_reducible first|done|exact rfl|exact bT|exact bF))|apply Zf|apply Zj|with_reducible apply Zk|simp only[↓X3]|with_reducible apply Zb));try(with_reducible apply Zm;case h=>((try simp(disch:=omega)only[X1,Nat.reduceEqDiff,e0,bld_ins1]);with_reducible exact rfl)))
 refine Wp.rta (k117 (h5.mv (by omega) rfl rfl) (Yd 8 0 0)) ?_
 rintro _ H6 n6 q6 s6 ⟨rfl,ul6,il6,i6,h6⟩
 have w6:Wk (cPut (Yd 8 0 0) A5) (cPut (Yd 8 0 0) (cBody E [names] l ⟨x,s.L,s.D++[(⟨name,s.L.length,names.length⟩:Df)]⟩)):=w5.step (Goes.put _) (Wk.refl _)
 have hP:=Goes.put (Yd 8 0 0) (cBody E [names] l ⟨x,s.L,s.D++[(⟨name,s.L.length,names.length⟩:Df)]⟩)
 generalize hM:cPut (Yd 8 0 0) (cBody E [names] l ⟨x,s.L,s.D++[(⟨name,s.L.length,names.length⟩:Df)]⟩)=M at *
 have hMD:M.D=s.D++[(⟨name,s.L.length,names.length⟩:Df)]:=by rw [hP.2.2,hB.2.2]
 generalize cPut (Yd 8 0 0) A5=A6 at *
 (repeat(first|((with_reducible first|apply Wp.gs|apply Wp.cs|apply Zc|apply Zg|apply Zd|apply Zi|apply Wp.step);case h=>((try simp(disch:=omega)only[↓reduceIte,Za,↓X0,X1,Nat.reduceEqDiff,Int.reduceEq,Nat.reduceAdd,Nat.reduceSub]);with_reducible first|done|exact rfl|exact bT|exact bF))|apply Zf|apply Zj|with_reducible apply Zk|simp only[↓X3]|with_reducible apply Zb))
 refine Wp.pure ⟨by simp only; omega,fun i a b c d=>?_,rfl,⟨A6.how,A6.L,s.D++[(⟨name,s.L.length,names.length⟩:Df)]⟩,?_,ul6,il6,u2,on+15,by omega,.inr (by omega),(h6.withD _).mv (by simp only; omega) rfl rfl,?_,by simp only; omega,by omega,by omega⟩
 ·show H6 i=H i
  rw [s6 i (by omega) b (by omega),s5 i (by omega) b (by omega)]
  exact hk i a b c d
 ·have hA:Wk ⟨A6.how,A6.L,s.D++[(⟨name,s.L.length,names.length⟩:Df)]⟩ M:=by
   refine ⟨w6.1,fun h=>?_⟩
   rw [w6.2 h,← hMD]
  by_cases h0:s.how=0
  ·rw [if_pos h0] at hx ⊢
   unfold cDefine
   by_cases hd:hasDef name s.D=true
   ·rw [if_pos hd] at hx ⊢
    subst hx
    have e1:M=⟨2,s.L,s.D++[(⟨name,s.L.length,names.length⟩:Df)]⟩:=by
     rw [← hM,hB.1 (by show (2:Int)≠0; decide),cPut_how (by show (2:Int)≠0; decide)]
    have e2:cFail 2 s=⟨2,s.L,s.D⟩:=by unfold cFail; rw [if_pos h0]
    rw [e1] at hA
    rw [e2]
    exact ⟨hA.1,fun h=>by simp at h⟩
   ·rw [if_neg hd] at hx ⊢
    subst hx
    rw [h0,hM]
    exact hA
  ·rw [if_neg h0] at hx ⊢
   subst hx
   have e1:M=⟨s.how,s.L,s.D++[(⟨name,s.L.length,names.length⟩:Df)]⟩:=by
    rw [← hM,hB.1 h0]; exact cPut_how h0
   rw [e1] at hA
   exact ⟨hA.1,fun h=>absurd h h0⟩
 ·exact hGd.mv (by show H6 (on+15)=G (on+15); rw [s6 _ (by omega) (by omega) (by omega),s5 _ (by omega) (by omega) (by omega)])
end Go.Proofs.Ytbgkimkbngocjaa.Ax
set_option linter.unusedVariables false
set_option linter.unusedSimpArgs false
set_option maxHeartbeats 8000000
namespace Go.Proofs.Ytbgkimkbngocjaa.Ax
open Go
theorem bsl_zi (id:Nat) (H:Hp):bsl id 1 0 [.int .i64 0] [] H=some (sl id 0 0,H.set id (some (.row [] 1 true))):=bsl_zn id _ 1 H rfl
theorem bsl_zs (id:Nat) (H:Hp):bsl id 1 0 [.string ⟨#[]⟩] [] H=some (sl id 0 0,H.set id (some (.row [] 1 true))):=bsl_zn id _ 1 H rfl
theorem DC.how {c il idd n:Nat} {H:Hp} {v ul ud:Value} {s:CS} (h:DC c il idd n H v ul ud s) (x:Int) (hx:0≤x∧x≤3) {n':Nat} {H':Hp} (hn:n≤n') (hc:H' c=some (.row [v,ul,ud,.int .i64 x] 0 true)) (hi:H' il=H il) (hd:H' idd=H idd):DC c il idd n' H' v ul ud ⟨x,s.L,s.D⟩ :=
 ⟨h.cc.how x hx hn hc hi,h.ad.mv hd,by have:=h.dn; omega,h.nc,h.ni⟩
theorem k51 {v:Value} {p:List Nd} (hp:PoolOk p) {E:CEx} (hg:∀ v e,Goes (E v e)) (hE:∀ y:Int,0≤y→y < (p.length:Int)→XR 124 v p E y) {c il idd n:Nat} {H:Hp} {ul ud:Value} {s:CS} (h:DC c il idd n H v ul ud s) (hh:s.how=0) (hv:LO eNode c il n H v p) (hvd:Off idd v) (x:Int) (h0:0≤x) (h1:x < (p.length:Int)) (hD:s.D.length≤1048576):RtM3 Try.prog 51 [ptr c 0,.int .i64 x] c il idd H n (.tuple ⟨[]⟩) (fun H' n'=>NextW3 c il idd n n' H' v (cTop E p x s)):=by
 apply RtM3.of
 rw [c51]; unfold S51
 rw [show (⟨#[109,97,105,110]⟩:ByteArray)=wMain from rfl,show (⟨#[100,101,102,105,110,101]⟩:ByteArray)=wDefine from rfl]
 have hcc:=h.cc
 have hdn:=h.dn
 have hnc:=h.nc
 have hni:=h.ni
 have hcn:=hcc.cn
 have hil:=hcc.iln
 have hne:=hcc.ne
 have hc:=hcc.hc
 have hpl:=hp.2
 have hs0:s=⟨0,s.L,s.D⟩:=by cases s; simp only at hh; subst hh; rfl
 have nodef:¬ ((gi p x).k=5∧(Zv p x).2=true∧(gi p (gi (Zv p x).1 0)).k=4∧(gi p (gi (Zv p x).1 0)).s=wDefine)→cTop E p x s=cDefine E wMain [] [x] s:=fun hn=>by
  unfold cTop isDefine; rw [decide_eq_false hn]; rfl
 have isdef:((gi p x).k=5∧(Zv p x).2=true∧(gi p (gi (Zv p x).1 0)).k=4∧(gi p (gi (Zv p x).1 0)).s=wDefine)→cTop E p x s=cDefn E p (Zv p x).1 s:=fun hn=>by
  unfold cTop isDefine; rw [decide_eq_true hn]; rfl
 generalize cTop E p x s=F at *
 have main:∀ (m:Nat) (H0:Hp),n≤m→(∀ i,i < n→H0 i=H i)→F=cDefine E wMain [] [x] s→Wp ((bsl (m+1) 1 0 [.string ⟨#[]⟩] [] H0).bind fun p45=>(bsl (m+3) 1 1 [.int .i64 0] [(0,1,.int .i64 x)] p45.2).bind fun p46=>(Call Try.prog 95 [ptr c 0,.string wMain,p45.1,p46.1] p46.2 (m+5)).bind fun q47=>some (Value.tuple ⟨[]⟩,q47.2.1,q47.2.2)) (fun q=>n≤q.2.2∧(∀ i,i < n→i≠c→i≠il→i≠idd→q.2.1 i=H i)∧q.1=.tuple ⟨[]⟩∧NextW3 c il idd n q.2.2 q.2.1 v F):=by
  intro m H0 z1 z2 z3
  ((repeat(first|((with_reducible first|apply Wp.gs|apply Wp.cs|apply Zc|apply Zg|apply Zd|apply Zi|apply Zn|apply Wp.step);case h=>((try simp(disch:=omega)only[↓reduceIte,Za,↓X0,X1,Nat.reduceEqDiff,Int.reduceEq,Nat.reduceAdd,Nat.reduceSub,bsl_zs,bsl_i]);with_reducible first|done|exact rfl|exact bT|exact bF))|apply Zf|apply Zj|with_reducible apply Zk|simp only[↓X3]|simp(disch:=decide)only[Zx,Yc,Ya,Zy,Yb,Zz]|with_reducible apply Zb));try(with_reducible apply Zm;case h=>((try simp(disch:=omega)only[X1,Nat.reduceEqDiff,bsl_zs,bsl_i]);with_reducible exact rfl)))
  generalize hG:Hp.set _ (m+3) _=G
  have hk:∀ i,i < n→G i=H i:=fun i hi=>by rw [← hG]; simp (disch:=omega) only [Ze,z2]
  have hN:At eStr (m+1) G (sl (m+1) 0 0) []:=.inr ⟨rfl,by rw [← hG]; simp (disch:=omega) only [Ze,Zh]; rfl⟩
  have hR:At eInt (m+3) G (sl (m+3) 0 1) [x]:=.inr ⟨rfl,by rw [← hG]; exact Zh _ _ _⟩
  refine Wp.rtm3 (k95 hg (l:=[x]) (fun y hy=>by simp at hy; rw [hy]; exact hE x h0 h1) (h.mv (by omega) (hk c hcn) (hk il hil) (hk idd hdn)) (hv.mv (by omega) (fun i a _ _=>hk i a) (.inl rfl)) hvd (fun y hy=>by simp at hy; omega) (names:=[]) (by simp) (hN.lo (by omega) (by omega) (by omega)) (fun i o a k e=>(by cases e; omega)) (hR.lo (by omega) (by omega) (by omega)) (fun i o a k e=>(by cases e; omega)) (by simp) hD) ?_
  rintro H2 n2 q2 s2 ⟨a2,w2,ul2,il2,ud2,idd2,i2,j2,h2⟩
  rw [if_pos hh] at w2
  (repeat(first|((with_reducible first|apply Wp.gs|apply Wp.cs|apply Zc|apply Zg|apply Zd|apply Zi|apply Zn|apply Wp.step);case h=>((try simp(disch:=omega)only[↓reduceIte,Za,↓X0,X1,Nat.reduceEqDiff,Int.reduceEq,Nat.reduceAdd,Nat.reduceSub]);with_reducible first|done|exact rfl|exact bT|exact bF))|apply Zf|apply Zj|with_reducible apply Zk|simp only[↓X3]|simp(disch:=decide)only[Zx,Yc,Ya,Zy,Yb,Zz]|with_reducible apply Zb))
  refine Wp.pure ⟨by simp only; omega,fun i a b c d=>(s2 i (by omega) b c d).trans (hk i a),rfl,a2,?_,ul2,il2,ud2,idd2,by omega,by omega,h2.mv (by simp only; omega) rfl rfl rfl⟩
  rw [z3]; exact w2
 have bad:∀ (H0:Hp) (m:Nat),n≤m→(∀ i,i < n→H0 i=H i)→F=cFail 1 s→Wp (some (Value.tuple ⟨[]⟩,H0.set c (some (.row [v,ul,ud,.int .i64 1] 0 true)),m)) (fun q=>n≤q.2.2∧(∀ i,i < n→i≠c→i≠il→i≠idd→q.2.1 i=H i)∧q.1=.tuple ⟨[]⟩∧NextW3 c il idd n q.2.2 q.2.1 v F):=by
  intro H0 m z1 z2 z3
  have e2:cFail 1 s=⟨1,s.L,s.D⟩:=by unfold cFail; rw [if_pos hh]
  refine Wp.pure ⟨z1,fun i a b _ _=>(Ze _ _ b).trans (z2 i a),rfl,⟨1,s.L,s.D⟩,by rw [z3,e2]; exact Wk.refl _,ul,il,ud,idd,.inl rfl,.inl rfl,h.how 1 (by decide) z1 (Zh _ _ _) ((Ze _ _ hne).trans (z2 il hil)) ((Ze _ _ hnc).trans (z2 idd hdn))⟩
 have g:=(hv.li.mv (H':=H.set n (some (.row [] 1 true))) (Nat.le_refl _) (by intros;first|with_reducible rfl|simp(disch:=omega)only[Ze,Zh])).nAll (i:=x) h0 h1
 by_cases k5:(gi p x).k=5
 case neg =>
  (repeat(first|((with_reducible first|apply Wp.gs|apply Wp.cs|apply Zc|apply Zg|apply Zd|apply Zi|apply Zn|apply Wp.step);case h=>((try simp(disch:=omega)only[↓reduceIte,Za,↓X0,X1,Nat.reduceEqDiff,Int.reduceEq,Nat.reduceAdd,Nat.reduceSub,X2,Ze,Nat.reduceLeDiff,bsl_zi,hc,g,k5]);with_reducible first|done|exact rfl|exact bT|exact bF))|apply Zf|apply Zj|with_reducible apply Zk|simp only[↓X3]|simp(disch:=decide)only[Zx,Yc,Ya,Zy,Yb,Zz]|with_reducible apply Zb))
  exact main _ _ (by omega) (by intros;first|with_reducible rfl|simp(disch:=omega)only[Ze,Zh]) (nodef (fun h=>k5 h.1))
 have hpos:=chainOf_pos hp h0 h1 k5
 have hmm:=chainOf_mem hp h0 h1
 have hcl:=chainOf_len h0 h1
 ((repeat(first|((with_reducible first|apply Wp.gs|apply Wp.cs|apply Zc|apply Zg|apply Zd|apply Zi|apply Zn|apply Wp.step);case h=>((try simp(disch:=omega)only[↓reduceIte,Za,↓X0,X1,Nat.reduceEqDiff,Int.reduceEq,Nat.reduceAdd,Nat.reduceSub,X2,Ze,Nat.reduceLeDiff,bsl_zi,hc,g,k5]);with_reducible first|done|exact rfl|exact bT|exact bF))|apply Zf|apply Zj|with_reducible apply Zk|simp only[↓X3]|simp(disch:=decide)only[Zx,Yc,Ya,Zy,Yb,Zz]|with_reducible apply Zb));try(with_reducible apply Zm;case h=>((try simp(disch:=omega)only[X1,Nat.reduceEqDiff,bsl_zi,hc,g,k5]);with_reducible exact rfl)))
 refine Wp.rtn (k94 (hv.li.mv (by omega) (by intros;first|with_reducible rfl|simp(disch:=omega)only[Ze,Zh])) hp _ h0 h1) ?_
 rintro _ H2 n2 q2 s2 ⟨up,rfl,hup⟩
 have hk2:∀ i,i < n→H2 i=H i:=fun i hi=>(s2 i (by omega)).trans (Ze _ _ (by omega))
 have hc2:H2 c=some (.row [v,ul,ud,.int .i64 s.how] 0 true):=(hk2 c hcn).trans hc
 by_cases hch:(Zv p x).2=true
 case neg =>
  have hlo:listOf p x=([],false):=by unfold listOf; rw [if_neg hch]
  (repeat(first|((with_reducible first|apply Wp.gs|apply Wp.cs|apply Zc|apply Zg|apply Zd|apply Zi|apply Zn|apply Wp.step);case h=>((try simp(disch:=omega)only[↓reduceIte,Za,↓X0,X1,Nat.reduceEqDiff,Int.reduceEq,Nat.reduceAdd,Nat.reduceSub,X2,Ze,Nat.reduceLeDiff,hlo]);with_reducible first|done|exact rfl|exact bT|exact bF))|apply Zf|apply Zj|with_reducible apply Zk|simp only[↓X3]|simp(disch:=decide)only[Zx,Yc,Ya,Zy,Yb,Zz]|with_reducible apply Zb))
  exact main _ _ (by omega) hk2 (nodef (fun h=>hch h.2.1))
 have hlo:listOf p x=((Zv p x).1,true):=by unfold listOf; rw [if_pos hch]
 rw [hlo] at hup
 simp only at hup
 obtain ⟨idp,p1,p2,p3⟩:=hup
 generalize hL:(Zv p x).1=L at *
 have m0:=gi_mem (l:=L) (i:=0) (by omega) (by omega)
 have r0:=hmm _ m0
 have gl:=(p3.lst (n:=n2) p2).iAll (i:=0) (by omega) (by omega)
 have hv2:Li eNode n H2 v p:=hv.li.mv (Nat.le_refl _) hk2
 have g0:=hv2.nAll (i:=gi L 0) r0.1 (by omega)
 have hlu:lenV false up=some (.int .i64 L.length):=(p3.lst (n:=n2) p2).len
 by_cases k4:(gi p (gi L 0)).k=4
 case neg =>
  (repeat(first|((with_reducible first|apply Wp.gs|apply Wp.cs|apply Zc|apply Zg|apply Zd|apply Zi|apply Zn|apply Wp.step);case h=>((try simp(disch:=omega)only[↓reduceIte,Za,↓X0,X1,Nat.reduceEqDiff,Int.reduceEq,Nat.reduceAdd,Nat.reduceSub,X2,Ze,Nat.reduceLeDiff,hlo,hc2,gl,g0,k4]);with_reducible first|done|exact rfl|exact bT|exact bF))|apply Zf|apply Zj|with_reducible apply Zk|simp only[↓X3]|simp(disch:=decide)only[Zx,Yc,Ya,Zy,Yb,Zz]|with_reducible apply Zb))
  exact main _ _ (by omega) hk2 (nodef (fun h=>k4 h.2.2.1))
 by_cases hd:(gi p (gi L 0)).s=wDefine
 case neg =>
  (repeat(first|((with_reducible first|apply Wp.gs|apply Wp.cs|apply Zc|apply Zg|apply Zd|apply Zi|apply Zn|apply Wp.step);case h=>((try simp(disch:=omega)only[↓reduceIte,Za,↓X0,X1,Nat.reduceEqDiff,Int.reduceEq,Nat.reduceAdd,Nat.reduceSub,X2,Ze,Nat.reduceLeDiff,hlo,hc2,gl,g0,k4,hd]);with_reducible first|done|exact rfl|exact bT|exact bF))|apply Zf|apply Zj|with_reducible apply Zk|simp only[↓X3]|simp(disch:=decide)only[Zx,Yc,Ya,Zy,Yb,Zz]|with_reducible apply Zb))
  exact main _ _ (by omega) hk2 (nodef (fun h=>hd h.2.2.2))
 have hF:=isdef ⟨k5,hch,k4,hd⟩
 unfold cDefn at hF
 clear main nodef isdef
 by_cases h3:(L.length:Int) < 3
 ·have hst:=hcc.st 1 (H':=H2) (hk2 c hcn)
  (repeat(first|((with_reducible first|apply Wp.gs|apply Wp.cs|apply Zc|apply Zg|apply Zd|apply Zi|apply Zn|apply Wp.step);case h=>((try simp(disch:=omega)only[↓reduceIte,Za,↓X0,X1,Nat.reduceEqDiff,Int.reduceEq,Nat.reduceAdd,Nat.reduceSub,X2,Ze,Nat.reduceLeDiff,hlo,hc2,gl,g0,k4,hd,eq_self.{1},hlu,h3,hst]);with_reducible first|done|exact rfl|exact bT|exact bF))|apply Zf|apply Zj|with_reducible apply Zk|simp only[↓X3]|simp(disch:=decide)only[Zx,Yc,Ya,Zy,Yb,Zz]|with_reducible apply Zb))
  exact bad _ _ (by omega) hk2 (by rw [hF,if_neg (by omega)])
 have m1:=gi_mem (l:=L) (i:=1) (by omega) (by omega)
 have r1:=hmm _ m1
 have gl1:=(p3.lst (n:=n2) p2).iAll (i:=1) (by omega) (by omega)
 have g1:=hv2.nAll (i:=gi L 1) r1.1 (by omega)
 by_cases k51:(gi p (gi L 1)).k=5
 case neg =>
  have hst:=hcc.st 1 (H':=H2) (hk2 c hcn)
  (repeat(first|((with_reducible first|apply Wp.gs|apply Wp.cs|apply Zc|apply Zg|apply Zd|apply Zi|apply Zn|apply Wp.step);case h=>((try simp(disch:=omega)only[↓reduceIte,Za,↓X0,X1,Nat.reduceEqDiff,Int.reduceEq,Nat.reduceAdd,Nat.reduceSub,X2,Ze,Nat.reduceLeDiff,hlo,hc2,gl,g0,k4,hd,eq_self.{1},hlu,h3,gl1,g1,k51,hst]);with_reducible first|done|exact rfl|exact bT|exact bF))|apply Zf|apply Zj|with_reducible apply Zk|simp only[↓X3]|simp(disch:=decide)only[Zx,Yc,Ya,Zy,Yb,Zz]|with_reducible apply Zb))
  exact bad _ _ (by omega) hk2 (by rw [hF,if_neg]; rintro ⟨_,h,_⟩; exact k51 h)
 ((repeat(first|((with_reducible first|apply Wp.gs|apply Wp.cs|apply Zc|apply Zg|apply Zd|apply Zi|apply Zn|apply Wp.step);case h=>((try simp(disch:=omega)only[↓reduceIte,Za,↓X0,X1,Nat.reduceEqDiff,Int.reduceEq,Nat.reduceAdd,Nat.reduceSub,X2,Ze,Nat.reduceLeDiff,hlo,hc2,gl,g0,k4,hd,eq_self.{1},hlu,h3,gl1,g1,k51]);with_reducible first|done|exact rfl|exact bT|exact bF))|apply Zf|apply Zj|with_reducible apply Zk|simp only[↓X3]|simp(disch:=decide)only[Zx,Yc,Ya,Zy,Yb,Zz]|with_reducible apply Zb));try(with_reducible apply Zm;case h=>((try simp(disch:=omega)only[X1,Nat.reduceEqDiff,hlo,hc2,gl,g0,k4,hd,eq_self.{1},hlu,h3,gl1,g1,k51]);with_reducible exact rfl)))
 refine Wp.rtn (k94 (hv2.mv (by omega) (by intros;first|with_reducible rfl|simp(disch:=omega)only[Ze,Zh])) hp _ r1.1 (by omega)) ?_
 rintro _ H3 n3 q3 s3 ⟨uq,rfl,huq⟩
 have hk3:∀ i,i < n→H3 i=H i:=fun i hi=>(s3 i (by omega)).trans (hk2 i hi)
 have hc3:H3 c=some (.row [v,ul,ud,.int .i64 s.how] 0 true):=(hk3 c hcn).trans hc
 by_cases hch1:(Zv p (gi L 1)).2=true
 case neg =>
  have hlo1:listOf p (gi L 1)=([],false):=by unfold listOf; rw [if_neg hch1]
  have hst:=hcc.st 1 (H':=H3) (hk3 c hcn)
  (repeat(first|((with_reducible first|apply Wp.gs|apply Wp.cs|apply Zc|apply Zg|apply Zd|apply Zi|apply Zn|apply Wp.step);case h=>((try simp(disch:=omega)only[↓reduceIte,Za,↓X0,X1,Nat.reduceEqDiff,Int.reduceEq,Nat.reduceAdd,Nat.reduceSub,X2,Ze,Nat.reduceLeDiff,hlo1,hst]);with_reducible first|done|exact rfl|exact bT|exact bF))|apply Zf|apply Zj|with_reducible apply Zk|simp only[↓X3]|simp(disch:=decide)only[Zx,Yc,Ya,Zy,Yb,Zz]|with_reducible apply Zb))
  exact bad _ _ (by omega) hk3 (by rw [hF,if_neg]; rintro ⟨_,_,h⟩; exact hch1 h)
 have hlo1:listOf p (gi L 1)=((Zv p (gi L 1)).1,true):=by unfold listOf; rw [if_pos hch1]
 rw [hlo1] at huq
 simp only at huq
 rw [if_pos ⟨by omega,k51,hch1⟩] at hF
 have hpos1:=chainOf_pos hp r1.1 (by omega) k51
 have hmm1:=chainOf_mem hp r1.1 (by omega)
 have hcl1:=chainOf_len r1.1 (show gi L 1 < (p.length:Int) by omega)
 obtain ⟨idq,t1,t2,t3⟩:=huq
 generalize hQ:(Zv p (gi L 1)).1=Q at *
 have mq:=gi_mem (l:=Q) (i:=0) (by omega) (by omega)
 have rq:=hmm1 _ mq
 have gq:=(t3.lst (n:=n3) t2).iAll (i:=0) (by omega) (by omega)
 ((repeat(first|((with_reducible first|apply Wp.gs|apply Wp.cs|apply Zc|apply Zg|apply Zd|apply Zi|apply Zn|apply Wp.step);case h=>((try simp(disch:=omega)only[↓reduceIte,Za,↓X0,X1,Nat.reduceEqDiff,Int.reduceEq,Nat.reduceAdd,Nat.reduceSub,X2,Ze,Nat.reduceLeDiff,hlo1,gq]);with_reducible first|done|exact rfl|exact bT|exact bF))|apply Zf|apply Zj|with_reducible apply Zk|simp only[↓X3]|simp(disch:=decide)only[Zx,Yc,Ya,Zy,Yb,Zz]|with_reducible apply Zb));try(with_reducible apply Zm;case h=>((try simp(disch:=omega)only[X1,Nat.reduceEqDiff,hlo1,gq]);with_reducible exact rfl)))
 refine Wp.rt (k96 (hv2.mv (by omega) (fun i hi=>s3 i (by omega))) hc3 (by omega) _ rq.1 (by omega)) ?_
 intro H4 n4 q4 s4
 have hk4:∀ i,i < n→H4 i=H i:=fun i hi=>(s4 i (by omega)).trans (hk3 i hi)
 cases hiv:isVar (gi p (gi Q 0)) with
 | false =>
  have hst:=hcc.st 1 (H':=H4) (hk4 c hcn)
  (repeat(first|((with_reducible first|apply Wp.gs|apply Wp.cs|apply Zc|apply Zg|apply Zd|apply Zi|apply Zn|apply Wp.step);case h=>((try simp(disch:=omega)only[↓reduceIte,Za,↓X0,X1,Nat.reduceEqDiff,Int.reduceEq,Nat.reduceAdd,Nat.reduceSub,X2,Ze,Nat.reduceLeDiff,hst]);with_reducible first|done|exact rfl|exact bT|exact bF))|apply Zf|apply Zj|with_reducible apply Zk|simp only[↓X3]|simp(disch:=decide)only[Zx,Yc,Ya,Zy,Yb,Zz]|with_reducible apply Zb))
  exact bad _ _ (by omega) hk4 (by rw [hF,if_neg (by rw [hiv]; decide)])
 | true =>
  rw [if_pos hiv] at hF
  have t3':At eInt idq H4 uq Q:=t3.mv (s4 idq (by omega))
  have p3':At eInt idp H4 up L:=p3.mv (by rw [s4 idp (by omega),s3 idp (by omega)])
  obtain ⟨w1,hs1,hw1⟩:=(t3'.lo (c:=c) (il:=il) (n:=n4) (by omega) (by omega) (by omega)).tail (by decide) 1 (by omega)
  have hs1':sliceV 1 uq (some (.int .i64 1)) none=some w1:=hs1
  have hLO:=p3'.lo (c:=c) (il:=il) (n:=n4) (by omega) (by omega) (by omega)
  have hLd:Off idd up:=fun i o a k e=>by rcases p3 with ⟨h,_⟩ | ⟨h,_⟩ <;> rw [h] at e <;> cases e; omega
  obtain ⟨w2,hs2,hw2⟩:=hLO.tail (by decide) 2 (by omega)
  have hs2':sliceV 1 up (some (.int .i64 2)) none=some w2:=hs2
  ((repeat(first|((with_reducible first|apply Wp.gs|apply Wp.cs|apply Zc|apply Zg|apply Zd|apply Zi|apply Zn|apply Wp.step);case h=>((try simp(disch:=omega)only[↓reduceIte,Za,↓X0,X1,Nat.reduceEqDiff,Int.reduceEq,Nat.reduceAdd,Nat.reduceSub,hs1']);with_reducible first|done|exact rfl|exact bT|exact bF))|apply Zf|apply Zj|with_reducible apply Zk|simp only[↓X3]|simp(disch:=decide)only[Zx,Yc,Ya,Zy,Yb,Zz]|with_reducible apply Zb));try(with_reducible apply Zm;case h=>((try simp(disch:=omega)only[X1,Nat.reduceEqDiff,hs1']);with_reducible exact rfl)))
  refine Wp.rta (k97 (l:=Q.drop 1) (hcc.mv (by omega) (hk4 c hcn) (hk4 il hil)) hh (hv.mv (by omega) (fun i a _ _=>hk4 i a) (.inl rfl)) (hw1.mv (by omega) (fun _ _ _ _=>rfl) (.inl rfl)) (fun x hx=>by have:=hmm1 x (List.mem_of_mem_drop hx); omega) (by rw [List.length_drop]; omega)) ?_
  rintro un H5 n5 q5 s5 ⟨ns,hun,hnl,hnn,h5⟩
  have hk5:Kept c il n H H5:=fun i a b c=>(s5 i (by omega) b c).trans (hk4 i a)
  have hDC5:DC c il idd n5 H5 v ul ud ⟨(cNames p (Q.drop 1)).2,s.L,s.D⟩:=⟨h5,h.ad.mv (by rw [s5 idd (by omega) hnc hni]; exact hk4 idd hdn),by omega,hnc,hni⟩
  ((repeat(first|((with_reducible first|apply Wp.gs|apply Wp.cs|apply Zc|apply Zg|apply Zd|apply Zi|apply Zn|apply Wp.step);case h=>((try simp(disch:=omega)only[↓reduceIte,Za,↓X0,X1,Nat.reduceEqDiff,Int.reduceEq,Nat.reduceAdd,Nat.reduceSub,hs2']);with_reducible first|done|exact rfl|exact bT|exact bF))|apply Zf|apply Zj|with_reducible apply Zk|simp only[↓X3]|simp(disch:=decide)only[Zx,Yc,Ya,Zy,Yb,Zz]|with_reducible apply Zb));try(with_reducible apply Zm;case h=>((try simp(disch:=omega)only[X1,Nat.reduceEqDiff,hs2']);with_reducible exact rfl)))
  refine Wp.rtm3 (k95 hg (l:=L.drop 2) (fun y hy=>hE y (hmm y (List.mem_of_mem_drop hy)).1 (by have:=hmm y (List.mem_of_mem_drop hy); omega)) (hDC5.mv (by omega) rfl rfl rfl) (hv.mv (by omega) hk5 (.inl rfl)) hvd (fun y hy=>by have:=hmm y (List.mem_of_mem_drop hy); omega) hnl ((hun.lo (by omega) (by omega)).mv (by omega) (fun _ _ _ _=>rfl) (.inl rfl)) (LO.off (c:=c) (il:=il) hun (by omega)) (hw2.mv (by omega) (fun i a b c=>s5 i (by omega) b c) (.inl rfl)) (sliceV_off hs2 hLd) (by rw [List.length_drop]; omega) hD) ?_
  rintro H6 n6 q6 s6 ⟨a6,w6,ul6,il6,ud6,idd6,i6,j6,h6⟩
  (repeat(first|((with_reducible first|apply Wp.gs|apply Wp.cs|apply Zc|apply Zg|apply Zd|apply Zi|apply Zn|apply Wp.step);case h=>((try simp(disch:=omega)only[↓reduceIte,Za,↓X0,X1,Nat.reduceEqDiff,Int.reduceEq,Nat.reduceAdd,Nat.reduceSub]);with_reducible first|done|exact rfl|exact bT|exact bF))|apply Zf|apply Zj|with_reducible apply Zk|simp only[↓X3]|simp(disch:=decide)only[Zx,Yc,Ya,Zy,Yb,Zz]|with_reducible apply Zb))
  refine Wp.pure ⟨by simp only; omega,fun i a b c d=>(s6 i (by omega) b c d).trans (hk5 i a b c),rfl,a6,?_,ul6,il6,ud6,idd6,by omega,by omega,h6.mv (by simp only; omega) rfl rfl rfl⟩
  rw [hF]
  by_cases hn0:(cNames p (Q.drop 1)).2=0
  ·rw [if_pos hn0] at w6 ⊢
   rw [hn0,← hs0] at w6
   rw [← hnn hn0]; exact w6
  ·rw [if_neg hn0] at w6 ⊢
   have e2:cFail (cNames p (Q.drop 1)).2 s=⟨(cNames p (Q.drop 1)).2,s.L,s.D⟩:=by unfold cFail; rw [if_pos hh]
   rw [e2]; exact w6
end Go.Proofs.Ytbgkimkbngocjaa.Ax
set_option linter.unusedVariables false
set_option linter.unusedSimpArgs false
set_option maxHeartbeats 8000000
namespace Go.Proofs.Ytbgkimkbngocjaa.Ax
open Go
theorem cAll_small {p:List Nd} (hp:PoolOk p):∀ (l:List Int) (j:Nat) (s:CS),inPool p l→Small s→Small (cAll p l j s).1
 | [],j,s,_,hs=>hs
 | v :: l,j,s,hr,hs=>by
  have h1:=Keeps.top hp (hr v List.mem_cons_self).1 (hr v List.mem_cons_self).2 p.length s hs
  rw [cAll]
  split
  ·exact cAll_small hp l (j+1) _ (fun y hy=>hr y (List.mem_cons_of_mem _ hy)) h1
  ·exact h1
theorem cAll_D (p:List Nd):∀ (l:List Int) (j:Nat) (s:CS),(cAll p l j s).1.D.length≤s.D.length+l.length
 | [],j,s=>by simp [cAll]
 | v :: l,j,s=>by
  have h1:=cTop_D (Goes.expr p p.length) p v s
  rw [cAll,List.length_cons]
  split
  ·have:=cAll_D p l (j+1) (cTop (cExpr p p.length) p v s); omega
  ·simp only; omega
end Go.Proofs.Ytbgkimkbngocjaa.Ax
set_option linter.unusedVariables false
set_option linter.unusedSimpArgs false
set_option maxHeartbeats 8000000
namespace Go.Proofs.Ytbgkimkbngocjaa.Ax
open Go
theorem l110 {v:Value} {p:List Nd} (hp:PoolOk p) {l:List Int} (hr:inPool p l) (hl:l.length≤1048576) {c il0 idd0 b n0:Nat} {H0:Hp} {w:Value} (hD0:DC c il0 idd0 n0 H0 v nilS nilS ⟨0,[],[]⟩) (hv:LO eNode c il0 n0 H0 v p) (hvd:Off idd0 v) (hw:LO eInt c il0 n0 H0 w l) (hwd:Off idd0 w) (hb:b < n0) (hbc:b≠c) (hbi:b≠il0) (hbd:b≠idd0):∀ t n1,n0≤n1→t 4=ptr b 0→t 8=ptr c 0→t 9=.int .i64 0→t 1=w→H0 b=some (.row [nilS,nilS,nilS] 0 true) →
  Wp (Yf (S10L1 (Call Try.prog) Yf) t H0 n1) (fun o=>n0≤o.n∧(∀ i,i < n0→i≠c→i≠il0→i≠idd0→i≠b→o.H i=H0 i)∧o.H b=some (.row [nilS,nilS,nilS] 0 true)∧o.t 4=ptr b 0∧((o.e=.exit 2∧o.t 1=w∧o.t 8=ptr c 0∧(cAll p l 0 ⟨0,[],[]⟩).1.how=0∧∃ ul il ud idd,(il=il0∨n0≤il)∧(idd=idd0∨n0≤idd)∧DC c il idd o.n o.H v ul ud (cAll p l 0 ⟨0,[],[]⟩).1)∨(o.e=.ret∧(cAll p l 0 ⟨0,[],[]⟩).1.how≠0∧o.t 5=.int .i64 (cAll p l 0 ⟨0,[],[]⟩).1.how∧o.t 6=.int .i64 (if (cAll p l 0 ⟨0,[],[]⟩).1.how=3 then 0 else (cAll p l 0 ⟨0,[],[]⟩).2)))):=by
 intro t n1 hn1 e4 e8 e9 e1 hb0
 have hcn0:=hD0.cc.cn
 have hil0:=hD0.cc.iln
 have hdn0:=hD0.dn
 refine Loop_rule (fun d T H' n'=>∃ (j:Nat) (ul:Value) (il:Nat) (ud:Value) (idd:Nat) (s:CS),j+d=l.length∧n0≤n'∧(∀ i,i < n0→i≠c→i≠il0→i≠idd0→H' i=H0 i)∧(il=il0∨n0≤il)∧(idd=idd0∨n0≤idd)∧DC c il idd n' H' v ul ud s∧s.how=0∧s.D.length≤j∧cAll p l 0 ⟨0,[],[]⟩=cAll p (l.drop j) j s∧T 1=w∧T 4=ptr b 0∧T 8=ptr c 0∧T 9=.int .i64 j) _ ?_ l.length t H0 n1 ⟨0,nilS,il0,nilS,idd0,⟨0,[],[]⟩,by omega,by omega,fun _ _ _ _ _=>rfl,.inl rfl,.inl rfl,hD0.mv (by omega) rfl rfl rfl,rfl,by simp,by simp,e1,e4,e8,e9⟩
 rintro d T H' n' ⟨j,ul,il,ud,idd,s,hj,hn,s1,hil,hidd,hDC,h0,hDl,hall,e1,e4,e8,e9⟩
 unfold S10L1
 have hbH:H' b=some (.row [nilS,nilS,nilS] 0 true):=by rw [s1 b hb hbc hbi hbd]; exact hb0
 have hkeep:∀ {α:Type} {E:Enc α} {w:Value} {l:List α},LO E c il0 n0 H0 w l→Off idd0 w→LO E c il n' H' w l∧Off idd w:=by
  intro α E w l hL hO
  refine ⟨⟨(hL.li.keep' fun i o a k e=>s1 i (hL.li.2 i o a k e) (hL.oc i o a k e) (hL.oi i o a k e) (hO i o a k e)).up hn,hL.oc,?_⟩,?_⟩
  ·rcases hil with rfl | h
   ·exact hL.oi
   ·exact hL.li.off h
  ·rcases hidd with rfl | h
   ·exact hO
   ·exact hL.li.off h
 obtain ⟨hw',hwd'⟩:=hkeep hw hwd
 obtain ⟨hv',hvd'⟩:=hkeep hv hvd
 have hcn:=hDC.cc.cn
 have hiln:=hDC.cc.iln
 have hdn:=hDC.dn
 have hlen:=hw'.li.len
 by_cases hlt:(j:Int) < l.length
 ·have hlt':j < l.length:=by omega
  have g:=hw'.li.iAll (i:=(j:Int)) (by omega) hlt
  have hmem:=gi_mem (l:=l) (i:=(j:Int)) (by omega) hlt
  have hrj:=hr _ hmem
  have hws:=wj (j:=j) (len:=l.length) hlt' (by omega)
  have hdr:l.drop j=gi l (j:Int) :: l.drop (j+1):=by rw [gi_nat hlt']; exact List.drop_eq_getElem_cons hlt'
  rw [hdr,cAll] at hall
  ((repeat(first|((with_reducible first|apply Wp.gs|apply Wp.cs|apply Zc|apply Zg|apply Zd|apply Zi|apply Zn|apply Wp.step);case h=>((try simp(disch:=omega)only[↓reduceIte,Za,↓X0,X1,Nat.reduceEqDiff,Int.reduceEq,Nat.reduceAdd,Nat.reduceSub,e1,e8,e9,hlen,hlt,g]);with_reducible first|done|exact rfl|exact bT|exact bF))|apply Zf|apply Zj|with_reducible apply Zk|simp only[↓X3]|with_reducible apply Zb));try(with_reducible apply Zm;case h=>((try simp(disch:=omega)only[X1,Nat.reduceEqDiff,e1,e8,e9,hlen,hlt,g]);with_reducible exact rfl)))
  refine Wp.rtm3 (k51 hp (Goes.expr p p.length) (fun y y0 y1=>k124 hp p.length y y0 y1 y1) (hDC.mv (by omega) rfl rfl rfl) h0 (hv'.mv (by omega) (fun _ _ _ _=>rfl) (.inl rfl)) hvd' _ hrj.1 hrj.2 (by omega)) ?_
  rintro H2 n2 q2 s2 ⟨A,wA,ul2,il2,ud2,idd2,i2,j2,h2⟩
  have hDt:=cTop_D (Goes.expr p p.length) p (gi l (j:Int)) s
  generalize hS:cTop (cExpr p p.length) p (gi l (j:Int)) s=S at *
  have hc2:=h2.cc.hc
  have hr2:=h2.cc.hr
  rw [wA.1] at hc2 hr2
  have hb2:H2 b=some (.row [nilS,nilS,nilS] 0 true):=by rw [s2 b (by omega) hbc (by omega) (by omega)]; exact hbH
  have hk2:∀ i,i < n0→i≠c→i≠il0→i≠idd0→H2 i=H0 i:=fun i a b c d=>by rw [s2 i (by omega) b (by omega) (by omega)]; exact s1 i a b c d
  by_cases hS0:S.how=0
  ·rw [if_pos hS0] at hall
   have hA:=wA.2 hS0
   subst hA
   (repeat(first|((with_reducible first|apply Wp.gs|apply Wp.cs|apply Zc|apply Zg|apply Zd|apply Zi|apply Zn|apply Wp.step);case h=>((try simp(disch:=omega)only[↓reduceIte,Za,↓X0,X1,Nat.reduceEqDiff,Int.reduceEq,Nat.reduceAdd,Nat.reduceSub,X2,Ze,Nat.reduceLeDiff,e1,e4,e8,e9,hc2,hS0,show ¬ (0:Int)=3 by decide,hws]);with_reducible first|done|exact rfl|exact bT|exact bF))|apply Zf|apply Zj|with_reducible apply Zk|simp only[↓X3]|with_reducible apply Zb))
   exact Wp.pure (Nxt.go (d - 1) (by omega) ⟨j+1,ul2,il2,ud2,idd2,A,by omega,by omega,hk2,by omega,by omega,h2.mv (by omega) rfl rfl rfl,hS0,by omega,hall,by simp [Zl,e1],by simp [Zl,e4],by simp [Zl,e8],by simp [Zl]⟩)
  ·rw [if_neg hS0] at hall
   have hst:st true 3 (ptr b 0) (.agg ⟨[nilS,nilS,nilS]⟩) H2=some (H2.set b (some (.row [nilS,nilS,nilS] 0 true))):=by
    rw [st_agg,stv_box hb2]; rfl
   have hfr:∀ i,i < n0→i≠c→i≠il0→i≠idd0→i≠b→(H2.set b (some (.row [nilS,nilS,nilS] 0 true))) i=H0 i:=fun i a b c d e=>by rw [Ze _ _ e]; exact hk2 i a b c d
   have hcb:(H2.set b (some (.row [nilS,nilS,nilS] 0 true))) c=some (.row [v,ul2,ud2,.int .i64 S.how] 0 true):=(Ze _ _ (Ne.symm hbc)).trans hc2
   by_cases hS3:S.how=3
   ·(repeat(first|((with_reducible first|apply Wp.gs|apply Wp.cs|apply Zc|apply Zg|apply Zd|apply Zi|apply Zn|apply Wp.step);case h=>((try simp(disch:=omega)only[↓reduceIte,Za,↓X0,X1,Nat.reduceEqDiff,Int.reduceEq,Nat.reduceAdd,Nat.reduceSub,X2,Ze,Nat.reduceLeDiff,e1,e4,e8,e9,hc2,hS3,bld_3n,hst]);with_reducible first|done|exact rfl|exact bT|exact bF))|apply Zf|apply Zj|with_reducible apply Zk|simp only[↓X3]|with_reducible apply Zb))
    exact Wp.pure (Nxt.ret ⟨by simp only; omega,hfr,Zh _ _ _,by simp [Zl,e4],.inr ⟨rfl,by rw [hall]; exact hS0,by rw [hall]; simp [Zl,hS3],by rw [hall]; simp [Zl,hS3]⟩⟩)
   ·(repeat(first|((with_reducible first|apply Wp.gs|apply Wp.cs|apply Zc|apply Zg|apply Zd|apply Zi|apply Zn|apply Wp.step);case h=>((try simp(disch:=omega)only[↓reduceIte,Za,↓X0,X1,Nat.reduceEqDiff,Int.reduceEq,Nat.reduceAdd,Nat.reduceSub,X2,Ze,Nat.reduceLeDiff,e1,e4,e8,e9,hc2,hS0,hS3,bld_3n,hst,hcb]);with_reducible first|done|exact rfl|exact bT|exact bF))|apply Zf|apply Zj|with_reducible apply Zk|simp only[↓X3]|with_reducible apply Zb))
    exact Wp.pure (Nxt.ret ⟨by simp only; omega,hfr,Zh _ _ _,by simp [Zl,e4],.inr ⟨rfl,by rw [hall]; exact hS0,by rw [hall]; simp [Zl],by rw [hall]; simp [Zl,hS3,e9]⟩⟩)
 ·((repeat(first|((with_reducible first|apply Wp.gs|apply Wp.cs|apply Zc|apply Zg|apply Zd|apply Zi|apply Zn|apply Wp.step);case h=>((try simp(disch:=omega)only[↓reduceIte,Za,↓X0,X1,Nat.reduceEqDiff,Int.reduceEq,Nat.reduceAdd,Nat.reduceSub,e1,e9,hlen,hlt]);with_reducible first|done|exact rfl|exact bT|exact bF))|apply Zf|apply Zj|with_reducible apply Zk|simp only[↓X3]|with_reducible apply Zb));try(with_reducible apply Zm;case h=>((try simp(disch:=omega)only[X1,Nat.reduceEqDiff,e1,e9,hlen,hlt]);with_reducible exact rfl)))
  rw [List.drop_eq_nil_of_le (by omega),cAll] at hall
  exact Wp.pure (Nxt.exit ⟨by simp only; omega,fun i a b c d _=>s1 i a b c d,hbH,by simp [Zl,e4],.inl ⟨rfl,by simp [Zl,e1],by simp [Zl,e8],by rw [hall]; exact h0,ul,il,ud,idd,hil,hidd,by rw [hall]; exact hDC.mv (by simp only; omega) rfl rfl rfl⟩⟩)
theorem bld_41 (u:Value):bld [nilS,nilS,nilS,.int .i64 0] [(0,1,.agg ⟨[u]⟩)]=some (.agg ⟨[u,nilS,nilS,.int .i64 0]⟩):=rfl
theorem k10 {n:Nat} {H:Hp} {v w:Value} {p:List Nd} {l:List Int} (hv:Li eNode n H v p) (hs:∀ x∈p,x.s.size≤1048576) (hpl:p.length≤1048576) (hw:Li eInt n H w l) (hl:l.length≤1048576):RtN Try.prog 10 [.agg ⟨[v]⟩,w] H n (fun r H' n'=>CompRes n n' H' r (compAns p l)):=by
 apply RtN.mk
 rw [c10]; unfold S10
 ((repeat(first|((with_reducible first|apply Wp.gs|apply Wp.cs|apply Zc|apply Zg|apply Zd|apply Zi|apply Zn|apply Wp.step);case h=>((try simp(disch:=omega)only[↓reduceIte,Za,↓X0,X1,Nat.reduceEqDiff,Int.reduceEq,Nat.reduceAdd,Nat.reduceSub,X2,Ze,Nat.reduceLeDiff]);with_reducible first|done|exact rfl|exact bT|exact bF))|apply Zf|apply Zj|with_reducible apply Zk|simp only[↓X3]|with_reducible apply Zb));try(with_reducible apply Zm;case h=>((try simp(disch:=omega)only[X1,Nat.reduceEqDiff]);with_reducible exact rfl)))
 refine Wp.rt (k48 (hv.mv (by omega) (by intros;first|with_reducible rfl|simp(disch:=omega)only[Ze,Zh])) hs hpl) ?_
 intro H1 n1 q1 s1
 by_cases hp:PoolOk p
 case neg =>
  (repeat(first|((with_reducible first|apply Wp.gs|apply Wp.cs|apply Zc|apply Zg|apply Zd|apply Zi|apply Zn|apply Wp.step);case h=>((try simp(disch:=omega)only[↓reduceIte,Za,↓X0,X1,Nat.reduceEqDiff,Int.reduceEq,Nat.reduceAdd,Nat.reduceSub,X2,Ze,Nat.reduceLeDiff,hp,s1,bld_3n,ldA_r,rowAgg_row]);with_reducible first|done|exact rfl|exact bT|exact bF))|apply Zf|apply Zj|with_reducible apply Zk|simp only[↓X3]|with_reducible apply Zb))
  exact Wp.pure ⟨by simp only; omega,(by intros;first|with_reducible rfl|simp(disch:=omega)only[Ze,Zh,s1]),by rw [compAns_bad (fun h=>hp h.1)]; exact CompRes.none (by simp only; omega) 3 0⟩
 have hp2:=hp.2
 ((repeat(first|((with_reducible first|apply Wp.gs|apply Wp.cs|apply Zc|apply Zg|apply Zd|apply Zi|apply Zn|apply Wp.step);case h=>((try simp(disch:=omega)only[↓reduceIte,Za,↓X0,X1,Nat.reduceEqDiff,Int.reduceEq,Nat.reduceAdd,Nat.reduceSub,X2,Ze,Nat.reduceLeDiff,hp,s1]);with_reducible first|done|exact rfl|exact bT|exact bF))|apply Zf|apply Zj|with_reducible apply Zk|simp only[↓X3]|with_reducible apply Zb));try(with_reducible apply Zm;case h=>((try simp(disch:=omega)only[X1,Nat.reduceEqDiff,hp,s1]);with_reducible exact rfl)))
 have hb1:H1 (n+1)=some (.row [nilS,nilS,nilS] 0 true):=by simp (disch:=omega) only [s1,Zh]
 have hp1:H1 n=some (.row [v] 0 true):=by simp (disch:=omega) only [s1,Ze,Zh]
 have hk1:∀ i,i < n→H1 i=H i:=(by intros;first|with_reducible rfl|simp(disch:=omega)only[Ze,Zh,s1])
 refine Wp.bind (Loop_rule (fun d T H' n'=>∃ j:Nat,j+d=l.length∧n1+1≤n'∧(∀ i,i < n1→H' i=H1 i)∧T 1=w∧T 2=ptr n 0∧T 4=ptr (n+1) 0∧T 7=.int .i64 j∧∀ y∈l.take j,0≤y∧y < (p.length:Int)) (fun o=>n1+1≤o.n∧o.t 4=ptr (n+1) 0∧((o.e=.exit 0∧(∀ i,i < n1→o.H i=H1 i)∧o.t 1=w∧o.t 2=ptr n 0∧inPool p l)∨(o.e=.ret∧(∀ i,i < n→o.H i=H i)∧o.H (n+1)=some (.row [nilS,nilS,nilS] 0 true)∧¬ inPool p l∧o.t 5=.int .i64 3∧o.t 6=.int .i64 0))) ?_ l.length _ _ _ ⟨0,by omega,by omega,fun _ _=>rfl,by simp [Zl,Zq],by simp [Zl],by simp [Zl],by simp [Zl],by simp⟩) ?_
 ·rintro d T H' n' ⟨j,hj,hn,t1,e1,e2,e4,e7,hin⟩
  unfold S10L0
  have hw':Li eInt n H' w l:=hw.mv (Nat.le_refl _) (fun i hi=>(t1 i (by omega)).trans (hk1 i hi))
  have hp':H' n=some (.row [v] 0 true):=(t1 n (by omega)).trans hp1
  have hb':H' (n+1)=some (.row [nilS,nilS,nilS] 0 true):=(t1 _ (by omega)).trans hb1
  have hlen:=hw'.len
  by_cases hlt:(j:Int) < l.length
  ·have hlt':j < l.length:=by omega
   have g:=hw'.iAll (i:=(j:Int)) (by omega) hlt
   have hws:=wj (j:=j) (len:=l.length) hlt' (by omega)
   ((repeat(first|((with_reducible first|apply Wp.gs|apply Wp.cs|apply Zc|apply Zg|apply Zd|apply Zi|apply Zn|apply Wp.step);case h=>((try simp(disch:=omega)only[↓reduceIte,Za,↓X0,X1,Nat.reduceEqDiff,Int.reduceEq,Nat.reduceAdd,Nat.reduceSub,X2,Ze,Nat.reduceLeDiff,e1,e2,e4,e7,hlen,hlt,hp',g]);with_reducible first|done|exact rfl|exact bT|exact bF))|apply Zf|apply Zj|with_reducible apply Zk|simp only[↓X3]|with_reducible apply Zb));try(with_reducible apply Zm;case h=>((try simp(disch:=omega)only[X1,Nat.reduceEqDiff,e1,e2,e4,e7,hlen,hlt,hp',g]);with_reducible exact rfl)))
   refine Wp.rt (k49 (hv.mv (by omega) (fun i hi=>(t1 i (by omega)).trans (hk1 i hi))) hpl _) ?_
   intro H2 n2 q2 t2
   have hb2:H2 (n+1)=some (.row [nilS,nilS,nilS] 0 true):=(t2 _ (by omega)).trans hb'
   by_cases hx:0≤gi l (j:Int)∧gi l (j:Int) < (p.length:Int)
   ·(repeat(first|((with_reducible first|apply Wp.gs|apply Wp.cs|apply Zc|apply Zg|apply Zd|apply Zi|apply Zn|apply Wp.step);case h=>((try simp(disch:=omega)only[↓reduceIte,Za,↓X0,X1,Nat.reduceEqDiff,Int.reduceEq,Nat.reduceAdd,Nat.reduceSub,X2,Ze,Nat.reduceLeDiff,hx.1,hx.2,e7,hws]);with_reducible first|done|exact rfl|exact bT|exact bF))|apply Zf|apply Zj|with_reducible apply Zk|simp only[↓X3]|with_reducible apply Zb))
    refine Wp.pure (Nxt.go (d - 1) (by omega) ⟨j+1,by omega,by omega,fun i hi=>(t2 i (by omega)).trans (t1 i hi),by simp [Zl,e1],by simp [Zl,e2],by simp [Zl,e4],by simp [Zl],fun y hy=>?_⟩)
    rcases mem_take_next hlt' hy with h | h
    ·exact hin y h
    ·rw [h]; exact hx
   ·have hst:st true 3 (ptr (n+1) 0) (.agg ⟨[nilS,nilS,nilS]⟩) H2=some (H2.set (n+1) (some (.row [nilS,nilS,nilS] 0 true))):=by
     rw [st_agg,stv_box hb2]; rfl
    (repeat(first|((with_reducible first|apply Wp.gs|apply Wp.cs|apply Zc|apply Zg|apply Zd|apply Zi|apply Zn|apply Wp.step);case h=>((try simp(disch:=omega)only[↓reduceIte,Za,↓X0,X1,Nat.reduceEqDiff,Int.reduceEq,Nat.reduceAdd,Nat.reduceSub,X2,Ze,Nat.reduceLeDiff,hx,bld_3n,e4,hst]);with_reducible first|done|exact rfl|exact bT|exact bF))|apply Zf|apply Zj|with_reducible apply Zk|simp only[↓X3]|with_reducible apply Zb))
    exact Wp.pure (Nxt.ret ⟨by simp only; omega,by simp [Zl,e4],.inr ⟨rfl,fun i hi=>by show (H2.set _ _) i=H i; rw [Ze _ _ (by omega),t2 i (by omega),t1 i (by omega)]; exact hk1 i hi,Zh _ _ _,fun h=>hx (h _ (gi_mem (by omega) hlt)),by simp [Zl],by simp [Zl]⟩⟩)
  ·((repeat(first|((with_reducible first|apply Wp.gs|apply Wp.cs|apply Zc|apply Zg|apply Zd|apply Zi|apply Zn|apply Wp.step);case h=>((try simp(disch:=omega)only[↓reduceIte,Za,↓X0,X1,Nat.reduceEqDiff,Int.reduceEq,Nat.reduceAdd,Nat.reduceSub,e1,e7,hlen,hlt]);with_reducible first|done|exact rfl|exact bT|exact bF))|apply Zf|apply Zj|with_reducible apply Zk|simp only[↓X3]|with_reducible apply Zb));try(with_reducible apply Zm;case h=>((try simp(disch:=omega)only[X1,Nat.reduceEqDiff,e1,e7,hlen,hlt]);with_reducible exact rfl)))
   rw [List.take_of_length_le (by omega)] at hin
   exact Wp.pure (Nxt.exit ⟨by simp only; omega,by simp [Zl,e4],.inl ⟨rfl,t1,by simp [Zl,e1],by simp [Zl,e2],hin⟩⟩)
 rintro ⟨oe,ot,oH,on⟩ ⟨f1,f4,f5⟩
 simp only at f1 f4 f5
 rcases f5 with ⟨rfl,f5,e1,e2,hr⟩ | ⟨rfl,f5,f6,hr,e5,e6⟩
 case inr =>
  simp(disch:=omega)only[↓reduceIte,Za,↓X0,X1,Nat.reduceEqDiff,Int.reduceEq,Nat.reduceAdd,Nat.reduceSub,f4,e5,e6,ldA_r,f6,rowAgg_row,List.length_cons,List.length_nil,Nat.reduceLeDiff,List.drop_zero,List.take_succ_cons,List.take_zero]
  exact Wp.pure ⟨by simp only; omega,f5,by rw [compAns_bad (fun h=>hr h.2)]; exact CompRes.none (by simp only; omega) 3 0⟩
 have hpo:oH n=some (.row [v] 0 true):=(f5 n (by omega)).trans hp1
 have hbo:oH (n+1)=some (.row [nilS,nilS,nilS] 0 true):=(f5 _ (by omega)).trans hb1
 have hko:∀ i,i < n→oH i=H i:=fun i hi=>(f5 i (by omega)).trans (hk1 i hi)
 ((repeat(first|((with_reducible first|apply Wp.gs|apply Wp.cs|apply Zc|apply Zg|apply Zd|apply Zi|apply Zn|apply Wp.step);case h=>((try simp(disch:=omega)only[↓reduceIte,Za,↓X0,X1,Nat.reduceEqDiff,Int.reduceEq,Nat.reduceAdd,Nat.reduceSub,X2,Ze,Nat.reduceLeDiff,e2,hpo]);with_reducible first|done|exact rfl|exact bT|exact bF))|apply Zf|apply Zj|with_reducible apply Zk|simp only[↓X3]|with_reducible apply Zb));try(with_reducible apply Zm;case h=>((try simp(disch:=omega)only[X1,Nat.reduceEqDiff,e2,hpo]);with_reducible exact rfl)))
 refine Wp.rtn (k50 (hv.mv (by omega) hko) (by omega)) ?_
 rintro _ H3 n3 q3 s3 ⟨u,rfl,id,i1,i2,i3⟩
 ((repeat(first|((with_reducible first|apply Wp.gs|apply Wp.cs|apply Zc|apply Zg|apply Zd|apply Zi|apply Zn|apply Wp.step);case h=>((try simp(disch:=omega)only[↓reduceIte,Za,↓X0,X1,Nat.reduceEqDiff,Int.reduceEq,Nat.reduceAdd,Nat.reduceSub,X2,Ze,Nat.reduceLeDiff,bld_41]);with_reducible first|done|exact rfl|exact bT|exact bF))|apply Zf|apply Zj|with_reducible apply Zk|simp only[↓X3]|with_reducible apply Zb));try(with_reducible apply Zm;case h=>((try simp(disch:=omega)only[X1,Nat.reduceEqDiff,bld_41]);with_reducible exact rfl)))
 generalize hG:H3.set (on+3) _=G
 have hGs:∀ i,i≠on+3→G i=H3 i:=fun i hi=>by rw [← hG]; exact Ze _ _ hi
 have hk:∀ i,i < on+3→G i=oH i:=fun i hi=>by rw [hGs i (by omega)]; exact s3 i (by omega)
 have hid:At eNode id G u p:=i3.mv (hGs id (by omega))
 have hb:G (n+1)=some (.row [nilS,nilS,nilS] 0 true):=by rw [hk _ (by omega)]; exact hbo
 have hDC:DC (on+3) (on+4) (on+2) (n3+1) G u nilS nilS ⟨0,[],[]⟩:=⟨⟨by rw [← hG]; exact Zh _ _ _,At.nil,by omega,by omega,by omega,by simp,⟨Int.le_refl 0,by show (0:Int)≤3; decide⟩⟩,At.nil,by omega,by omega,by omega⟩
 have hwG:Li eInt n G w l:=hw.mv (Nat.le_refl _) (fun i hi=>by rw [hk i (by omega)]; exact hko i hi)
 refine Wp.bind (l110 hp hr hl (b:=n+1) (w:=w) hDC (hid.lo (by omega) (by omega) (by omega)) (fun i o a k e=>by rcases hid with ⟨h,_⟩ | ⟨h,_⟩ <;> rw [h] at e <;> cases e; omega) ⟨hwG.mv (by omega) (fun _ _=>rfl),hwG.off (by omega),hwG.off (by omega)⟩ (hwG.off (by omega)) (by omega) (by omega) (by omega) (by omega) _ _ (Nat.le_refl _) (by simp [Zl,f4]) (by simp [Zl]) (by simp [Zl]) (by simp [Zl,e1]) hb) ?_
 rintro ⟨pe,pt,pH,pn⟩ ⟨f1',f2,f3,f4',f5'⟩
 simp only at f1' f2 f3 f4' f5'
 have hkn:∀ i,i < n→pH i=H i:=fun i hi=>by
  rw [f2 i (by omega) (by omega) (by omega) (by omega) (by omega),hk i (by omega)]; exact hko i hi
 have hD:=cAll_D p l 0 ⟨0,[],[]⟩
 have hSm:=cAll_small hp l 0 ⟨0,[],[]⟩ hr ⟨fun x hx=>by simp at hx,fun x hx=>by simp at hx⟩
 have hyes:=fun h0 h3=>compAns_y (p:=p) (l:=l) ⟨hp,hr⟩ h0 h3
 have hno:=fun h0 h3=>compAns_n (p:=p) (l:=l) ⟨hp,hr⟩ h0 h3
 have hthree:=fun h0=>compAns_3 (p:=p) (l:=l) ⟨hp,hr⟩ h0
 have herr:=fun h0 h3=>compAns_e (p:=p) (l:=l) ⟨hp,hr⟩ h0 h3
 generalize hQ:cAll p l 0 ⟨0,[],[]⟩=Q at *
 obtain ⟨S,at_⟩:=Q
 simp only at f5' hD hSm hyes hno hthree herr
 rcases f5' with ⟨rfl,e1',e8,h0,ul,il,ud,idd,j1,j2,hdc⟩ | ⟨rfl,h0,e5,e6⟩
 ·have hc:=hdc.cc.hc
  have hcn:=hdc.cc.cn
  have hil:=hdc.cc.iln
  have hdn:=hdc.dn
  have hpid:At eNode id pH u p:=hid.mv (f2 id (by omega) (by omega) (by omega) (by omega) (by omega))
  have hLl:=hdc.cc.len
  have v1:=vcells1 hdc.cc.al.cell
  have v2:=vcells1 hdc.ad.cell
  ((repeat(first|((with_reducible first|apply Wp.gs|apply Wp.cs|apply Zc|apply Zg|apply Zd|apply Zi|apply Zn|apply Wp.step);case h=>((try simp(disch:=omega)only[↓reduceIte,Za,↓X0,X1,Nat.reduceEqDiff,Int.reduceEq,Nat.reduceAdd,Nat.reduceSub,X2,Ze,Nat.reduceLeDiff,e8,hc,v1,v2]);with_reducible first|done|exact rfl|exact bT|exact bF))|apply Zf|apply Zj|with_reducible apply Zk|simp only[↓X3]|with_reducible apply Zb));try(with_reducible apply Zm;case h=>((try simp(disch:=omega)only[X1,Nat.reduceEqDiff,e8,hc,v1,v2]);with_reducible exact rfl)))
  refine Wp.rt (k14 ((hpid.lst (n:=pn) (by omega)).mv (by omega) (by intros;first|with_reducible rfl|simp(disch:=omega)only[Ze,Zh])) ((hdc.cc.al.lst hil).mv (by omega) (by intros;first|with_reducible rfl|simp(disch:=omega)only[Ze,Zh])) ((hdc.ad.lst hdn).mv (by omega) (by intros;first|with_reducible rfl|simp(disch:=omega)only[Ze,Zh])) hs hSm.1 hSm.2 hpl (by omega) (by simp at hD; omega)) ?_
  intro H5 n5 q5 s5
  have hb5:H5 (n+1)=some (.row [nilS,nilS,nilS] 0 true):=by rw [s5 _ (by omega),Ze _ _ (by omega)]; exact f3
  have hx5:H5 (pn+13)=some (.row [u,ul,ud] 0 true):=by rw [s5 _ (by omega)]; exact Zh _ _ _
  have hk5:∀ i,i < pn→H5 i=pH i:=fun i hi=>(s5 i (by omega)).trans (Ze _ _ (by omega))
  by_cases hco:CodeOk p S.L S.D
  ·rw [hyes h0 hco]
   have hst:st true 3 (ptr (n+1) 0) (.agg ⟨[u,ul,ud]⟩) H5=some (H5.set (n+1) (some (.row [u,ul,ud] 0 true))):=by
    rw [st_agg,stv_box hb5]; rfl
   (repeat(first|((with_reducible first|apply Wp.gs|apply Wp.cs|apply Zc|apply Zg|apply Zd|apply Zi|apply Zn|apply Wp.step);case h=>((try simp(disch:=omega)only[↓reduceIte,Za,↓X0,X1,Nat.reduceEqDiff,Int.reduceEq,Nat.reduceAdd,Nat.reduceSub,X2,Ze,Nat.reduceLeDiff,hco,e1',f4',hx5,hst,hwG.len]);with_reducible first|done|exact rfl|exact bT|exact bF))|apply Zf|apply Zj|with_reducible apply Zk|simp only[↓X3]|with_reducible apply Zb))
   refine Wp.pure ⟨by simp only; omega,(by intros;first|with_reducible rfl|simp(disch:=omega)only[Ze,Zh,hk5,hkn]),u,ul,ud,rfl,id,il,idd,?_,?_,?_,by omega,by simp only; omega,?_,by simp only; omega,?_,by simp only; omega,?_,?_,?_⟩
   ·omega
   ·omega
   ·exact Ne.symm hdc.ni
   ·omega
   ·omega
   ·exact hpid.mv ((Ze _ _ (by omega)).trans (hk5 _ (by omega)))
   ·exact hdc.cc.al.mv ((Ze _ _ (by omega)).trans (hk5 _ (by omega)))
   ·exact hdc.ad.mv ((Ze _ _ (by omega)).trans (hk5 _ (by omega)))
  ·rw [hno h0 hco]
   (repeat(first|((with_reducible first|apply Wp.gs|apply Wp.cs|apply Zc|apply Zg|apply Zd|apply Zi|apply Zn|apply Wp.step);case h=>((try simp(disch:=omega)only[↓reduceIte,Za,↓X0,X1,Nat.reduceEqDiff,Int.reduceEq,Nat.reduceAdd,Nat.reduceSub,X2,Ze,Nat.reduceLeDiff,hco,f4',bld_3n,hb5,ldA_r,rowAgg_row]);with_reducible first|done|exact rfl|exact bT|exact bF))|apply Zf|apply Zj|with_reducible apply Zk|simp only[↓X3]|with_reducible apply Zb))
   exact Wp.pure ⟨by simp only; omega,(by intros;first|with_reducible rfl|simp(disch:=omega)only[Ze,Zh,hk5,hkn]),CompRes.none (by simp only; omega) 3 0⟩
 ·simp(disch:=omega)only[↓reduceIte,Za,↓X0,X1,Nat.reduceEqDiff,Int.reduceEq,Nat.reduceAdd,Nat.reduceSub,f4',e5,e6,ldA_r,f3,rowAgg_row,List.length_cons,List.length_nil,Nat.reduceLeDiff,List.drop_zero,List.take_succ_cons,List.take_zero]
  by_cases h3:S.how=3
  ·rw [hthree h3]
   rw [h3,if_pos rfl]
   exact Wp.pure ⟨by simp only; omega,hkn,CompRes.none (by simp only; omega) 3 0⟩
  ·rw [herr h0 h3,if_neg h3]
   exact Wp.pure ⟨by simp only; omega,hkn,CompRes.none (by simp only; omega) _ _⟩
end Go.Proofs.Ytbgkimkbngocjaa.Ax
set_option linter.unusedVariables false
set_option linter.unusedSimpArgs false
set_option maxHeartbeats 4000000
namespace Go.Proofs.Ytbgkimkbngocjaa.Ax
open Go
def RightC (lo n:Nat) (H:Hp) (u ul ud:Value):Prop:=∃ l li ld,New3 lo n H u ul ud l li ld∧CodeOk l li ld∧0 < li.length
theorem New3.mv {lo n m:Nat} {H H':Hp} {u ul ud:Value} {l:List Nd} {li:List Ins} {ld:List Df} (h:New3 lo n H u ul ud l li ld) (hm:n≤m) (hs:∀ i,lo≤i→i < n→H' i=H i):New3 lo m H' u ul ud l li ld:=by
 obtain ⟨i,j,k,h1,h2,h3,a1,a2,b1,b2,c1,c2,o1,o2,o3⟩:=h
 exact ⟨i,j,k,h1,h2,h3,a1,by omega,b1,by omega,c1,by omega,o1.mv (hs _ a1 a2),o2.mv (hs _ b1 b2),o3.mv (hs _ c1 c2)⟩
theorem New3.lo {lo lo' n:Nat} {H:Hp} {u ul ud:Value} {l:List Nd} {li:List Ins} {ld:List Df} (h:New3 lo n H u ul ud l li ld) (hm:lo'≤lo):New3 lo' n H u ul ud l li ld:=by
 obtain ⟨i,j,k,h1,h2,h3,a1,a2,b1,b2,c1,c2,o⟩:=h
 exact ⟨i,j,k,h1,h2,h3,by omega,a2,by omega,b2,by omega,c2,o⟩
theorem RightC.mv {lo lo' n m:Nat} {H H':Hp} {u ul ud:Value} (h:RightC lo n H u ul ud) (hl:lo'≤lo) (hm:n≤m) (hs:∀ i,lo≤i→i < n→H' i=H i):RightC lo' m H' u ul ud:=by
 obtain ⟨l,li,ld,h1,h2⟩:=h
 exact ⟨l,li,ld,(h1.mv hm hs).lo hl,h2⟩
theorem rd_small {w:ByteArray} (h:PoolOk (rdAns w).pool):(∀ x∈(rdAns w).pool,x.s.size≤1048576)∧(rdAns w).pool.length≤1048576:=by
 refine ⟨fun x hx=>?_,by have:=h.2; omega⟩
 obtain ⟨k,hk,rfl⟩:=List.mem_iff_getElem.1 hx
 have:=node_sz h (v:=(k:Int)) (by omega) (by omega)
 rw [gi_nat hk] at this
 exact this
theorem comp_right {lo n:Nat} {H:Hp} {u ul ud:Value} {p:List Nd} {l:List Int} (h:New3 lo n H u ul ud (compAns p l).p (compAns p l).L (compAns p l).D) (h0:(compAns p l).how=0) (hl:l≠[]):RightC lo n H u ul ud:=by
 rcases compAns_two p l with h1 | ⟨-,h2,-⟩
 ·exact absurd h0 h1.1
 ·exact ⟨_,_,_,h,h2,comp_len hl h0⟩
theorem k99 {c n:Nat} {H:Hp} (hc:Cu c n H):RtD Try.prog 99 [ptr c 0] c H n (fun r H' n'=>∃ u ul ud,r=.agg ⟨[u,ul,ud]⟩∧RightC n n' H' u ul ud):=by
 apply RtD.mk
 rw [c99]; unfold S99
 have hcn:=hc.1
 refine Wp.bind (R:=fun (o:Out)=>n+2≤o.n∧(∀ i,i < n→i≠c→o.H i=H i)∧Cu c o.n o.H∧o.t 2=ptr n 0∧((o.e=.exit 0∧o.H n=some (.row [nilS,nilS,nilS] 0 true))∨(o.e=.ret∧∃ u ul ud,o.H n=some (.row [u,ul,ud] 0 true)∧RightC (n+2) o.n o.H u ul ud))) (Loop_rule (fun d T H' n'=>∃ k:Nat,k+d=4∧n+2≤n'∧(∀ i,i < n→i≠c→H' i=H i)∧H' n=some (.row [nilS,nilS,nilS] 0 true)∧Cu c n' H'∧T 0=ptr c 0∧T 2=ptr n 0∧T 3=.int .i64 (k:Int)) _ ?_ 4 _ _ _ ⟨0,by omega,by omega,fun i hi _=>Ze _ _ (by omega),Zh _ _ _,hc.mv (by omega) (fun i hi=>Ze _ _ (by omega)),by simp [Zl,Zq],by simp [Zl],by simp [Zl]⟩) ?_
 ·rintro d T H' n' ⟨k,hk,hn',hs,hp,hc',t0,t2,t3⟩
  unfold S99L0
  by_cases h4:(k:Int) < 4
  ·have w1:=wn (j:=k) (by omega)
   ((repeat(first|((with_reducible first|apply Wp.gs|apply Wp.cs|apply Zc|apply Zg|apply Zd|apply Zi|apply Wp.step);case h=>((try simp(disch:=omega)only[↓reduceIte,Za,↓X0,X1,Nat.reduceEqDiff,Int.reduceEq,Nat.reduceAdd,Nat.reduceSub,X2,Ze,Nat.reduceLeDiff,t0,t3,h4]);with_reducible first|done|exact rfl|exact bT|exact bF))|apply Zf|apply Zj|with_reducible apply Zk|simp only[↓X3]|with_reducible apply Zb));try(with_reducible apply Zm;case h=>((try simp(disch:=omega)only[X1,Nat.reduceEqDiff,t0,t3,h4]);with_reducible exact rfl)))
   refine Yh (k34 (hc'.up (by omega))) ?_
   rintro _ H1 n1 q1 s1 c1 ⟨x,rfl,hx,hxb⟩
   ((repeat(first|((with_reducible first|apply Wp.gs|apply Wp.cs|apply Zc|apply Zg|apply Zd|apply Zi|apply Wp.step);case h=>((try simp(disch:=omega)only[↓reduceIte,Za,↓X0,X1,Nat.reduceEqDiff,Int.reduceEq,Nat.reduceAdd,Nat.reduceSub,X2,Ze,Nat.reduceLeDiff]);with_reducible first|done|exact rfl|exact bT|exact bF))|apply Zf|apply Zj|with_reducible apply Zk|simp only[↓X3]|with_reducible apply Zb));try(with_reducible apply Zm;case h=>((try simp(disch:=omega)only[X1,Nat.reduceEqDiff]);with_reducible exact rfl)))
   refine Wp.rtn (k37 x _ _) ?_
   rintro _ H2 n2 q2 s2 ⟨u,w,rfl,⟨i,j,i1,i2,j1,j2,hij,hu,hw⟩,hok,hxs⟩
   obtain ⟨z1,z2⟩:=rd_small hok
   have hc1:=c1.1
   ((repeat(first|((with_reducible first|apply Wp.gs|apply Wp.cs|apply Zc|apply Zg|apply Zd|apply Zi|apply Wp.step);case h=>((try simp(disch:=omega)only[↓reduceIte,Za,↓X0,X1,Nat.reduceEqDiff,Int.reduceEq,Nat.reduceAdd,Nat.reduceSub,X2,Ze,Nat.reduceLeDiff,s2]);with_reducible first|done|exact rfl|exact bT|exact bF))|apply Zf|apply Zj|with_reducible apply Zk|simp only[↓X3]|with_reducible apply Zb));try(with_reducible apply Zm;case h=>((try simp(disch:=omega)only[X1,Nat.reduceEqDiff,s2]);with_reducible exact rfl)))
   refine Wp.rtn (k10 ((hu.mv (by intros;first|with_reducible rfl|simp(disch:=omega)only[Ze,Zh])).lst (by omega)) z1 z2 ((hw.mv (by intros;first|with_reducible rfl|simp(disch:=omega)only[Ze,Zh])).lst (by omega)) (by omega)) ?_
   rintro _ H3 n3 q3 s3 ⟨a,al,ad,rfl,hN⟩
   have hcH3:Cu c (n3+6) (H3.set (n2+7) (some (.row [a,al,ad] 0 true))):=c1.mv (by omega) (fun i hi=>by rw [Ze _ _ (by omega),s3 _ (by omega),Ze _ _ (by omega),s2 _ (by omega)])
   have hlo3:∀ i,i < n→i≠c→H3 i=H i:=fun i hi hne=>by rw [s3 _ (by omega),Ze _ _ (by omega),s2 _ (by omega),s1 _ (by omega) hne]; exact hs i hi hne
   have hp3:H3 n=some (.row [nilS,nilS,nilS] 0 true):=by rw [s3 _ (by omega),Ze _ _ (by omega),s2 _ (by omega),s1 _ (by omega) (by omega)]; exact hp
   by_cases hr:(rdAns x).how=0
   ·by_cases hf:(compAns (rdAns x).pool (rdAns x).list).how=0
    ·have hR:=comp_right hN hf (rdAns_some hx hr)
     (repeat(first|((with_reducible first|apply Wp.gs|apply Wp.cs|apply Zc|apply Zg|apply Zd|apply Zi|apply Wp.step);case h=>((try simp(disch:=omega)only[↓reduceIte,Za,↓X0,X1,Nat.reduceEqDiff,Int.reduceEq,Nat.reduceAdd,Nat.reduceSub,X2,Ze,Nat.reduceLeDiff,hr,hf,t2,hp3]);with_reducible first|done|exact rfl|exact bT|exact bF))|apply Zf|apply Zj|with_reducible apply Zk|simp only[↓X3]|with_reducible apply Zb))
     refine Wp.pure (Nxt.ret ⟨by simp only; omega,(by intros;first|with_reducible rfl|simp(disch:=omega)only[Ze,Zh,hlo3]),hcH3.mv (by simp only; omega) (fun i hi=>Ze _ _ (by omega)),by simp [Zl,t2],.inr ⟨rfl,a,al,ad,Zh _ _ _,hR.mv (by omega) (by simp only; omega) (fun i hi hi2=>by simp (disch:=omega) only [Ze])⟩⟩)
    ·(repeat(first|((with_reducible first|apply Wp.gs|apply Wp.cs|apply Zc|apply Zg|apply Zd|apply Zi|apply Wp.step);case h=>((try simp(disch:=omega)only[↓reduceIte,Za,↓X0,X1,Nat.reduceEqDiff,Int.reduceEq,Nat.reduceAdd,Nat.reduceSub,X2,Ze,Nat.reduceLeDiff,hr,hf,t3,w1]);with_reducible first|done|exact rfl|exact bT|exact bF))|apply Zf|apply Zj|with_reducible apply Zk|simp only[↓X3]|with_reducible apply Zb))
     exact Wp.pure (Nxt.go (d - 1) (by omega) ⟨k+1,by omega,by omega,(by intros;first|with_reducible rfl|simp(disch:=omega)only[Ze,Zh,hlo3]),(by intros;first|with_reducible rfl|simp(disch:=omega)only[Ze,Zh,hp3]),hcH3.up (by omega),by simp [Zl,t0],by simp [Zl,t2],by simp [Zl]⟩)
   ·(repeat(first|((with_reducible first|apply Wp.gs|apply Wp.cs|apply Zc|apply Zg|apply Zd|apply Zi|apply Wp.step);case h=>((try simp(disch:=omega)only[↓reduceIte,Za,↓X0,X1,Nat.reduceEqDiff,Int.reduceEq,Nat.reduceAdd,Nat.reduceSub,X2,Ze,Nat.reduceLeDiff,hr,t3,w1]);with_reducible first|done|exact rfl|exact bT|exact bF))|apply Zf|apply Zj|with_reducible apply Zk|simp only[↓X3]|with_reducible apply Zb))
    exact Wp.pure (Nxt.go (d - 1) (by omega) ⟨k+1,by omega,by omega,(by intros;first|with_reducible rfl|simp(disch:=omega)only[Ze,Zh,hlo3]),(by intros;first|with_reducible rfl|simp(disch:=omega)only[Ze,Zh,hp3]),hcH3.up (by omega),by simp [Zl,t0],by simp [Zl,t2],by simp [Zl]⟩)
  ·(repeat(first|((with_reducible first|apply Wp.gs|apply Wp.cs|apply Zc|apply Zg|apply Zd|apply Zi|apply Wp.step);case h=>((try simp(disch:=omega)only[↓reduceIte,Za,↓X0,X1,Nat.reduceEqDiff,Int.reduceEq,Nat.reduceAdd,Nat.reduceSub,t3,h4]);with_reducible first|done|exact rfl|exact bT|exact bF))|apply Zf|apply Zj|with_reducible apply Zk|simp only[↓X3]|with_reducible apply Zb))
   exact Wp.pure (Nxt.exit ⟨by simp only; omega,hs,hc'.up (by simp only; omega),by simp [Zl,t2],.inl ⟨rfl,hp⟩⟩)
 ·rintro ⟨oe,oT,oH,on⟩ ⟨f1,f2,f3,t2,⟨rfl,f4⟩ | ⟨rfl,a,al,ad,f4,f5⟩⟩
  ·simp only at f1 f2 f3 t2 f4
   have hc3:=f3.1
   rw [show (⟨#[40,112,114,105,110,116,32,49,41]⟩:ByteArray)=wP1 from rfl]
   ((repeat(first|((with_reducible first|apply Wp.gs|apply Wp.cs|apply Zc|apply Zg|apply Zd|apply Zi|apply Wp.step);case h=>((try simp(disch:=omega)only[↓reduceIte,Za,↓X0,X1,Nat.reduceEqDiff,Int.reduceEq,Nat.reduceAdd,Nat.reduceSub,X2,Ze,Nat.reduceLeDiff]);with_reducible first|done|exact rfl|exact bT|exact bF))|apply Zf|apply Zj|with_reducible apply Zk|simp only[↓X3]|with_reducible apply Zb));try(with_reducible apply Zm;case h=>((try simp(disch:=omega)only[X1,Nat.reduceEqDiff]);with_reducible exact rfl)))
   refine Wp.rtn (k37 wP1 _ _) ?_
   rintro _ H2 n2 q2 s2 ⟨u,w,rfl,⟨i,j,i1,i2,j1,j2,hij,hu,hw⟩,hok,hxs⟩
   obtain ⟨z1,z2⟩:=rd_small hok
   ((repeat(first|((with_reducible first|apply Wp.gs|apply Wp.cs|apply Zc|apply Zg|apply Zd|apply Zi|apply Wp.step);case h=>((try simp(disch:=omega)only[↓reduceIte,Za,↓X0,X1,Nat.reduceEqDiff,Int.reduceEq,Nat.reduceAdd,Nat.reduceSub,X2,Ze,Nat.reduceLeDiff,s2]);with_reducible first|done|exact rfl|exact bT|exact bF))|apply Zf|apply Zj|with_reducible apply Zk|simp only[↓X3]|with_reducible apply Zb));try(with_reducible apply Zm;case h=>((try simp(disch:=omega)only[X1,Nat.reduceEqDiff,s2]);with_reducible exact rfl)))
   refine Wp.rtn (k10 ((hu.mv (by intros;first|with_reducible rfl|simp(disch:=omega)only[Ze,Zh])).lst (by omega)) z1 z2 ((hw.mv (by intros;first|with_reducible rfl|simp(disch:=omega)only[Ze,Zh])).lst (by omega)) (by omega)) ?_
   rintro _ H3 n3 q3 s3 ⟨a,al,ad,rfl,hN⟩
   have hR:=comp_right hN aP1 (by rw [rP1]; simp)
   have hp3:H3 n=some (.row [nilS,nilS,nilS] 0 true):=by rw [s3 _ (by omega),Ze _ _ (by omega),s2 _ (by omega)]; exact f4
   (repeat(first|((with_reducible first|apply Wp.gs|apply Wp.cs|apply Zc|apply Zg|apply Zd|apply Zi|apply Wp.step);case h=>((try simp(disch:=omega)only[↓reduceIte,Za,↓X0,X1,Nat.reduceEqDiff,Int.reduceEq,Nat.reduceAdd,Nat.reduceSub,X2,Ze,Nat.reduceLeDiff,t2,hp3]);with_reducible first|done|exact rfl|exact bT|exact bF))|apply Zf|apply Zj|with_reducible apply Zk|simp only[↓X3]|with_reducible apply Zb))
   exact Wp.pure ⟨by simp only; omega,fun i hi hne=>by simp (disch:=omega) only [Ze,s3,s2,f2 i hi hne],f3.mv (by simp only; omega) (fun i hi=>by simp (disch:=omega) only [Ze,s3,s2]),a,al,ad,rfl,hR.mv (by omega) (by simp only; omega) (fun i hi hi2=>by simp (disch:=omega) only [Ze])⟩
  ·simp only at f1 f2 f3 t2 f4 f5
   simp(disch:=omega)only[↓reduceIte,Za,↓X0,X1,Nat.reduceEqDiff,Int.reduceEq,Nat.reduceAdd,Nat.reduceSub]
   (repeat(first|((with_reducible first|apply Wp.gs|apply Wp.cs|apply Zc|apply Zg|apply Zd|apply Zi|apply Wp.step);case h=>((try simp(disch:=omega)only[↓reduceIte,Za,↓X0,X1,Nat.reduceEqDiff,Int.reduceEq,Nat.reduceAdd,Nat.reduceSub,X2,Ze,Nat.reduceLeDiff,t2,f4]);with_reducible first|done|exact rfl|exact bT|exact bF))|apply Zf|apply Zj|with_reducible apply Zk|simp only[↓X3]|with_reducible apply Zb))
   exact Wp.pure ⟨by simp only; omega,f2,f3,a,al,ad,rfl,f5.mv (by omega) (by simp only; omega) (fun _ _ _=>rfl)⟩
end Go.Proofs.Ytbgkimkbngocjaa.Ax
set_option linter.unusedVariables false
set_option linter.unusedSimpArgs false
namespace Go.Proofs.Ytbgkimkbngocjaa.Ax
open Go
theorem k7 {n:Nat} {H:Hp} {v:Value} {l:List Int} (hv:Li eByte n H v l):Call Try.prog 7 [v] H n=some (.bool (decide (1048576 < l.length)),H,n+5):=by
 rw [c7]; unfold S7
 simp(disch:=omega)only[↓reduceIte,Za,↓X0,X1,Nat.reduceEqDiff,Int.reduceEq,Nat.reduceAdd,Nat.reduceSub,hv.len]
 simp only [nats_lt (j:=1048576),show ((1048576:Int)=((1048576:Nat):Int)) from rfl]
end Go.Proofs.Ytbgkimkbngocjaa.Ax
set_option linter.unusedVariables false
set_option linter.unusedSimpArgs false
set_option maxHeartbeats 4000000
namespace Go.Proofs.Ytbgkimkbngocjaa.Ax
open Go
theorem Wp.rnew {P:Program} {f:Nat} {args:List Value} {H:Hp} {n:Nat} {β:Type} {g:Value × Hp × Nat→Option β} {Q:β→Prop} (h:∃ c H' n',n≤c∧Same n H H'∧Cu c n' H'∧Call P f args H n=some (ptr c 0,H',n')) (k:∀ c H' n',n≤c→c < n'→(∀ i,i < n→H' i=H i)→Cu c n' H'→Wp (g (ptr c 0,H',n')) Q):Wp ((Call P f args H n).bind g) Q:=by
 obtain ⟨c,H',n',h1,h2,h3,h4⟩:=h
 rw [h4]; exact k c H' n' h1 h3.1 h2 h3
theorem Cu.hi {c n:Nat} {H:Hp} (h:Cu c n H):c < n:=h.1
end Go.Proofs.Ytbgkimkbngocjaa.Ax
set_option linter.unusedVariables false
set_option linter.unusedSimpArgs false
set_option maxHeartbeats 4000000
namespace Go.Proofs.Ytbgkimkbngocjaa.Ax
open Go
structure BndC (l:List Nd) (li:List Ins) (ld:List Df):Prop where
 a1:∀ x∈l,x.s.size≤1048576
 a2:∀ x∈li,x.s.size≤1048576
 a3:∀ x∈ld,x.s.size≤1048576
 b1:l.length≤4000
 b2:li.length≤400
 b3:ld.length≤30
def DrawnC (lo n:Nat) (H:Hp) (u ul ud:Value):Prop:=∃ l li ld,New3 lo n H u ul ud l li ld∧BndC l li ld
theorem BndC.set {l:List Nd} {li:List Ins} {ld:List Df} (h:BndC l li ld) (j:Nat) {y:Ins} (hy:y.s.size≤1048576):BndC l (li.set j y) ld :=
 ⟨h.a1,fun x hx=>by
  rcases List.mem_or_eq_of_mem_set hx with hx | rfl
  ·exact h.a2 x hx
  ·exact hy,h.a3,h.b1,by rw [List.length_set]; exact h.b2,h.b3⟩
theorem RightC.bnd {lo n:Nat} {H:Hp} {u ul ud:Value} (h:RightC lo n H u ul ud):∃ l li ld,New3 lo n H u ul ud l li ld∧BndC l li ld∧0 < li.length∧CodeOk l li ld:=by
 obtain ⟨l,li,ld,h1,h2,h3⟩:=h
 obtain ⟨z1,z2,z3⟩:=code_sz h2
 obtain ⟨k1,k2,k3,-,-⟩:=id h2
 have:=k1.2
 exact ⟨l,li,ld,h1,⟨z1,z2,z3,by omega,by omega,by omega⟩,h3,h2⟩
theorem At.row {α:Type} {E:Enc α} {id:Nat} {H:Hp} {v:Value} {l:List α} (h:At E id H v l) (hl:0 < l.length):v=sl id 0 l.length∧H id=some (.row (l.flatMap E.cells) E.sz true):=by
 rcases h with ⟨-,rfl⟩ | h
 ·simp at hl
 ·exact h
theorem New3.edit {lo n:Nat} {H:Hp} {u ul ud:Value} {l:List Nd} {li:List Ins} {ld:List Df} {i il id:Nat} (d1:i≠il) (d2:i≠id) (d3:il≠id) (a1:lo≤i) (a2:i < n) (b1:lo≤il) (b2:il < n) (c1:lo≤id) (c2:id < n) (o1:At eNode i H u l) (o3:At eDef id H ud ld) (j:Nat) (y:Ins) (hul:ul=sl il 0 li.length):New3 lo n (H.set il (some (.row ((li.set j y).flatMap eIns.cells) 4 true))) u ul ud l (li.set j y) ld :=
 ⟨i,il,id,d1,d2,d3,a1,a2,b1,b2,c1,c2,o1.mv (Ze _ _ d1),.inr ⟨by rw [hul,List.length_set],Zh _ _ _⟩,o3.mv (Ze _ _ (Ne.symm d3))⟩
theorem k57 {c n:Nat} {H:Hp} (hc:Cu c n H):RtD Try.prog 57 [ptr c 0] c H n (fun r H' n'=>∃ u ul ud,r=.agg ⟨[u,ul,ud]⟩∧DrawnC n n' H' u ul ud):=by
 apply RtD.mk
 rw [c57]; unfold S57
 have hcn:=hc.1
 ((repeat(first|((with_reducible first|apply Wp.gs|apply Wp.cs|apply Zc|apply Zg|apply Zd|apply Zi|apply Zn|apply Wp.step);case h=>((try simp(disch:=omega)only[↓reduceIte,Za,↓X0,X1,Nat.reduceEqDiff,Int.reduceEq,Nat.reduceAdd,Nat.reduceSub]);with_reducible first|done|exact rfl|exact bT|exact bF))|apply Zf|apply Zj|with_reducible apply Zk|simp only[↓X3]|with_reducible apply Zb));try(with_reducible apply Zm;case h=>((try simp(disch:=omega)only[X1,Nat.reduceEqDiff]);with_reducible exact rfl)))
 refine Yh (k99 (hc.mv (by omega) (fun i hi=>Ze _ _ (by omega)))) ?_
 rintro _ H1 n1 q1 s1 c1 ⟨u,ul,ud,rfl,hR⟩
 obtain ⟨l,li,dl,⟨i,il,id,d1,d2,d3,a1,a2,b1,b2,e1,e2,o1,o2,o3⟩,hB,hpos,hok⟩:=hR.bnd
 have hB3:dl.length≤20:=hok.2.2.1
 obtain ⟨hul,hrow⟩:=o2.row hpos
 have hlen:∀ H':Hp,H' il=H1 il→lenV false ul=some (.int .i64 li.length):=fun H' h=>((o2.mv (H':=H1) rfl).lst b2).len
 have hlen:=hlen H1 rfl
 ((repeat(first|((with_reducible first|apply Wp.gs|apply Wp.cs|apply Zc|apply Zg|apply Zd|apply Zi|apply Zn|apply Wp.step);case h=>((try simp(disch:=omega)only[↓reduceIte,Za,↓X0,X1,Nat.reduceEqDiff,Int.reduceEq,Nat.reduceAdd,Nat.reduceSub,X2,Ze,Nat.reduceLeDiff,hlen]);with_reducible first|done|exact rfl|exact bT|exact bF))|apply Zf|apply Zj|with_reducible apply Zk|simp only[↓X3]|with_reducible apply Zb));try(with_reducible apply Zm;case h=>((try simp(disch:=omega)only[X1,Nat.reduceEqDiff,hlen]);with_reducible exact rfl)))
 refine Yh (k38 (c1.mv (by omega) (fun i hi=>Ze _ _ (by omega))) _) ?_
 rintro _ H2 n2 q2 s2 c2 ⟨jj,rfl,-,hj⟩
 have hj:=hj (by omega)
 obtain ⟨j,rfl⟩:∃ j:Nat,jj=(j:Int):=⟨jj.toNat,by omega⟩
 have hjl:j < li.length:=by omega
 ((repeat(first|((with_reducible first|apply Wp.gs|apply Wp.cs|apply Zc|apply Zg|apply Zd|apply Zi|apply Zn|apply Wp.step);case h=>((try simp(disch:=omega)only[↓reduceIte,Za,↓X0,X1,Nat.reduceEqDiff,Int.reduceEq,Nat.reduceAdd,Nat.reduceSub]);with_reducible first|done|exact rfl|exact bT|exact bF))|apply Zf|apply Zj|with_reducible apply Zk|simp only[↓X3]|with_reducible apply Zb));try(with_reducible apply Zm;case h=>((try simp(disch:=omega)only[X1,Nat.reduceEqDiff]);with_reducible exact rfl)))
 refine Yh (k38 (c2.up (by omega)) 25) ?_
 rintro _ H3 n3 q3 s3 c3 ⟨r,rfl,-,hr⟩
 ((repeat(first|((with_reducible first|apply Wp.gs|apply Wp.cs|apply Zc|apply Zg|apply Zd|apply Zi|apply Zn|apply Wp.step);case h=>((try simp(disch:=omega)only[↓reduceIte,Za,↓X0,X1,Nat.reduceEqDiff,Int.reduceEq,Nat.reduceAdd,Nat.reduceSub]);with_reducible first|done|exact rfl|exact bT|exact bF))|apply Zf|apply Zj|with_reducible apply Zk|simp only[↓X3]|with_reducible apply Zb));try(with_reducible apply Zm;case h=>((try simp(disch:=omega)only[X1,Nat.reduceEqDiff]);with_reducible exact rfl)))
 have hM:∀ i,i < n1→i≠c→i≠n+3→H3 i=H1 i:=fun i h1 h2 h3=>by rw [s3 _ (by omega) h2,s2 _ (by omega) h2,Ze _ _ h3]
 have hp3:H3 (n+3)=some (.row [u,ul,ud] 0 true):=by rw [s3 _ (by omega) (by omega),s2 _ (by omega) (by omega),Zh]
 have hp0:H3 n=some (.row [nilS,nilS,nilS] 0 true):=by rw [hM _ (by omega) (by omega) (by omega),s1 _ (by omega) (by omega),Zh]
 have hlo:∀ i,i < n→i≠c→H3 i=H i:=fun i h1 h2=>by rw [hM _ (by omega) h2 (by omega),s1 _ (by omega) h2,Ze _ _ (by omega)]
 have p1:=o1.mv (H':=H3) (hM _ (by omega) (by omega) (by omega))
 have p3:=o3.mv (H':=H3) (hM _ (by omega) (by omega) (by omega))
 have prow:H3 il=some (.row (li.flatMap eIns.cells) 4 true):=by rw [hM _ (by omega) (by omega) (by omega)]; exact hrow
 have hx:idxA 4 ul (.int .i64 (j:Int))=some (ptr il (j * 4)):=by rw [hul]; exact idx_sl hjl
 have hg:∀ y:Ins,∀ f:Nat,f < 4→∀ cv,cell1 cv=true→eIns.cells y=setAt (eIns.cells li[j]) f [cv]→∀ H':Hp,H' il=H3 il→st false 1 (ptr il (j * 4+f)) cv H'=some (H'.set il (some (.row ((li.set j y).flatMap eIns.cells) 4 true))):=fun y f hf cv hcv hy H' hH=>st_fcD (E:=eIns) (by rw [hH]; exact prow) hjl hf hcv hy
 refine Wp.bind (R:=fun (o:Out)=>n3≤o.n∧(∀ i,i < n→i≠c→o.H i=H i)∧Cu c o.n o.H∧o.t 2=ptr n 0∧o.t 3=ptr (n+3) 0∧o.H n=some (.row [nilS,nilS,nilS] 0 true)∧∃ u ul ud,o.H (n+3)=some (.row [u,ul,ud] 0 true)∧DrawnC (n+5) o.n o.H u ul ud) ?_ ?_
 ·by_cases r0:r=0
  ·rw [decide_eq_true r0]
   have hld:ld false 1 (ptr (n+3) 1) H3=some ul:=ld_cell hp3 rfl
   ((repeat(first|((with_reducible first|apply Wp.gs|apply Wp.cs|apply Zc|apply Zg|apply Zd|apply Zi|apply Zn|apply Wp.step);case h=>((try simp(disch:=omega)only[↓reduceIte,Za,↓X0,X1,Nat.reduceEqDiff,Int.reduceEq,Nat.reduceAdd,Nat.reduceSub,Zq,hld]);with_reducible first|done|exact rfl|exact bT|exact bF))|apply Zf|apply Zj|with_reducible apply Zk|simp only[↓X3]|with_reducible apply Zb));try(with_reducible apply Zm;case h=>((try simp(disch:=omega)only[X1,Nat.reduceEqDiff,Zq,hld]);with_reducible exact rfl)))
   refine Yh (k38 (c3.up (by omega)) 11) ?_
   rintro _ H4 n4 q4 s4 c4 ⟨a,rfl,-,-⟩
   have hld4:ld false 1 (ptr (n+3) 1) H4=some ul:=ld_cell (by rw [s4 _ (by omega) (by omega)]; exact hp3) rfl
   have hst:=hg ⟨a,li[j].n,li[j].i,li[j].s⟩ 0 (by omega) (.int .i64 a) rfl rfl H4 (s4 _ (by omega) (by omega))
   rw [Nat.add_zero] at hst
   (repeat(first|((with_reducible first|apply Wp.gs|apply Wp.cs|apply Zc|apply Zg|apply Zd|apply Zi|apply Zn|apply Wp.step);case h=>((try simp(disch:=omega)only[↓reduceIte,Za,↓X0,X1,Nat.reduceEqDiff,Int.reduceEq,Nat.reduceAdd,Nat.reduceSub,hld4,hx,hst]);with_reducible first|done|exact rfl|exact bT|exact bF))|apply Zf|apply Zj|with_reducible apply Zk|simp only[↓X3]|with_reducible apply Zb))
   exact Wp.pure ⟨by simp only; omega,fun i h1 h2=>by simp (disch:=omega) only [Ze,s4,hlo],c4.mv (by simp only; omega) (fun i hi=>Ze _ _ (by omega)),by simp [Zl],by simp [Zl],by simp (disch:=omega) only [Ze,s4,hp0],u,ul,ud,by simp (disch:=omega) only [Ze,s4,hp3],l,_,dl,New3.edit d1 d2 d3 a1 (by simp only; omega) b1 (by simp only; omega) e1 (by simp only; omega) (p1.mv (s4 _ (by omega) (by omega))) (p3.mv (s4 _ (by omega) (by omega))) _ _ hul,hB.set _ (hB.a2 li[j] (List.getElem_mem hjl))⟩
  rw [decide_eq_false r0]
  ((repeat(first|((with_reducible first|apply Wp.gs|apply Wp.cs|apply Zc|apply Zg|apply Zd|apply Zi|apply Zn|apply Wp.step);case h=>((try simp(disch:=omega)only[↓reduceIte,Za,↓X0,X1,Nat.reduceEqDiff,Int.reduceEq,Nat.reduceAdd,Nat.reduceSub]);with_reducible first|done|exact rfl|exact bT|exact bF))|apply Zf|apply Zj|with_reducible apply Zk|simp only[↓X3]|with_reducible apply Zb));try(with_reducible apply Zm;case h=>((try simp(disch:=omega)only[X1,Nat.reduceEqDiff]);with_reducible exact rfl)))
  by_cases r1:r=1
  ·rw [decide_eq_true r1]
   have hld:ld false 1 (ptr (n+3) 1) H3=some ul:=ld_cell hp3 rfl
   have w1:IntKind.i64.wrap ((j:Int)+1)=(j:Int)+1:=w64 (by have:=hB.b2; omega)
   have w2:IntKind.i64.wrap ((li.length:Int)+1)=(li.length:Int)+1:=w64 (by have:=hB.b2; omega)
   have hlen3:lenV false ul=some (.int .i64 li.length):=hlen
   ((repeat(first|((with_reducible first|apply Wp.gs|apply Wp.cs|apply Zc|apply Zg|apply Zd|apply Zi|apply Zn|apply Wp.step);case h=>((try simp(disch:=omega)only[↓reduceIte,Za,↓X0,X1,Nat.reduceEqDiff,Int.reduceEq,Nat.reduceAdd,Nat.reduceSub,Zq,hld,hlen3,w1,w2]);with_reducible first|done|exact rfl|exact bT|exact bF))|apply Zf|apply Zj|with_reducible apply Zk|simp only[↓X3]|with_reducible apply Zb));try(with_reducible apply Zm;case h=>((try simp(disch:=omega)only[X1,Nat.reduceEqDiff,Zq,hld,hlen3,w1,w2]);with_reducible exact rfl)))
   refine Wp.bslN eInt [-1,0,(j:Int),(j:Int)+1,(li.length:Int),(li.length:Int)+1] (by decide) rfl rfl ?_
   ((repeat(first|((with_reducible first|apply Wp.gs|apply Wp.cs|apply Zc|apply Zg|apply Zd|apply Zi|apply Zn|apply Wp.step);case h=>((try simp(disch:=omega)only[↓reduceIte,Za,↓X0,X1,Nat.reduceEqDiff,Int.reduceEq,Nat.reduceAdd,Nat.reduceSub,Zq]);with_reducible first|done|exact rfl|exact bT|exact bF))|apply Zf|apply Zj|with_reducible apply Zk|simp only[↓X3]|with_reducible apply Zb));try(with_reducible apply Zm;case h=>((try simp(disch:=omega)only[X1,Nat.reduceEqDiff,Zq]);with_reducible exact rfl)))
   refine Yh (k62 (c3.mv (by omega) (fun i hi=>Ze _ _ (by omega))) ((At.of rfl (Zh _ _ _)).lst (by omega)) (Off.sl (by omega)) (by simp)) ?_
   rintro _ H4 n4 q4 s4 c4 ⟨a,rfl,-⟩
   have hld4:ld false 1 (ptr (n+3) 1) H4=some ul:=ld_cell (by rw [s4 _ (by omega) (by omega),Ze _ _ (by omega)]; exact hp3) rfl
   have hst:=hg ⟨li[j].op,a,li[j].i,li[j].s⟩ 1 (by omega) (.int .i64 a) rfl rfl H4 (by rw [s4 _ (by omega) (by omega),Ze _ _ (by omega)])
   (repeat(first|((with_reducible first|apply Wp.gs|apply Wp.cs|apply Zc|apply Zg|apply Zd|apply Zi|apply Zn|apply Wp.step);case h=>((try simp(disch:=omega)only[↓reduceIte,Za,↓X0,X1,Nat.reduceEqDiff,Int.reduceEq,Nat.reduceAdd,Nat.reduceSub,hld4,hx,hst]);with_reducible first|done|exact rfl|exact bT|exact bF))|apply Zf|apply Zj|with_reducible apply Zk|simp only[↓X3]|with_reducible apply Zb))
   exact Wp.pure ⟨by simp only; omega,fun i h1 h2=>by simp (disch:=omega) only [Ze,s4,hlo],c4.mv (by simp only; omega) (fun i hi=>Ze _ _ (by omega)),by simp [Zl],by simp [Zl],by simp (disch:=omega) only [Ze,s4,hp0],u,ul,ud,by simp (disch:=omega) only [Ze,s4,hp3],l,_,dl,New3.edit d1 d2 d3 a1 (by simp only; omega) b1 (by simp only; omega) e1 (by simp only; omega) (p1.mv (by rw [s4 _ (by omega) (by omega),Ze _ _ (by omega)])) (p3.mv (by rw [s4 _ (by omega) (by omega),Ze _ _ (by omega)])) _ _ hul,hB.set _ (hB.a2 li[j] (List.getElem_mem hjl))⟩
  rw [decide_eq_false r1]
  ((repeat(first|((with_reducible first|apply Wp.gs|apply Wp.cs|apply Zc|apply Zg|apply Zd|apply Zi|apply Zn|apply Wp.step);case h=>((try simp(disch:=omega)only[↓reduceIte,Za,↓X0,X1,Nat.reduceEqDiff,Int.reduceEq,Nat.reduceAdd,Nat.reduceSub]);with_reducible first|done|exact rfl|exact bT|exact bF))|apply Zf|apply Zj|with_reducible apply Zk|simp only[↓X3]|with_reducible apply Zb));try(with_reducible apply Zm;case h=>((try simp(disch:=omega)only[X1,Nat.reduceEqDiff]);with_reducible exact rfl)))
  by_cases r2:r=2
  ·rw [decide_eq_true r2]
   have hld:ld false 1 (ptr (n+3) 1) H3=some ul:=ld_cell hp3 rfl
   ((repeat(first|((with_reducible first|apply Wp.gs|apply Wp.cs|apply Zc|apply Zg|apply Zd|apply Zi|apply Zn|apply Wp.step);case h=>((try simp(disch:=omega)only[↓reduceIte,Za,↓X0,X1,Nat.reduceEqDiff,Int.reduceEq,Nat.reduceAdd,Nat.reduceSub,Zq,hld]);with_reducible first|done|exact rfl|exact bT|exact bF))|apply Zf|apply Zj|with_reducible apply Zk|simp only[↓X3]|with_reducible apply Zb));try(with_reducible apply Zm;case h=>((try simp(disch:=omega)only[X1,Nat.reduceEqDiff,Zq,hld]);with_reducible exact rfl)))
   refine Yh (k38 (c3.up (by omega)) 7) ?_
   rintro _ H4 n4 q4 s4 c4 ⟨a,rfl,-,ha⟩
   have ha:=ha (by omega)
   have w1:IntKind.i64.wrap (a - 1)=a - 1:=w64 (by omega)
   have hld4:ld false 1 (ptr (n+3) 1) H4=some ul:=ld_cell (by rw [s4 _ (by omega) (by omega)]; exact hp3) rfl
   have hst:=hg ⟨li[j].op,li[j].n,a - 1,li[j].s⟩ 2 (by omega) (.int .i64 (a - 1)) rfl rfl H4 (by rw [s4 _ (by omega) (by omega)])
   (repeat(first|((with_reducible first|apply Wp.gs|apply Wp.cs|apply Zc|apply Zg|apply Zd|apply Zi|apply Zn|apply Wp.step);case h=>((try simp(disch:=omega)only[↓reduceIte,Za,↓X0,X1,Nat.reduceEqDiff,Int.reduceEq,Nat.reduceAdd,Nat.reduceSub,hld4,hx,hst,w1]);with_reducible first|done|exact rfl|exact bT|exact bF))|apply Zf|apply Zj|with_reducible apply Zk|simp only[↓X3]|with_reducible apply Zb))
   exact Wp.pure ⟨by simp only; omega,fun i h1 h2=>by simp (disch:=omega) only [Ze,s4,hlo],c4.mv (by simp only; omega) (fun i hi=>Ze _ _ (by omega)),by simp [Zl],by simp [Zl],by simp (disch:=omega) only [Ze,s4,hp0],u,ul,ud,by simp (disch:=omega) only [Ze,s4,hp3],l,_,dl,New3.edit d1 d2 d3 a1 (by simp only; omega) b1 (by simp only; omega) e1 (by simp only; omega) (p1.mv (by rw [s4 _ (by omega) (by omega)])) (p3.mv (by rw [s4 _ (by omega) (by omega)])) _ _ hul,hB.set _ (hB.a2 li[j] (List.getElem_mem hjl))⟩
  rw [decide_eq_false r2]
  ((repeat(first|((with_reducible first|apply Wp.gs|apply Wp.cs|apply Zc|apply Zg|apply Zd|apply Zi|apply Zn|apply Wp.step);case h=>((try simp(disch:=omega)only[↓reduceIte,Za,↓X0,X1,Nat.reduceEqDiff,Int.reduceEq,Nat.reduceAdd,Nat.reduceSub]);with_reducible first|done|exact rfl|exact bT|exact bF))|apply Zf|apply Zj|with_reducible apply Zk|simp only[↓X3]|with_reducible apply Zb));try(with_reducible apply Zm;case h=>((try simp(disch:=omega)only[X1,Nat.reduceEqDiff]);with_reducible exact rfl)))
  by_cases r3:r=3
  ·rw [decide_eq_true r3]
   have hld:ld false 1 (ptr (n+3) 1) H3=some ul:=ld_cell hp3 rfl
   ((repeat(first|((with_reducible first|apply Wp.gs|apply Wp.cs|apply Zc|apply Zg|apply Zd|apply Zi|apply Zn|apply Wp.step);case h=>((try simp(disch:=omega)only[↓reduceIte,Za,↓X0,X1,Nat.reduceEqDiff,Int.reduceEq,Nat.reduceAdd,Nat.reduceSub,Zq,hld]);with_reducible first|done|exact rfl|exact bT|exact bF))|apply Zf|apply Zj|with_reducible apply Zk|simp only[↓X3]|with_reducible apply Zb));try(with_reducible apply Zm;case h=>((try simp(disch:=omega)only[X1,Nat.reduceEqDiff,Zq,hld]);with_reducible exact rfl)))
   refine Wp.bslS sz12 (by decide +kernel) (by decide +kernel) (by decide) (by decide +kernel) (by simp [strsOf]) ?_
   intro xs H5 z1 z2 s5 z3
   ((repeat(first|((with_reducible first|apply Wp.gs|apply Wp.cs|apply Zc|apply Zg|apply Zd|apply Zi|apply Zn|apply Wp.step);case h=>((try simp(disch:=omega)only[↓reduceIte,Za,↓X0,X1,Nat.reduceEqDiff,Int.reduceEq,Nat.reduceAdd,Nat.reduceSub,Zq]);with_reducible first|done|exact rfl|exact bT|exact bF))|apply Zf|apply Zj|with_reducible apply Zk|simp only[↓X3]|with_reducible apply Zb));try(with_reducible apply Zm;case h=>((try simp(disch:=omega)only[X1,Nat.reduceEqDiff,Zq]);with_reducible exact rfl)))
   refine Yh (k58 (c3.mv (by omega) (fun i hi=>s5 _ (by omega))) (z3.lst (by omega)) (z3.off (by omega)) z1) ?_
   rintro _ H4 n4 q4 s4 c4 ⟨a,rfl,ha⟩
   have ha:=z2 a ha
   simp only [sz12,decide_eq_true_eq] at ha
   have hld4:ld false 1 (ptr (n+3) 1) H4=some ul:=ld_cell (by rw [s4 _ (by omega) (by omega),s5 _ (by omega)]; exact hp3) rfl
   have hst:=hg ⟨li[j].op,li[j].n,li[j].i,a⟩ 3 (by omega) (.string a) rfl rfl H4 (by rw [s4 _ (by omega) (by omega),s5 _ (by omega)])
   (repeat(first|((with_reducible first|apply Wp.gs|apply Wp.cs|apply Zc|apply Zg|apply Zd|apply Zi|apply Zn|apply Wp.step);case h=>((try simp(disch:=omega)only[↓reduceIte,Za,↓X0,X1,Nat.reduceEqDiff,Int.reduceEq,Nat.reduceAdd,Nat.reduceSub,hld4,hx,hst]);with_reducible first|done|exact rfl|exact bT|exact bF))|apply Zf|apply Zj|with_reducible apply Zk|simp only[↓X3]|with_reducible apply Zb))
   exact Wp.pure ⟨by simp only; omega,fun i h1 h2=>by simp (disch:=omega) only [Ze,s4,s5,hlo],c4.mv (by simp only; omega) (fun i hi=>Ze _ _ (by omega)),by simp [Zl],by simp [Zl],by simp (disch:=omega) only [Ze,s4,s5,hp0],u,ul,ud,by simp (disch:=omega) only [Ze,s4,s5,hp3],l,_,dl,New3.edit d1 d2 d3 a1 (by simp only; omega) b1 (by simp only; omega) e1 (by simp only; omega) (p1.mv (by rw [s4 _ (by omega) (by omega),s5 _ (by omega)])) (p3.mv (by rw [s4 _ (by omega) (by omega),s5 _ (by omega)])) _ _ hul,hB.set _ (by simp only; omega)⟩
  rw [decide_eq_false r3]
  ((repeat(first|((with_reducible first|apply Wp.gs|apply Wp.cs|apply Zc|apply Zg|apply Zd|apply Zi|apply Zn|apply Wp.step);case h=>((try simp(disch:=omega)only[↓reduceIte,Za,↓X0,X1,Nat.reduceEqDiff,Int.reduceEq,Nat.reduceAdd,Nat.reduceSub]);with_reducible first|done|exact rfl|exact bT|exact bF))|apply Zf|apply Zj|with_reducible apply Zk|simp only[↓X3]|with_reducible apply Zb));try(with_reducible apply Zm;case h=>((try simp(disch:=omega)only[X1,Nat.reduceEqDiff]);with_reducible exact rfl)))
  by_cases r4:r=4
  ·rw [decide_eq_true r4]
   have hld:ld false 1 (ptr (n+3) 2) H3=some ud:=ld_cell hp3 rfl
   ((repeat(first|((with_reducible first|apply Wp.gs|apply Wp.cs|apply Zc|apply Zg|apply Zd|apply Zi|apply Zn|apply Wp.step);case h=>((try simp(disch:=omega)only[↓reduceIte,Za,↓X0,X1,Nat.reduceEqDiff,Int.reduceEq,Nat.reduceAdd,Nat.reduceSub,Zq,hld]);with_reducible first|done|exact rfl|exact bT|exact bF))|apply Zf|apply Zj|with_reducible apply Zk|simp only[↓X3]|with_reducible apply Zb));try(with_reducible apply Zm;case h=>((try simp(disch:=omega)only[X1,Nat.reduceEqDiff,Zq,hld]);with_reducible exact rfl)))
   refine Wp.bslS sz12 (by decide +kernel) (by decide +kernel) (by decide) (by decide +kernel) (by simp [strsOf]) ?_
   intro xs H4 z1 z2 s4 z3
   ((repeat(first|((with_reducible first|apply Wp.gs|apply Wp.cs|apply Zc|apply Zg|apply Zd|apply Zi|apply Zn|apply Wp.step);case h=>((try simp(disch:=omega)only[↓reduceIte,Za,↓X0,X1,Nat.reduceEqDiff,Int.reduceEq,Nat.reduceAdd,Nat.reduceSub,Zq]);with_reducible first|done|exact rfl|exact bT|exact bF))|apply Zf|apply Zj|with_reducible apply Zk|simp only[↓X3]|with_reducible apply Zb));try(with_reducible apply Zm;case h=>((try simp(disch:=omega)only[X1,Nat.reduceEqDiff,Zq]);with_reducible exact rfl)))
   refine Yh (k58 (c3.mv (by omega) (fun i hi=>s4 _ (by omega))) (z3.lst (by omega)) (z3.off (by omega)) z1) ?_
   rintro _ H5 n5 q5 s5 c5 ⟨x,rfl,hx5⟩
   have hx5:=z2 x hx5
   simp only [sz12,decide_eq_true_eq] at hx5
   have hp5:H5 (n+3)=some (.row [u,ul,ud] 0 true):=by rw [s5 _ (by omega) (by omega),s4 _ (by omega)]; exact hp3
   have hld5:ld false 1 (ptr (n+3) 2) H5=some ud:=ld_cell hp5 rfl
   ((repeat(first|((with_reducible first|apply Wp.gs|apply Wp.cs|apply Zc|apply Zg|apply Zd|apply Zi|apply Zn|apply Wp.step);case h=>((try simp(disch:=omega)only[↓reduceIte,Za,↓X0,X1,Nat.reduceEqDiff,Int.reduceEq,Nat.reduceAdd,Nat.reduceSub,Zq,hld5]);with_reducible first|done|exact rfl|exact bT|exact bF))|apply Zf|apply Zj|with_reducible apply Zk|simp only[↓X3]|with_reducible apply Zb));try(with_reducible apply Zm;case h=>((try simp(disch:=omega)only[X1,Nat.reduceEqDiff,Zq,hld5]);with_reducible exact rfl)))
   refine Yh (k38 (c5.up (by omega)) 60) ?_
   rintro _ H6 n6 q6 s6 c6 ⟨a,rfl,-,-⟩
   have hp6:H6 (n+3)=some (.row [u,ul,ud] 0 true):=by rw [s6 _ (by omega) (by omega)]; exact hp5
   have hld6:ld false 1 (ptr (n+3) 2) H6=some ud:=ld_cell hp6 rfl
   ((repeat(first|((with_reducible first|apply Wp.gs|apply Wp.cs|apply Zc|apply Zg|apply Zd|apply Zi|apply Zn|apply Wp.step);case h=>((try simp(disch:=omega)only[↓reduceIte,Za,↓X0,X1,Nat.reduceEqDiff,Int.reduceEq,Nat.reduceAdd,Nat.reduceSub,Zq,hld6]);with_reducible first|done|exact rfl|exact bT|exact bF))|apply Zf|apply Zj|with_reducible apply Zk|simp only[↓X3]|with_reducible apply Zb));try(with_reducible apply Zm;case h=>((try simp(disch:=omega)only[X1,Nat.reduceEqDiff,Zq,hld6]);with_reducible exact rfl)))
   refine Yh (k38 (c6.up (by omega)) 6) ?_
   rintro _ H7 n7 q7 s7 c7 ⟨b,rfl,-,-⟩
   have hp7:H7 (n+3)=some (.row [u,ul,ud] 0 true):=by rw [s7 _ (by omega) (by omega)]; exact hp6
   have hM7:∀ i,i < n3→i≠c→H7 i=H3 i:=fun i h1 h2=>by rw [s7 _ (by omega) h2,s6 _ (by omega) h2,s5 _ (by omega) h2,s4 _ (by omega)]
   have hbl:bsl (n3+20) 3 1 [.string ⟨#[]⟩,.int .i64 0,.int .i64 0] [(0,3,.agg ⟨[.string x,.int .i64 a,.int .i64 b]⟩)] H7=some (sl (n3+20) 0 1,H7.set (n3+20) (some (.row [.string x,.int .i64 a,.int .i64 b] 3 true))):=bsl_one eDef ⟨x,a,b⟩ _ _ _ _ rfl rfl (by decide)
   ((repeat(first|((with_reducible first|apply Wp.gs|apply Wp.cs|apply Zc|apply Zg|apply Zd|apply Zi|apply Zn|apply Wp.step);case h=>((try simp(disch:=omega)only[↓reduceIte,Za,↓X0,X1,Nat.reduceEqDiff,Int.reduceEq,Nat.reduceAdd,Nat.reduceSub,X2,Ze,Nat.reduceLeDiff,hp7,hbl]);with_reducible first|done|exact rfl|exact bT|exact bF))|apply Zf|apply Zj|with_reducible apply Zk|simp only[↓X3]|with_reducible apply Zb));try(with_reducible apply Zm;case h=>((try simp(disch:=omega)only[X1,Nat.reduceEqDiff,hp7,hbl]);with_reducible exact rfl)))
   refine Wp.app1 (E:=eDef) ⟨x,a,b⟩ (p3.mv (hM7 _ (by omega) (by omega))) (by omega) (by decide) (by have:=hB.b3; omega) ?_
   intro H8 z4 z5
   have hp8:H8 (n+3)=some (.row [u,ul,ud] 0 true):=by rw [z5 _ (by omega) (by omega) (by omega)]; exact hp7
   (repeat(first|((with_reducible first|apply Wp.gs|apply Wp.cs|apply Zc|apply Zg|apply Zd|apply Zi|apply Zn|apply Wp.step);case h=>((try simp(disch:=omega)only[↓reduceIte,Za,↓X0,X1,Nat.reduceEqDiff,Int.reduceEq,Nat.reduceAdd,Nat.reduceSub,X2,Ze,Nat.reduceLeDiff,hp8]);with_reducible first|done|exact rfl|exact bT|exact bF))|apply Zf|apply Zj|with_reducible apply Zk|simp only[↓X3]|with_reducible apply Zb))
   refine Wp.pure ⟨by simp only; omega,fun i h1 h2=>by simp (disch:=omega) only [Ze,z5,hM7,hlo],c7.mv (by simp only; omega) (fun i hi=>by simp (disch:=omega) only [Ze,z5]),by simp [Zl],by simp [Zl],by simp (disch:=omega) only [Ze,z5,hM7,hp0],u,ul,_,Zh _ _ _,l,li,dl++[⟨x,a,b⟩],⟨i,il,n3+21,d1,by omega,by omega,a1,by simp only; omega,b1,by simp only; omega,by omega,by simp only; omega,p1.mv (by simp (disch:=omega) only [Ze,z5,hM7]),.inr ⟨hul,by simp (disch:=omega) only [Ze,z5,hM7,prow]⟩,.inr ⟨rfl,(Ze _ _ (by omega)).trans z4⟩⟩,hB.a1,hB.a2,?_,hB.b1,hB.b2,?_⟩
   ·intro y hy
    rcases List.mem_append.1 hy with hy | hy
    ·exact hB.a3 y hy
    ·simp only [List.mem_cons,List.not_mem_nil,or_false] at hy
     rw [hy]; simp only; omega
   ·have h30:dl.length≤20:=hB3
    rw [List.length_append]
    show dl.length+1≤30
    omega
  rw [decide_eq_false r4]
  ((repeat(first|((with_reducible first|apply Wp.gs|apply Wp.cs|apply Zc|apply Zg|apply Zd|apply Zi|apply Zn|apply Wp.step);case h=>((try simp(disch:=omega)only[↓reduceIte,Za,↓X0,X1,Nat.reduceEqDiff,Int.reduceEq,Nat.reduceAdd,Nat.reduceSub]);with_reducible first|done|exact rfl|exact bT|exact bF))|apply Zf|apply Zj|with_reducible apply Zk|simp only[↓X3]|with_reducible apply Zb));try(with_reducible apply Zm;case h=>((try simp(disch:=omega)only[X1,Nat.reduceEqDiff]);with_reducible exact rfl)))
  by_cases r5:r=5
  ·rw [decide_eq_true r5]
   ((repeat(first|((with_reducible first|apply Wp.gs|apply Wp.cs|apply Zc|apply Zg|apply Zd|apply Zi|apply Zn|apply Wp.step);case h=>((try simp(disch:=omega)only[↓reduceIte,Za,↓X0,X1,Nat.reduceEqDiff,Int.reduceEq,Nat.reduceAdd,Nat.reduceSub,Zq]);with_reducible first|done|exact rfl|exact bT|exact bF))|apply Zf|apply Zj|with_reducible apply Zk|simp only[↓X3]|with_reducible apply Zb));try(with_reducible apply Zm;case h=>((try simp(disch:=omega)only[X1,Nat.reduceEqDiff,Zq]);with_reducible exact rfl)))
   refine Yh (k39 (c3.up (by omega))) ?_
   rintro _ H4 n4 q4 s4 c4 ⟨u2,l2,rfl,hsh,hl2,k,k1,k2,k3⟩
   have hp4:H4 (n+3)=some (.row [u,ul,ud] 0 true):=by rw [s4 _ (by omega) (by omega)]; exact hp3
   (repeat(first|((with_reducible first|apply Wp.gs|apply Wp.cs|apply Zc|apply Zg|apply Zd|apply Zi|apply Zn|apply Wp.step);case h=>((try simp(disch:=omega)only[↓reduceIte,Za,↓X0,X1,Nat.reduceEqDiff,Int.reduceEq,Nat.reduceAdd,Nat.reduceSub,X2,Ze,Nat.reduceLeDiff,hp4]);with_reducible first|done|exact rfl|exact bT|exact bF))|apply Zf|apply Zj|with_reducible apply Zk|simp only[↓X3]|with_reducible apply Zb))
   exact Wp.pure ⟨by simp only; omega,fun i h1 h2=>by simp (disch:=omega) only [Ze,s4,hlo],c4.mv (by simp only; omega) (fun i hi=>Ze _ _ (by omega)),by simp [Zl],by simp [Zl],by simp (disch:=omega) only [Ze,s4,hp0],u2,ul,ud,Zh _ _ _,l2,li,dl,⟨k,il,id,by omega,by omega,d3,by omega,by simp only; omega,b1,by simp only; omega,e1,by simp only; omega,k3.mv (Ze _ _ (by omega)),.inr ⟨hul,by simp (disch:=omega) only [Ze,s4,prow]⟩,p3.mv (by simp (disch:=omega) only [Ze,s4])⟩,fun x hx=>by have:=hsh x hx; omega,hB.a2,hB.a3,by omega,hB.b2,hB.b3⟩
  ·rw [decide_eq_false r5]
   (repeat(first|((with_reducible first|apply Wp.gs|apply Wp.cs|apply Zc|apply Zg|apply Zd|apply Zi|apply Zn|apply Wp.step);case h=>((try simp(disch:=omega)only[↓reduceIte,Za,↓X0,X1,Nat.reduceEqDiff,Int.reduceEq,Nat.reduceAdd,Nat.reduceSub]);with_reducible first|done|exact rfl|exact bT|exact bF))|apply Zf|apply Zj|with_reducible apply Zk|simp only[↓X3]|with_reducible apply Zb))
   exact Wp.pure ⟨by simp only; omega,hlo,c3.up (by simp only; omega),by simp [Zl],by simp [Zl],hp0,u,ul,ud,hp3,l,li,dl,⟨i,il,id,d1,d2,d3,a1,by simp only; omega,b1,by simp only; omega,e1,by simp only; omega,p1,.inr ⟨hul,prow⟩,p3⟩,hB⟩
 ·rintro ⟨oe,oT,oH,on⟩ ⟨f1,f2,f3,t2,t3,f4,a,al,ad,f5,l',li',ld',f6,f7⟩
  simp only at f1 f2 f3 t2 t3 f4 f5 f6
  (repeat(first|((with_reducible first|apply Wp.gs|apply Wp.cs|apply Zc|apply Zg|apply Zd|apply Zi|apply Zn|apply Wp.step);case h=>((try simp(disch:=omega)only[↓reduceIte,Za,↓X0,X1,Nat.reduceEqDiff,Int.reduceEq,Nat.reduceAdd,Nat.reduceSub,X2,Ze,Nat.reduceLeDiff,t2,t3,f5,f4]);with_reducible first|done|exact rfl|exact bT|exact bF))|apply Zf|apply Zj|with_reducible apply Zk|simp only[↓X3]|with_reducible apply Zb))
  exact Wp.pure ⟨by simp only; omega,fun i h1 h2=>(Ze _ _ (by omega)).trans (f2 i h1 h2),f3.mv (by simp only; omega) (fun i hi=>Ze _ _ (by omega)),a,al,ad,rfl,l',li',ld',(f6.mv (by simp only; omega) (fun i h1 h2=>Ze _ _ (by omega))).lo (by omega),f7⟩
end Go.Proofs.Ytbgkimkbngocjaa.Ax
set_option linter.unusedVariables false
set_option linter.unusedSimpArgs false
set_option maxHeartbeats 4000000
namespace Go.Proofs.Ytbgkimkbngocjaa.Ax
open Go
theorem DrawnC.mv {lo lo' n m:Nat} {H H':Hp} {u ul ud:Value} (h:DrawnC lo n H u ul ud) (hl:lo'≤lo) (hm:n≤m) (hs:∀ i,lo≤i→i < n→H' i=H i):DrawnC lo' m H' u ul ud:=by
 obtain ⟨l,li,ld,h1,h2⟩:=h
 exact ⟨l,li,ld,(h1.mv hm hs).lo hl,h2⟩
theorem k16 {n:Nat} {H:Hp} {v:Value} {code:List Int} (hv:Li eByte n H v code) (hb:∀ x∈code,0≤x∧x≤255) (hl:code.length≤1048576):RtN Try.prog 16 [v] H n (fun r H' n'=>∃ u ul ud s,r=.tuple ⟨[.agg ⟨[u,ul,ud]⟩,.string s]⟩∧s.size≤12∧DrawnC n n' H' u ul ud):=by
 apply RtN.mk
 rw [c16]; unfold S16
 ((repeat(first|((with_reducible first|apply Wp.gs|apply Wp.cs|apply Zc|apply Zg|apply Zd|apply Zi|apply Zn|apply Wp.step);case h=>((try simp(disch:=omega)only[↓reduceIte,Za,↓X0,X1,Nat.reduceEqDiff,Int.reduceEq,Nat.reduceAdd,Nat.reduceSub,X2,Ze,Nat.reduceLeDiff]);with_reducible first|done|exact rfl|exact bT|exact bF))|apply Zf|apply Zj|with_reducible apply Zk|simp only[↓X3]|with_reducible apply Zb));try(with_reducible apply Zm;case h=>((try simp(disch:=omega)only[X1,Nat.reduceEqDiff]);with_reducible exact rfl)))
 refine Wp.rnew (k33 (hv.mv (by omega) (by intros;first|with_reducible rfl|simp(disch:=omega)only[Ze,Zh])) hb hl) ?_
 intro c H1 n1 hc1 hcn s1 c1
 ((repeat(first|((with_reducible first|apply Wp.gs|apply Wp.cs|apply Zc|apply Zg|apply Zd|apply Zi|apply Zn|apply Wp.step);case h=>((try simp(disch:=omega)only[↓reduceIte,Za,↓X0,X1,Nat.reduceEqDiff,Int.reduceEq,Nat.reduceAdd,Nat.reduceSub]);with_reducible first|done|exact rfl|exact bT|exact bF))|apply Zf|apply Zj|with_reducible apply Zk|simp only[↓X3]|with_reducible apply Zb));try(with_reducible apply Zm;case h=>((try simp(disch:=omega)only[X1,Nat.reduceEqDiff]);with_reducible exact rfl)))
 refine Yh (k57 (c1.up (by omega))) ?_
 rintro _ H2 n2 q2 s2 c2 ⟨u,ul,ud,rfl,hD⟩
 ((repeat(first|((with_reducible first|apply Wp.gs|apply Wp.cs|apply Zc|apply Zg|apply Zd|apply Zi|apply Zn|apply Wp.step);case h=>((try simp(disch:=omega)only[↓reduceIte,Za,↓X0,X1,Nat.reduceEqDiff,Int.reduceEq,Nat.reduceAdd,Nat.reduceSub,X2,Ze,Nat.reduceLeDiff]);with_reducible first|done|exact rfl|exact bT|exact bF))|apply Zf|apply Zj|with_reducible apply Zk|simp only[↓X3]|with_reducible apply Zb));try(with_reducible apply Zm;case h=>((try simp(disch:=omega)only[X1,Nat.reduceEqDiff]);with_reducible exact rfl)))
 refine Wp.bslS sz12 (by decide +kernel) (by decide +kernel) (by decide) (by decide +kernel) (by simp [strsOf]) ?_
 intro xs H3 z1 z2 s3 z3
 have hc2:=c2.1
 have hb3:H3 (n1+2)=some (.row [u,ul,ud] 0 true):=by rw [s3 _ (by omega),Zh]
 have c3:Cu c (n2+6) H3:=c2.mv (by omega) (fun i hi=>by rw [s3 _ (by omega),Ze _ _ (by omega)])
 ((repeat(first|((with_reducible first|apply Wp.gs|apply Wp.cs|apply Zc|apply Zg|apply Zd|apply Zi|apply Zn|apply Wp.step);case h=>((try simp(disch:=omega)only[↓reduceIte,Za,↓X0,X1,Nat.reduceEqDiff,Int.reduceEq,Nat.reduceAdd,Nat.reduceSub]);with_reducible first|done|exact rfl|exact bT|exact bF))|apply Zf|apply Zj|with_reducible apply Zk|simp only[↓X3]|with_reducible apply Zb));try(with_reducible apply Zm;case h=>((try simp(disch:=omega)only[X1,Nat.reduceEqDiff]);with_reducible exact rfl)))
 refine Yh (k58 c3 (z3.lst (by omega)) (z3.off (by omega)) z1) ?_
 rintro _ H4 n4 q4 s4 c4 ⟨s,rfl,hs⟩
 have hs:=z2 s hs
 simp only [sz12,decide_eq_true_eq] at hs
 have hb4:H4 (n1+2)=some (.row [u,ul,ud] 0 true):=by rw [s4 _ (by omega) (by omega)]; exact hb3
 have hp4:H4 n=some (.row [nilS,nilS,nilS] 0 true):=by rw [s4 _ (by omega) (by omega),s3 _ (by omega),Ze _ _ (by omega),s2 _ (by omega) (by omega),s1 _ (by omega),Zh]
 (repeat(first|((with_reducible first|apply Wp.gs|apply Wp.cs|apply Zc|apply Zg|apply Zd|apply Zi|apply Zn|apply Wp.step);case h=>((try simp(disch:=omega)only[↓reduceIte,Za,↓X0,X1,Nat.reduceEqDiff,Int.reduceEq,Nat.reduceAdd,Nat.reduceSub,X2,Ze,Nat.reduceLeDiff,hb4,hp4]);with_reducible first|done|exact rfl|exact bT|exact bF))|apply Zf|apply Zj|with_reducible apply Zk|simp only[↓X3]|with_reducible apply Zb))
 exact Wp.pure ⟨by simp only; omega,fun i hi=>by simp (disch:=omega) only [Ze,s4,s3,s2,s1],u,ul,ud,s,rfl,hs,hD.mv (by omega) (by simp only; omega) (fun i h1 h2=>by simp (disch:=omega) only [Ze,s4,s3])⟩
end Go.Proofs.Ytbgkimkbngocjaa.Ax
