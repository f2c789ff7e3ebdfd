/- What the law needs: laws of the abstract machine, and contracts of functions. -/
import Derived.Test.YtbgkimkbngocjaaM5
import Derived.Test.YtbgkimkbngocjaaM6
import Derived.Test.YtbgkimkbngocjaaM3
set_option linter.unusedVariables false
set_option linter.unusedSimpArgs false
set_option maxHeartbeats 4000000
namespace Go.Proofs.Ytbgkimkbngocjaa.Ax
open Go
def DfOk (m:Int) (ld:List Df) (j:Nat):Prop:=nameOk (gi ld (j:Int)).s=true∧defOf ld (gi ld (j:Int)).s=j∧(0≤(gi ld (j:Int)).at_∧(gi ld (j:Int)).at_≤m - 1)∧(0≤(gi ld (j:Int)).args∧(gi ld (j:Int)).args≤4)
instance (m:Int) (ld:List Df) (j:Nat):Decidable (DfOk m ld j):=by unfold DfOk; infer_instance
def InsAll (k:Int) (li:List Ins):Prop:=∀ j:Nat,j < li.length→InsOk (gi li (j:Int)) k li.length j
def DfAll (m:Int) (ld:List Df):Prop:=∀ j:Nat,j < ld.length→DfOk m ld j
instance (k:Int) (li:List Ins):Decidable (InsAll k li):=by unfold InsAll; infer_instance
instance (m:Int) (ld:List Df):Decidable (DfAll m ld):=by unfold DfAll; infer_instance
def CodeOk (l:List Nd) (li:List Ins) (ld:List Df):Prop:=PoolOk l∧li.length≤400∧ld.length≤20∧InsAll l.length li∧DfAll li.length ld
instance (l:List Nd) (li:List Ins) (ld:List Df):Decidable (CodeOk l li ld):=by unfold CodeOk; infer_instance
section
variable {n0 b:Nat} {H0:Hp} {v vl vd:Value} {l:List Nd} {li:List Ins} {ld:List Df}
theorem l012 (hb:H0 b=some (.row [v,vl,vd] 0 true)) (hbn:b < n0) (hv:Li eNode n0 H0 v l) (hl:l.length≤1048576) (hvl:Li eIns n0 H0 vl li) (hli:li.length≤400) (hsz:∀ x∈li,x.s.size≤1048576):∀ t H n,n0≤n→(∀ i,i < n0→H i=H0 i)→t 1=ptr b 0→t 24=.int .i64 li.length→t 25=.int .i64 0 →
  Wp (Yf (S12L0 (Call Try.prog) Yf) t H n) (fun o=>n≤o.n∧(∀ i,i < n0→o.H i=H0 i)∧((o.e=.exit 0∧o.t 1=ptr b 0∧InsAll l.length li)∨(o.e=.ret∧o.t 2=.bool false∧¬ InsAll l.length li))):=by
 intro t H n hn0 s0 e1 e24 e25
 refine Loop_rule (fun d T H' n'=>∃ j:Nat,j+d=li.length∧n≤n'∧(∀ i,i < n0→H' i=H0 i)∧T 1=ptr b 0∧T 24=.int .i64 li.length∧T 25=.int .i64 j∧∀ q:Nat,q < j→InsOk (gi li (q:Int)) l.length li.length q) _ ?_ li.length t H n ⟨0,by omega,by omega,s0,e1,e24,e25,fun q hq=>by omega⟩
 rintro d T H' n' ⟨j,hj,hn,s1,e1,e24,e25,hall⟩
 unfold S12L0
 by_cases hlt:j < li.length
 ·have hlti:(j:Int) < li.length:=by omega
  have hw:=wj (j:=j) (len:=li.length) hlt (by omega)
  have hb':H' b=some (.row [v,vl,vd] 0 true):=by rw [s1 b hbn]; exact hb
  ((repeat(first|((with_reducible first|apply Wp.gs|apply Wp.cs|apply Zc|apply Zg|apply Zd|apply Zi|apply Wp.step);case h=>((try simp(disch:=omega)only[↓reduceIte,Za,↓X0,X1,Nat.reduceEqDiff,Int.reduceEq,Nat.reduceAdd,Nat.reduceSub,X2,Ze,Nat.reduceLeDiff,e1,e24,e25,hlti,hb']);with_reducible first|done|exact rfl|exact bT|exact bF))|apply Zf|apply Zj|with_reducible apply Zk|simp only[↓X3]|with_reducible apply Zb));try(with_reducible apply Zm;case h=>((try simp(disch:=omega)only[X1,Nat.reduceEqDiff,e1,e24,e25,hlti,hb']);with_reducible exact rfl)))
  refine Wp.rt (k54 (hv.mv (by omega) (by intros;first|with_reducible rfl|simp(disch:=omega)only[Ze,Zh,s1])) hl (hvl.mv (by omega) (by intros;first|with_reducible rfl|simp(disch:=omega)only[Ze,Zh,s1])) hli hsz hlt) ?_
  intro H1 n1 q1 s2
  by_cases hok:InsOk (gi li (j:Int)) l.length li.length j
  ·(repeat(first|((with_reducible first|apply Wp.gs|apply Wp.cs|apply Zc|apply Zg|apply Zd|apply Zi|apply Wp.step);case h=>((try simp(disch:=omega)only[↓reduceIte,Za,↓X0,X1,Nat.reduceEqDiff,Int.reduceEq,Nat.reduceAdd,Nat.reduceSub,X2,Ze,Nat.reduceLeDiff,e25,hok,hw]);with_reducible first|done|exact rfl|exact bT|exact bF))|apply Zf|apply Zj|with_reducible apply Zk|simp only[↓X3]|with_reducible apply Zb))
   refine Wp.pure (Nxt.go (d - 1) (by omega) ⟨j+1,by omega,by omega,(by intros;first|with_reducible rfl|simp(disch:=omega)only[Ze,Zh,s2,s1]),by simp [Zl,e1],by simp [Zl,e24],by simp [Zl],fun q hq=>?_⟩)
   by_cases hqj:q=j
   ·subst hqj; exact hok
   ·exact hall q (by omega)
  ·(repeat(first|((with_reducible first|apply Wp.gs|apply Wp.cs|apply Zc|apply Zg|apply Zd|apply Zi|apply Wp.step);case h=>((try simp(disch:=omega)only[↓reduceIte,Za,↓X0,X1,Nat.reduceEqDiff,Int.reduceEq,Nat.reduceAdd,Nat.reduceSub,X2,Ze,Nat.reduceLeDiff,e25,hok,hw]);with_reducible first|done|exact rfl|exact bT|exact bF))|apply Zf|apply Zj|with_reducible apply Zk|simp only[↓X3]|with_reducible apply Zb))
   exact Wp.pure (Nxt.ret ⟨by simp only; omega,(by intros;first|with_reducible rfl|simp(disch:=omega)only[Ze,Zh,s2,s1]),.inr ⟨rfl,by simp [Zl],fun h=>hok (h j hlt)⟩⟩)
 ·have hlti:¬ (j:Int) < li.length:=by omega
  (repeat(first|((with_reducible first|apply Wp.gs|apply Wp.cs|apply Zc|apply Zg|apply Zd|apply Zi|apply Wp.step);case h=>((try simp(disch:=omega)only[↓reduceIte,Za,↓X0,X1,Nat.reduceEqDiff,Int.reduceEq,Nat.reduceAdd,Nat.reduceSub,e24,e25,hlti]);with_reducible first|done|exact rfl|exact bT|exact bF))|apply Zf|apply Zj|with_reducible apply Zk|simp only[↓X3]|with_reducible apply Zb))
  exact Wp.pure (Nxt.exit ⟨by simp only; omega,s1,.inl ⟨rfl,by simp [Zl,e1],fun q hq=>hall q (by omega)⟩⟩)
theorem l014 (hb:H0 b=some (.row [v,vl,vd] 0 true)) (hbn:b < n0) (hv:Li eNode n0 H0 v l) (hl:l.length≤1048576) (hvl:Li eIns n0 H0 vl li) (hli:li.length≤400) (hsz:∀ x∈li,x.s.size≤1048576):∀ t H n,n0≤n→(∀ i,i < n0→H i=H0 i)→t 1=ptr b 0→t 3=.int .i64 0 →
  Wp (Yf (S14L0 (Call Try.prog) Yf) t H n) (fun o=>n≤o.n∧(∀ i,i < n0→o.H i=H0 i)∧((o.e=.exit 0∧o.t 1=ptr b 0∧InsAll l.length li)∨(o.e=.ret∧o.t 2=.bool false∧¬ InsAll l.length li))):=by
 intro t H n hn0 s0 e1 e3
 refine Loop_rule (fun d T H' n'=>∃ j:Nat,j+d=li.length∧n≤n'∧(∀ i,i < n0→H' i=H0 i)∧T 1=ptr b 0∧T 3=.int .i64 j∧∀ q:Nat,q < j→InsOk (gi li (q:Int)) l.length li.length q) _ ?_ li.length t H n ⟨0,by omega,by omega,s0,e1,e3,fun q hq=>by omega⟩
 rintro d T H' n' ⟨j,hj,hn,s1,e1,e3,hall⟩
 unfold S14L0
 have hb':H' b=some (.row [v,vl,vd] 0 true):=by rw [s1 b hbn]; exact hb
 have hlen:=hvl.len
 by_cases hlt:j < li.length
 ·have hlti:(j:Int) < li.length:=by omega
  have hw:=wj (j:=j) (len:=li.length) hlt (by omega)
  ((repeat(first|((with_reducible first|apply Wp.gs|apply Wp.cs|apply Zc|apply Zg|apply Zd|apply Zi|apply Wp.step);case h=>((try simp(disch:=omega)only[↓reduceIte,Za,↓X0,X1,Nat.reduceEqDiff,Int.reduceEq,Nat.reduceAdd,Nat.reduceSub,X2,Ze,Nat.reduceLeDiff,e1,e3,hlti,hb',hlen]);with_reducible first|done|exact rfl|exact bT|exact bF))|apply Zf|apply Zj|with_reducible apply Zk|simp only[↓X3]|with_reducible apply Zb));try(with_reducible apply Zm;case h=>((try simp(disch:=omega)only[X1,Nat.reduceEqDiff,e1,e3,hlti,hb',hlen]);with_reducible exact rfl)))
  refine Wp.rt (k59 (hv.mv (by omega) (by intros;first|with_reducible rfl|simp(disch:=omega)only[Ze,Zh,s1])) hl (hvl.mv (by omega) (by intros;first|with_reducible rfl|simp(disch:=omega)only[Ze,Zh,s1])) hli hsz hlt) ?_
  intro H1 n1 q1 s2
  by_cases hok:InsOk (gi li (j:Int)) l.length li.length j
  ·(repeat(first|((with_reducible first|apply Wp.gs|apply Wp.cs|apply Zc|apply Zg|apply Zd|apply Zi|apply Wp.step);case h=>((try simp(disch:=omega)only[↓reduceIte,Za,↓X0,X1,Nat.reduceEqDiff,Int.reduceEq,Nat.reduceAdd,Nat.reduceSub,X2,Ze,Nat.reduceLeDiff,e3,hok,hw]);with_reducible first|done|exact rfl|exact bT|exact bF))|apply Zf|apply Zj|with_reducible apply Zk|simp only[↓X3]|with_reducible apply Zb))
   refine Wp.pure (Nxt.go (d - 1) (by omega) ⟨j+1,by omega,by omega,(by intros;first|with_reducible rfl|simp(disch:=omega)only[Ze,Zh,s2,s1]),by simp [Zl,e1],by simp [Zl],fun q hq=>?_⟩)
   by_cases hqj:q=j
   ·subst hqj; exact hok
   ·exact hall q (by omega)
  ·(repeat(first|((with_reducible first|apply Wp.gs|apply Wp.cs|apply Zc|apply Zg|apply Zd|apply Zi|apply Wp.step);case h=>((try simp(disch:=omega)only[↓reduceIte,Za,↓X0,X1,Nat.reduceEqDiff,Int.reduceEq,Nat.reduceAdd,Nat.reduceSub,X2,Ze,Nat.reduceLeDiff,e3,hok,hw]);with_reducible first|done|exact rfl|exact bT|exact bF))|apply Zf|apply Zj|with_reducible apply Zk|simp only[↓X3]|with_reducible apply Zb))
   exact Wp.pure (Nxt.ret ⟨by simp only; omega,(by intros;first|with_reducible rfl|simp(disch:=omega)only[Ze,Zh,s2,s1]),.inr ⟨rfl,by simp [Zl],fun h=>hok (h j hlt)⟩⟩)
 ·have hlti:¬ (j:Int) < li.length:=by omega
  (repeat(first|((with_reducible first|apply Wp.gs|apply Wp.cs|apply Zc|apply Zg|apply Zd|apply Zi|apply Wp.step);case h=>((try simp(disch:=omega)only[↓reduceIte,Za,↓X0,X1,Nat.reduceEqDiff,Int.reduceEq,Nat.reduceAdd,Nat.reduceSub,X2,Ze,Nat.reduceLeDiff,e1,e3,hlti,hb',hlen]);with_reducible first|done|exact rfl|exact bT|exact bF))|apply Zf|apply Zj|with_reducible apply Zk|simp only[↓X3]|with_reducible apply Zb))
  exact Wp.pure (Nxt.exit ⟨by simp only; omega,s1,.inl ⟨rfl,by simp [Zl,e1],fun q hq=>hall q (by omega)⟩⟩)
theorem lb12 (hb:H0 b=some (.row [v,vl,vd] 0 true)) (hbn:b < n0) (hvl:Li eIns n0 H0 vl li) (hli:li.length≤400) (hvd:Li eDef n0 H0 vd ld) (hld:ld.length≤20) (hsz:∀ x∈ld,x.s.size≤1048576):∀ t H n,n0≤n→(∀ i,i < n0→H i=H0 i)→t 1=ptr b 0→t 34=vd→t 35=.int .i64 ld.length→t 36=.int .i64 0 →
  Wp (Yf (S12L1 (Call Try.prog) Yf) t H n) (fun o=>n≤o.n∧(∀ i,i < n0→o.H i=H0 i)∧((o.e=.exit 2∧DfAll li.length ld)∨(o.e=.ret∧o.t 2=.bool false∧¬ DfAll li.length ld))):=by
 intro t H n hn0 s0 e1 e34 e35 e36
 refine Loop_rule (fun d T H' n'=>∃ j:Nat,j+d=ld.length∧n≤n'∧(∀ i,i < n0→H' i=H0 i)∧T 1=ptr b 0∧T 34=vd∧T 35=.int .i64 ld.length∧T 36=.int .i64 j∧∀ q:Nat,q < j→DfOk li.length ld q) _ ?_ ld.length t H n ⟨0,by omega,by omega,s0,e1,e34,e35,e36,fun q hq=>by omega⟩
 rintro d T H' n' ⟨j,hj,hn,s1,e1,e34,e35,e36,hall⟩
 unfold S12L1
 have hb':H' b=some (.row [v,vl,vd] 0 true):=by rw [s1 b hbn]; exact hb
 by_cases hlt:j < ld.length
 ·have hlti:(j:Int) < ld.length:=by omega
  have hw:=wj (j:=j) (len:=ld.length) hlt (by omega)
  have hw2:IntKind.i64.wrap ((li.length:Int) - 1)=(li.length:Int) - 1:=w64 (by omega)
  have g:=(hvd.mv (Nat.le_refl _) s1).dAll (i:=(j:Int)) (by omega) hlti
  have hx:=hsz _ (gi_mem (l:=ld) (i:=(j:Int)) (by omega) hlti)
  have hiff:DfOk li.length ld j↔(nameOk (gi ld (j:Int)).s=true∧defOf ld (gi ld (j:Int)).s=j∧(0≤(gi ld (j:Int)).at_∧(gi ld (j:Int)).at_≤(li.length:Int) - 1)∧(0≤(gi ld (j:Int)).args∧(gi ld (j:Int)).args≤4)):=Iff.rfl
  generalize gi ld (j:Int)=x at g hx hiff
  obtain ⟨xs,xa,xr⟩:=x
  simp only [Df.cells] at g hx hiff
  ((repeat(first|((with_reducible first|apply Wp.gs|apply Wp.cs|apply Zc|apply Zg|apply Zd|apply Zi|apply Wp.step);case h=>((try simp(disch:=omega)only[↓reduceIte,Za,↓X0,X1,Nat.reduceEqDiff,Int.reduceEq,Nat.reduceAdd,Nat.reduceSub,X2,Ze,Nat.reduceLeDiff,e1,e34,e35,e36,hlti,hb',g]);with_reducible first|done|exact rfl|exact bT|exact bF))|apply Zf|apply Zj|with_reducible apply Zk|simp only[↓X3]|with_reducible apply Zb));try(with_reducible apply Zm;case h=>((try simp(disch:=omega)only[X1,Nat.reduceEqDiff,e1,e34,e35,e36,hlti,hb',g]);with_reducible exact rfl)))
  refine Wp.rt (rNameOk xs hx _ _) ?_
  intro H1 n1 q1 s2
  have hret:∀ (T':Tm) (H2:Hp) (n2:Nat),n≤n2→(∀ i,i < n0→H2 i=H0 i)→T' 2=.bool false→¬ DfOk li.length ld j→Wp (some (⟨.ret,T',H2,n2⟩:Out)) (Nxt (fun d T H' n'=>∃ j:Nat,j+d=ld.length∧n≤n'∧(∀ i,i < n0→H' i=H0 i)∧T 1=ptr b 0∧T 34=vd∧T 35=.int .i64 ld.length∧T 36=.int .i64 j∧∀ q:Nat,q < j→DfOk li.length ld q) d (fun o=>n≤o.n∧(∀ i,i < n0→o.H i=H0 i)∧((o.e=.exit 2∧DfAll li.length ld)∨(o.e=.ret∧o.t 2=.bool false∧¬ DfAll li.length ld)))) :=
   fun T' H2 n2 a1 a2 a3 a4=>Wp.pure (Nxt.ret ⟨a1,a2,.inr ⟨rfl,a3,fun h=>a4 (h j hlt)⟩⟩)
  by_cases c1:nameOk xs=true
  case neg =>
   have c1':nameOk xs=false:=by simpa using c1
   ((repeat(first|((with_reducible first|apply Wp.gs|apply Wp.cs|apply Zc|apply Zg|apply Zd|apply Zi|apply Wp.step);case h=>((try simp(disch:=omega)only[↓reduceIte,Za,↓X0,X1,Nat.reduceEqDiff,Int.reduceEq,Nat.reduceAdd,Nat.reduceSub,X2,Ze,Nat.reduceLeDiff,c1',s2]);with_reducible first|done|exact rfl|exact bT|exact bF))|apply Zf|apply Zj|with_reducible apply Zk|simp only[↓X3]|with_reducible apply Zb));try(with_reducible apply Zm;case h=>((try simp(disch:=omega)only[X1,Nat.reduceEqDiff,c1',s2]);with_reducible exact rfl)))
   exact hret _ _ _ (by omega) ((by intros;first|with_reducible rfl|simp(disch:=omega)only[Ze,Zh,s2,s1])) (by simp [Zl]) (fun h=>c1 (hiff.1 h).1)
  ((repeat(first|((with_reducible first|apply Wp.gs|apply Wp.cs|apply Zc|apply Zg|apply Zd|apply Zi|apply Wp.step);case h=>((try simp(disch:=omega)only[↓reduceIte,Za,↓X0,X1,Nat.reduceEqDiff,Int.reduceEq,Nat.reduceAdd,Nat.reduceSub,X2,Ze,Nat.reduceLeDiff,c1,s2,e1,e36,hb',s1]);with_reducible first|done|exact rfl|exact bT|exact bF))|apply Zf|apply Zj|with_reducible apply Zk|simp only[↓X3]|with_reducible apply Zb));try(with_reducible apply Zm;case h=>((try simp(disch:=omega)only[X1,Nat.reduceEqDiff,c1,s2,e1,e36,hb',s1]);with_reducible exact rfl)))
  refine Wp.rt (k11 ((hvd.mv (by omega) (by intros;first|with_reducible rfl|simp(disch:=omega)only[Ze,Zh,s2,s1]))) (by omega) xs) ?_
  intro H3 n3 q3 s3
  by_cases c2:defOf ld xs=(j:Int)
  case neg =>
   ((repeat(first|((with_reducible first|apply Wp.gs|apply Wp.cs|apply Zc|apply Zg|apply Zd|apply Zi|apply Wp.step);case h=>((try simp(disch:=omega)only[↓reduceIte,Za,↓X0,X1,Nat.reduceEqDiff,Int.reduceEq,Nat.reduceAdd,Nat.reduceSub,X2,Ze,Nat.reduceLeDiff,c2,s2,s3,e1,e36]);with_reducible first|done|exact rfl|exact bT|exact bF))|apply Zf|apply Zj|with_reducible apply Zk|simp only[↓X3]|with_reducible apply Zb));try(with_reducible apply Zm;case h=>((try simp(disch:=omega)only[X1,Nat.reduceEqDiff,c2,s2,s3,e1,e36]);with_reducible exact rfl)))
   exact hret _ _ _ (by omega) ((by intros;first|with_reducible rfl|simp(disch:=omega)only[Ze,Zh,s3,s2,s1])) (by simp [Zl]) (fun h=>c2 (hiff.1 h).2.1)
  by_cases c3:0≤xa∧xa≤(li.length:Int) - 1
  case neg =>
   ((repeat(first|((with_reducible first|apply Wp.gs|apply Wp.cs|apply Zc|apply Zg|apply Zd|apply Zi|apply Wp.step);case h=>((try simp(disch:=omega)only[↓reduceIte,Za,↓X0,X1,Nat.reduceEqDiff,Int.reduceEq,Nat.reduceAdd,Nat.reduceSub,X2,Ze,Nat.reduceLeDiff,c2,s2,s3,e1,e36,hb',hvl.len,hw2,k56,c3]);with_reducible first|done|exact rfl|exact bT|exact bF))|apply Zf|apply Zj|with_reducible apply Zk|simp only[↓X3]|with_reducible apply Zb));try(with_reducible apply Zm;case h=>((try simp(disch:=omega)only[X1,Nat.reduceEqDiff,c2,s2,s3,e1,e36,hb',hvl.len,hw2,k56,c3]);with_reducible exact rfl)))
   exact hret _ _ _ (by omega) ((by intros;first|with_reducible rfl|simp(disch:=omega)only[Ze,Zh,s3,s2,s1])) (by simp [Zl]) (fun h=>c3 (hiff.1 h).2.2.1)
  by_cases c4:0≤xr∧xr≤4
  case neg =>
   ((repeat(first|((with_reducible first|apply Wp.gs|apply Wp.cs|apply Zc|apply Zg|apply Zd|apply Zi|apply Wp.step);case h=>((try simp(disch:=omega)only[↓reduceIte,Za,↓X0,X1,Nat.reduceEqDiff,Int.reduceEq,Nat.reduceAdd,Nat.reduceSub,X2,Ze,Nat.reduceLeDiff,c2,s2,s3,e1,e36,hb',hvl.len,hw2,k56,c3,c4,and_self]);with_reducible first|done|exact rfl|exact bT|exact bF))|apply Zf|apply Zj|with_reducible apply Zk|simp only[↓X3]|with_reducible apply Zb));try(with_reducible apply Zm;case h=>((try simp(disch:=omega)only[X1,Nat.reduceEqDiff,c2,s2,s3,e1,e36,hb',hvl.len,hw2,k56,c3,c4,and_self]);with_reducible exact rfl)))
   exact hret _ _ _ (by omega) ((by intros;first|with_reducible rfl|simp(disch:=omega)only[Ze,Zh,s3,s2,s1])) (by simp [Zl]) (fun h=>c4 (hiff.1 h).2.2.2)
  (repeat(first|((with_reducible first|apply Wp.gs|apply Wp.cs|apply Zc|apply Zg|apply Zd|apply Zi|apply Wp.step);case h=>((try simp(disch:=omega)only[↓reduceIte,Za,↓X0,X1,Nat.reduceEqDiff,Int.reduceEq,Nat.reduceAdd,Nat.reduceSub,X2,Ze,Nat.reduceLeDiff,c2,s2,s3,e1,e36,hb',hvl.len,hw2,k56,c3,c4,and_self,hw]);with_reducible first|done|exact rfl|exact bT|exact bF))|apply Zf|apply Zj|with_reducible apply Zk|simp only[↓X3]|with_reducible apply Zb))
  refine Wp.pure (Nxt.go (d - 1) (by omega) ⟨j+1,by omega,by omega,(by intros;first|with_reducible rfl|simp(disch:=omega)only[Ze,Zh,s3,s2,s1]),by simp [Zl,e1],by simp [Zl,e34],by simp [Zl,e35],by simp [Zl],fun q hq=>?_⟩)
  by_cases hqj:q=j
  ·subst hqj; exact hiff.2 ⟨c1,c2,c3,c4⟩
  ·exact hall q (by omega)
 ·have hlti:¬ (j:Int) < ld.length:=by omega
  (repeat(first|((with_reducible first|apply Wp.gs|apply Wp.cs|apply Zc|apply Zg|apply Zd|apply Zi|apply Wp.step);case h=>((try simp(disch:=omega)only[↓reduceIte,Za,↓X0,X1,Nat.reduceEqDiff,Int.reduceEq,Nat.reduceAdd,Nat.reduceSub,X2,Ze,Nat.reduceLeDiff,e35,e36,hlti]);with_reducible first|done|exact rfl|exact bT|exact bF))|apply Zf|apply Zj|with_reducible apply Zk|simp only[↓X3]|with_reducible apply Zb))
  exact Wp.pure (Nxt.exit ⟨by simp only; omega,s1,.inl ⟨rfl,fun q hq=>hall q (by omega)⟩⟩)
theorem lb14 (hb:H0 b=some (.row [v,vl,vd] 0 true)) (hbn:b < n0) (hvl:Li eIns n0 H0 vl li) (hli:li.length≤400) (hvd:Li eDef n0 H0 vd ld) (hld:ld.length≤20) (hsz:∀ x∈ld,x.s.size≤1048576):∀ t H n,n0≤n→(∀ i,i < n0→H i=H0 i)→t 1=ptr b 0→t 4=.int .i64 0 →
  Wp (Yf (S14L1 (Call Try.prog) Yf) t H n) (fun o=>n≤o.n∧(∀ i,i < n0→o.H i=H0 i)∧((o.e=.exit 2∧DfAll li.length ld)∨(o.e=.ret∧o.t 2=.bool false∧¬ DfAll li.length ld))):=by
 intro t H n hn0 s0 e1 e4
 refine Loop_rule (fun d T H' n'=>∃ j:Nat,j+d=ld.length∧n≤n'∧(∀ i,i < n0→H' i=H0 i)∧T 1=ptr b 0∧T 4=.int .i64 j∧∀ q:Nat,q < j→DfOk li.length ld q) _ ?_ ld.length t H n ⟨0,by omega,by omega,s0,e1,e4,fun q hq=>by omega⟩
 rintro d T H' n' ⟨j,hj,hn,s1,e1,e4,hall⟩
 unfold S14L1
 have hb':H' b=some (.row [v,vl,vd] 0 true):=by rw [s1 b hbn]; exact hb
 have hlen:=(hvd.mv (Nat.le_refl _) s1).len
 by_cases hlt:j < ld.length
 ·have hlti:(j:Int) < ld.length:=by omega
  have hw:=wj (j:=j) (len:=ld.length) hlt (by omega)
  have hw2:IntKind.i64.wrap ((li.length:Int) - 1)=(li.length:Int) - 1:=w64 (by omega)
  have g:=(hvd.mv (Nat.le_refl _) s1).dAll (i:=(j:Int)) (by omega) hlti
  have hx:=hsz _ (gi_mem (l:=ld) (i:=(j:Int)) (by omega) hlti)
  have hiff:DfOk li.length ld j↔(nameOk (gi ld (j:Int)).s=true∧defOf ld (gi ld (j:Int)).s=j∧(0≤(gi ld (j:Int)).at_∧(gi ld (j:Int)).at_≤(li.length:Int) - 1)∧(0≤(gi ld (j:Int)).args∧(gi ld (j:Int)).args≤4)):=Iff.rfl
  generalize gi ld (j:Int)=x at g hx hiff
  obtain ⟨xs,xa,xr⟩:=x
  simp only [Df.cells] at g hx hiff
  ((repeat(first|((with_reducible first|apply Wp.gs|apply Wp.cs|apply Zc|apply Zg|apply Zd|apply Zi|apply Wp.step);case h=>((try simp(disch:=omega)only[↓reduceIte,Za,↓X0,X1,Nat.reduceEqDiff,Int.reduceEq,Nat.reduceAdd,Nat.reduceSub,X2,Ze,Nat.reduceLeDiff,hlen,e1,e4,hlti,hb',g]);with_reducible first|done|exact rfl|exact bT|exact bF))|apply Zf|apply Zj|with_reducible apply Zk|simp only[↓X3]|with_reducible apply Zb));try(with_reducible apply Zm;case h=>((try simp(disch:=omega)only[X1,Nat.reduceEqDiff,hlen,e1,e4,hlti,hb',g]);with_reducible exact rfl)))
  refine Wp.rt (sNameOk xs hx _ _) ?_
  intro H1 n1 q1 s2
  have hret:∀ (T':Tm) (H2:Hp) (n2:Nat),n≤n2→(∀ i,i < n0→H2 i=H0 i)→T' 2=.bool false→¬ DfOk li.length ld j→Wp (some (⟨.ret,T',H2,n2⟩:Out)) (Nxt (fun d T H' n'=>∃ j:Nat,j+d=ld.length∧n≤n'∧(∀ i,i < n0→H' i=H0 i)∧T 1=ptr b 0∧T 4=.int .i64 j∧∀ q:Nat,q < j→DfOk li.length ld q) d (fun o=>n≤o.n∧(∀ i,i < n0→o.H i=H0 i)∧((o.e=.exit 2∧DfAll li.length ld)∨(o.e=.ret∧o.t 2=.bool false∧¬ DfAll li.length ld)))) :=
   fun T' H2 n2 a1 a2 a3 a4=>Wp.pure (Nxt.ret ⟨a1,a2,.inr ⟨rfl,a3,fun h=>a4 (h j hlt)⟩⟩)
  by_cases c1:nameOk xs=true
  case neg =>
   have c1':nameOk xs=false:=by simpa using c1
   ((repeat(first|((with_reducible first|apply Wp.gs|apply Wp.cs|apply Zc|apply Zg|apply Zd|apply Zi|apply Wp.step);case h=>((try simp(disch:=omega)only[↓reduceIte,Za,↓X0,X1,Nat.reduceEqDiff,Int.reduceEq,Nat.reduceAdd,Nat.reduceSub,X2,Ze,Nat.reduceLeDiff,c1',s2]);with_reducible first|done|exact rfl|exact bT|exact bF))|apply Zf|apply Zj|with_reducible apply Zk|simp only[↓X3]|with_reducible apply Zb));try(with_reducible apply Zm;case h=>((try simp(disch:=omega)only[X1,Nat.reduceEqDiff,c1',s2]);with_reducible exact rfl)))
   exact hret _ _ _ (by omega) ((by intros;first|with_reducible rfl|simp(disch:=omega)only[Ze,Zh,s2,s1])) (by simp [Zl]) (fun h=>c1 (hiff.1 h).1)
  ((repeat(first|((with_reducible first|apply Wp.gs|apply Wp.cs|apply Zc|apply Zg|apply Zd|apply Zi|apply Wp.step);case h=>((try simp(disch:=omega)only[↓reduceIte,Za,↓X0,X1,Nat.reduceEqDiff,Int.reduceEq,Nat.reduceAdd,Nat.reduceSub,X2,Ze,Nat.reduceLeDiff,c1,s2,e1,e4,hb',s1]);with_reducible first|done|exact rfl|exact bT|exact bF))|apply Zf|apply Zj|with_reducible apply Zk|simp only[↓X3]|with_reducible apply Zb));try(with_reducible apply Zm;case h=>((try simp(disch:=omega)only[X1,Nat.reduceEqDiff,c1,s2,e1,e4,hb',s1]);with_reducible exact rfl)))
  refine Wp.rt (k15 ((hvd.mv (by omega) (by intros;first|with_reducible rfl|simp(disch:=omega)only[Ze,Zh,s2,s1]))) (by omega) xs) ?_
  intro H3 n3 q3 s3
  by_cases c2:defOf ld xs=(j:Int)
  case neg =>
   ((repeat(first|((with_reducible first|apply Wp.gs|apply Wp.cs|apply Zc|apply Zg|apply Zd|apply Zi|apply Wp.step);case h=>((try simp(disch:=omega)only[↓reduceIte,Za,↓X0,X1,Nat.reduceEqDiff,Int.reduceEq,Nat.reduceAdd,Nat.reduceSub,X2,Ze,Nat.reduceLeDiff,c2,s2,s3,e1,e4]);with_reducible first|done|exact rfl|exact bT|exact bF))|apply Zf|apply Zj|with_reducible apply Zk|simp only[↓X3]|with_reducible apply Zb));try(with_reducible apply Zm;case h=>((try simp(disch:=omega)only[X1,Nat.reduceEqDiff,c2,s2,s3,e1,e4]);with_reducible exact rfl)))
   exact hret _ _ _ (by omega) ((by intros;first|with_reducible rfl|simp(disch:=omega)only[Ze,Zh,s3,s2,s1])) (by simp [Zl]) (fun h=>c2 (hiff.1 h).2.1)
  by_cases c3:0≤xa∧xa≤(li.length:Int) - 1
  case neg =>
   ((repeat(first|((with_reducible first|apply Wp.gs|apply Wp.cs|apply Zc|apply Zg|apply Zd|apply Zi|apply Wp.step);case h=>((try simp(disch:=omega)only[↓reduceIte,Za,↓X0,X1,Nat.reduceEqDiff,Int.reduceEq,Nat.reduceAdd,Nat.reduceSub,X2,Ze,Nat.reduceLeDiff,c2,s2,s3,e1,e4,hb',hvl.len,hw2,k61,c3]);with_reducible first|done|exact rfl|exact bT|exact bF))|apply Zf|apply Zj|with_reducible apply Zk|simp only[↓X3]|with_reducible apply Zb));try(with_reducible apply Zm;case h=>((try simp(disch:=omega)only[X1,Nat.reduceEqDiff,c2,s2,s3,e1,e4,hb',hvl.len,hw2,k61,c3]);with_reducible exact rfl)))
   exact hret _ _ _ (by omega) ((by intros;first|with_reducible rfl|simp(disch:=omega)only[Ze,Zh,s3,s2,s1])) (by simp [Zl]) (fun h=>c3 (hiff.1 h).2.2.1)
  by_cases c4:0≤xr∧xr≤4
  case neg =>
   ((repeat(first|((with_reducible first|apply Wp.gs|apply Wp.cs|apply Zc|apply Zg|apply Zd|apply Zi|apply Wp.step);case h=>((try simp(disch:=omega)only[↓reduceIte,Za,↓X0,X1,Nat.reduceEqDiff,Int.reduceEq,Nat.reduceAdd,Nat.reduceSub,X2,Ze,Nat.reduceLeDiff,c2,s2,s3,e1,e4,hb',hvl.len,hw2,k61,c3,c4,and_self]);with_reducible first|done|exact rfl|exact bT|exact bF))|apply Zf|apply Zj|with_reducible apply Zk|simp only[↓X3]|with_reducible apply Zb));try(with_reducible apply Zm;case h=>((try simp(disch:=omega)only[X1,Nat.reduceEqDiff,c2,s2,s3,e1,e4,hb',hvl.len,hw2,k61,c3,c4,and_self]);with_reducible exact rfl)))
   exact hret _ _ _ (by omega) ((by intros;first|with_reducible rfl|simp(disch:=omega)only[Ze,Zh,s3,s2,s1])) (by simp [Zl]) (fun h=>c4 (hiff.1 h).2.2.2)
  (repeat(first|((with_reducible first|apply Wp.gs|apply Wp.cs|apply Zc|apply Zg|apply Zd|apply Zi|apply Wp.step);case h=>((try simp(disch:=omega)only[↓reduceIte,Za,↓X0,X1,Nat.reduceEqDiff,Int.reduceEq,Nat.reduceAdd,Nat.reduceSub,X2,Ze,Nat.reduceLeDiff,c2,s2,s3,e1,e4,hb',hvl.len,hw2,k61,c3,c4,and_self,hw]);with_reducible first|done|exact rfl|exact bT|exact bF))|apply Zf|apply Zj|with_reducible apply Zk|simp only[↓X3]|with_reducible apply Zb))
  refine Wp.pure (Nxt.go (d - 1) (by omega) ⟨j+1,by omega,by omega,(by intros;first|with_reducible rfl|simp(disch:=omega)only[Ze,Zh,s3,s2,s1]),by simp [Zl,e1],by simp [Zl],fun q hq=>?_⟩)
  by_cases hqj:q=j
  ·subst hqj; exact hiff.2 ⟨c1,c2,c3,c4⟩
  ·exact hall q (by omega)
 ·have hlti:¬ (j:Int) < ld.length:=by omega
  (repeat(first|((with_reducible first|apply Wp.gs|apply Wp.cs|apply Zc|apply Zg|apply Zd|apply Zi|apply Wp.step);case h=>((try simp(disch:=omega)only[↓reduceIte,Za,↓X0,X1,Nat.reduceEqDiff,Int.reduceEq,Nat.reduceAdd,Nat.reduceSub,X2,Ze,Nat.reduceLeDiff,hlen,e1,e4,hlti,hb']);with_reducible first|done|exact rfl|exact bT|exact bF))|apply Zf|apply Zj|with_reducible apply Zk|simp only[↓X3]|with_reducible apply Zb))
  exact Wp.pure (Nxt.exit ⟨by simp only; omega,s1,.inl ⟨rfl,fun q hq=>hall q (by omega)⟩⟩)
end
theorem k12 {n:Nat} {H:Hp} {v vl vd:Value} {l:List Nd} {li:List Ins} {ld:List Df} (hv:Li eNode n H v l) (hvl:Li eIns n H vl li) (hvd:Li eDef n H vd ld) (hs:∀ x∈l,x.s.size≤1048576) (hsl:∀ x∈li,x.s.size≤1048576) (hsd:∀ x∈ld,x.s.size≤1048576) (hl:l.length≤1048576) (hll:li.length≤1048576) (hld:ld.length≤1048576):Rt Try.prog 12 [.agg ⟨[v,vl,vd]⟩] H n (.bool (decide (CodeOk l li ld))):=by
 apply Rt.mk
 rw [c12]; unfold S12
 have fin:∀ (b:Bool) (H':Hp) (n':Nat),n≤n'→(∀ i,i < n→H' i=H i)→b=decide (CodeOk l li ld)→Wp (some (Value.bool b,H',n')) (fun q=>n≤q.2.2∧(∀ i,i < n→q.2.1 i=H i)∧q.1=.bool (decide (CodeOk l li ld))):=by
  intro b H' n' h1 h2 h3
  exact Wp.pure ⟨h1,h2,by rw [h3]⟩
 ((repeat(first|((with_reducible first|apply Wp.gs|apply Wp.cs|apply Zc|apply Zg|apply Zd|apply Zi|apply Wp.step);case h=>((try simp(disch:=omega)only[↓reduceIte,Za,↓X0,X1,Nat.reduceEqDiff,Int.reduceEq,Nat.reduceAdd,Nat.reduceSub,X2,Ze,Nat.reduceLeDiff]);with_reducible first|done|exact rfl|exact bT|exact bF))|apply Zf|apply Zj|with_reducible apply Zk|simp only[↓X3]|with_reducible apply Zb));try(with_reducible apply Zm;case h=>((try simp(disch:=omega)only[X1,Nat.reduceEqDiff]);with_reducible exact rfl)))
 refine Wp.rt (k42 (hv.mv (by omega) (by intros;first|with_reducible rfl|simp(disch:=omega)only[Ze,Zh])) hs hl) ?_
 intro H1 n1 q1 s1
 by_cases hp:PoolOk l
 case neg =>
  (repeat(first|((with_reducible first|apply Wp.gs|apply Wp.cs|apply Zc|apply Zg|apply Zd|apply Zi|apply Wp.step);case h=>((try simp(disch:=omega)only[↓reduceIte,Za,↓X0,X1,Nat.reduceEqDiff,Int.reduceEq,Nat.reduceAdd,Nat.reduceSub,X2,Ze,Nat.reduceLeDiff,s1,hp]);with_reducible first|done|exact rfl|exact bT|exact bF))|apply Zf|apply Zj|with_reducible apply Zk|simp only[↓X3]|with_reducible apply Zb))
  exact fin _ _ _ (by omega) ((by intros;first|with_reducible rfl|simp(disch:=omega)only[Ze,Zh,s1])) (decide_eq_false (fun h=>hp h.1)).symm
 by_cases c1:(400:Int) < li.length
 case pos =>
  (repeat(first|((with_reducible first|apply Wp.gs|apply Wp.cs|apply Zc|apply Zg|apply Zd|apply Zi|apply Wp.step);case h=>((try simp(disch:=omega)only[↓reduceIte,Za,↓X0,X1,Nat.reduceEqDiff,Int.reduceEq,Nat.reduceAdd,Nat.reduceSub,X2,Ze,Nat.reduceLeDiff,s1,hp,hvl.len,c1]);with_reducible first|done|exact rfl|exact bT|exact bF))|apply Zf|apply Zj|with_reducible apply Zk|simp only[↓X3]|with_reducible apply Zb))
  exact fin _ _ _ (by omega) ((by intros;first|with_reducible rfl|simp(disch:=omega)only[Ze,Zh,s1])) (decide_eq_false (fun h=>absurd h.2.1 (by omega))).symm
 by_cases c2:(20:Int) < ld.length
 case pos =>
  (repeat(first|((with_reducible first|apply Wp.gs|apply Wp.cs|apply Zc|apply Zg|apply Zd|apply Zi|apply Wp.step);case h=>((try simp(disch:=omega)only[↓reduceIte,Za,↓X0,X1,Nat.reduceEqDiff,Int.reduceEq,Nat.reduceAdd,Nat.reduceSub,X2,Ze,Nat.reduceLeDiff,s1,hp,hvl.len,c1,hvd.len,c2]);with_reducible first|done|exact rfl|exact bT|exact bF))|apply Zf|apply Zj|with_reducible apply Zk|simp only[↓X3]|with_reducible apply Zb))
  exact fin _ _ _ (by omega) ((by intros;first|with_reducible rfl|simp(disch:=omega)only[Ze,Zh,s1])) (decide_eq_false (fun h=>absurd h.2.2.1 (by omega))).symm
 have hb1:H1 n=some (.row [v,vl,vd] 0 true):=by simp (disch:=omega) only [s1,Zh]
 (repeat(first|((with_reducible first|apply Wp.gs|apply Wp.cs|apply Zc|apply Zg|apply Zd|apply Zi|apply Wp.step);case h=>((try simp(disch:=omega)only[↓reduceIte,Za,↓X0,X1,Nat.reduceEqDiff,Int.reduceEq,Nat.reduceAdd,Nat.reduceSub,X2,Ze,Nat.reduceLeDiff,s1,hp,hvl.len,c1,hvd.len,c2]);with_reducible first|done|exact rfl|exact bT|exact bF))|apply Zf|apply Zj|with_reducible apply Zk|simp only[↓X3]|with_reducible apply Zb))
 refine Wp.bind (l012 (n0:=n+1) (H0:=H1) hb1 (by omega) (hv.mv (by omega) (by intros;first|with_reducible rfl|simp(disch:=omega)only[Ze,Zh,s1])) hl (hvl.mv (by omega) (by intros;first|with_reducible rfl|simp(disch:=omega)only[Ze,Zh,s1])) (by omega) hsl _ _ _ (by omega) (fun _ _=>rfl) (by simp [Zl]) (by simp [Zl]) (by simp [Zl])) ?_
 rintro ⟨oe,ot,oH,on⟩ ⟨f1,f2,f3⟩
 simp only at f1 f2 f3
 rcases f3 with ⟨rfl,f4,f5⟩ | ⟨rfl,f4,f5⟩
 case inr =>
  simp(disch:=omega)only[↓reduceIte,Za,↓X0,X1,Nat.reduceEqDiff,Int.reduceEq,Nat.reduceAdd,Nat.reduceSub,f4]
  exact fin _ _ _ (by omega) ((by intros;first|with_reducible rfl|simp(disch:=omega)only[Ze,Zh,f2,s1])) (decide_eq_false (fun h=>f5 h.2.2.2.1)).symm
 have hb2:oH n=some (.row [v,vl,vd] 0 true):=by rw [f2 n (by omega)]; exact hb1
 have hvd2:Li eDef (n+1) H1 vd ld:=hvd.mv (by omega) (by intros;first|with_reducible rfl|simp(disch:=omega)only[Ze,Zh,s1])
 (repeat(first|((with_reducible first|apply Wp.gs|apply Wp.cs|apply Zc|apply Zg|apply Zd|apply Zi|apply Wp.step);case h=>((try simp(disch:=omega)only[↓reduceIte,Za,↓X0,X1,Nat.reduceEqDiff,Int.reduceEq,Nat.reduceAdd,Nat.reduceSub,X2,Ze,Nat.reduceLeDiff,f4,hb2,hvd.len]);with_reducible first|done|exact rfl|exact bT|exact bF))|apply Zf|apply Zj|with_reducible apply Zk|simp only[↓X3]|with_reducible apply Zb))
 refine Wp.bind (lb12 (n0:=n+1) (H0:=H1) hb1 (by omega) (hvl.mv (by omega) (by intros;first|with_reducible rfl|simp(disch:=omega)only[Ze,Zh,s1])) (by omega) hvd2 (by omega) hsd _ _ _ (by omega) ((by intros;first|with_reducible rfl|simp(disch:=omega)only[Ze,Zh,f2])) (by simp [Zl,f4]) (by simp [Zl]) (by simp [Zl]) (by simp [Zl])) ?_
 rintro ⟨pe,pt,pH,pn⟩ ⟨g1,g2,g3⟩
 simp only at g1 g2 g3
 rcases g3 with ⟨rfl,g5⟩ | ⟨rfl,g4,g5⟩
 ·(repeat(first|((with_reducible first|apply Wp.gs|apply Wp.cs|apply Zc|apply Zg|apply Zd|apply Zi|apply Wp.step);case h=>((try simp(disch:=omega)only[↓reduceIte,Za,↓X0,X1,Nat.reduceEqDiff,Int.reduceEq,Nat.reduceAdd,Nat.reduceSub]);with_reducible first|done|exact rfl|exact bT|exact bF))|apply Zf|apply Zj|with_reducible apply Zk|simp only[↓X3]|with_reducible apply Zb))
  exact fin _ _ _ (by omega) ((by intros;first|with_reducible rfl|simp(disch:=omega)only[Ze,Zh,g2,s1])) (decide_eq_true ⟨hp,by omega,by omega,f5,g5⟩).symm
 ·simp(disch:=omega)only[↓reduceIte,Za,↓X0,X1,Nat.reduceEqDiff,Int.reduceEq,Nat.reduceAdd,Nat.reduceSub,g4]
  exact fin _ _ _ (by omega) ((by intros;first|with_reducible rfl|simp(disch:=omega)only[Ze,Zh,g2,s1])) (decide_eq_false (fun h=>g5 h.2.2.2.2)).symm
theorem k14 {n:Nat} {H:Hp} {v vl vd:Value} {l:List Nd} {li:List Ins} {ld:List Df} (hv:Li eNode n H v l) (hvl:Li eIns n H vl li) (hvd:Li eDef n H vd ld) (hs:∀ x∈l,x.s.size≤1048576) (hsl:∀ x∈li,x.s.size≤1048576) (hsd:∀ x∈ld,x.s.size≤1048576) (hl:l.length≤1048576) (hll:li.length≤1048576) (hld:ld.length≤1048576):Rt Try.prog 14 [.agg ⟨[v,vl,vd]⟩] H n (.bool (decide (CodeOk l li ld))):=by
 apply Rt.mk
 rw [c14]; unfold S14
 have fin:∀ (b:Bool) (H':Hp) (n':Nat),n≤n'→(∀ i,i < n→H' i=H i)→b=decide (CodeOk l li ld)→Wp (some (Value.bool b,H',n')) (fun q=>n≤q.2.2∧(∀ i,i < n→q.2.1 i=H i)∧q.1=.bool (decide (CodeOk l li ld))):=by
  intro b H' n' h1 h2 h3
  exact Wp.pure ⟨h1,h2,by rw [h3]⟩
 ((repeat(first|((with_reducible first|apply Wp.gs|apply Wp.cs|apply Zc|apply Zg|apply Zd|apply Zi|apply Wp.step);case h=>((try simp(disch:=omega)only[↓reduceIte,Za,↓X0,X1,Nat.reduceEqDiff,Int.reduceEq,Nat.reduceAdd,Nat.reduceSub,X2,Ze,Nat.reduceLeDiff]);with_reducible first|done|exact rfl|exact bT|exact bF))|apply Zf|apply Zj|with_reducible apply Zk|simp only[↓X3]|with_reducible apply Zb));try(with_reducible apply Zm;case h=>((try simp(disch:=omega)only[X1,Nat.reduceEqDiff]);with_reducible exact rfl)))
 refine Wp.rt (k48 (hv.mv (by omega) (by intros;first|with_reducible rfl|simp(disch:=omega)only[Ze,Zh])) hs hl) ?_
 intro H1 n1 q1 s1
 by_cases hp:PoolOk l
 case neg =>
  (repeat(first|((with_reducible first|apply Wp.gs|apply Wp.cs|apply Zc|apply Zg|apply Zd|apply Zi|apply Wp.step);case h=>((try simp(disch:=omega)only[↓reduceIte,Za,↓X0,X1,Nat.reduceEqDiff,Int.reduceEq,Nat.reduceAdd,Nat.reduceSub,X2,Ze,Nat.reduceLeDiff,s1,hp]);with_reducible first|done|exact rfl|exact bT|exact bF))|apply Zf|apply Zj|with_reducible apply Zk|simp only[↓X3]|with_reducible apply Zb))
  exact fin _ _ _ (by omega) ((by intros;first|with_reducible rfl|simp(disch:=omega)only[Ze,Zh,s1])) (decide_eq_false (fun h=>hp h.1)).symm
 by_cases c1:(400:Int) < li.length
 case pos =>
  (repeat(first|((with_reducible first|apply Wp.gs|apply Wp.cs|apply Zc|apply Zg|apply Zd|apply Zi|apply Wp.step);case h=>((try simp(disch:=omega)only[↓reduceIte,Za,↓X0,X1,Nat.reduceEqDiff,Int.reduceEq,Nat.reduceAdd,Nat.reduceSub,X2,Ze,Nat.reduceLeDiff,s1,hp,hvl.len,c1]);with_reducible first|done|exact rfl|exact bT|exact bF))|apply Zf|apply Zj|with_reducible apply Zk|simp only[↓X3]|with_reducible apply Zb))
  exact fin _ _ _ (by omega) ((by intros;first|with_reducible rfl|simp(disch:=omega)only[Ze,Zh,s1])) (decide_eq_false (fun h=>absurd h.2.1 (by omega))).symm
 by_cases c2:(20:Int) < ld.length
 case pos =>
  (repeat(first|((with_reducible first|apply Wp.gs|apply Wp.cs|apply Zc|apply Zg|apply Zd|apply Zi|apply Wp.step);case h=>((try simp(disch:=omega)only[↓reduceIte,Za,↓X0,X1,Nat.reduceEqDiff,Int.reduceEq,Nat.reduceAdd,Nat.reduceSub,X2,Ze,Nat.reduceLeDiff,s1,hp,hvl.len,c1,hvd.len,c2]);with_reducible first|done|exact rfl|exact bT|exact bF))|apply Zf|apply Zj|with_reducible apply Zk|simp only[↓X3]|with_reducible apply Zb))
  exact fin _ _ _ (by omega) ((by intros;first|with_reducible rfl|simp(disch:=omega)only[Ze,Zh,s1])) (decide_eq_false (fun h=>absurd h.2.2.1 (by omega))).symm
 have hb1:H1 n=some (.row [v,vl,vd] 0 true):=by simp (disch:=omega) only [s1,Zh]
 (repeat(first|((with_reducible first|apply Wp.gs|apply Wp.cs|apply Zc|apply Zg|apply Zd|apply Zi|apply Wp.step);case h=>((try simp(disch:=omega)only[↓reduceIte,Za,↓X0,X1,Nat.reduceEqDiff,Int.reduceEq,Nat.reduceAdd,Nat.reduceSub,X2,Ze,Nat.reduceLeDiff,s1,hp,hvl.len,c1,hvd.len,c2]);with_reducible first|done|exact rfl|exact bT|exact bF))|apply Zf|apply Zj|with_reducible apply Zk|simp only[↓X3]|with_reducible apply Zb))
 refine Wp.bind (l014 (n0:=n+1) (H0:=H1) hb1 (by omega) (hv.mv (by omega) (by intros;first|with_reducible rfl|simp(disch:=omega)only[Ze,Zh,s1])) hl (hvl.mv (by omega) (by intros;first|with_reducible rfl|simp(disch:=omega)only[Ze,Zh,s1])) (by omega) hsl _ _ _ (by omega) (fun _ _=>rfl) (by simp [Zl]) (by simp [Zl])) ?_
 rintro ⟨oe,ot,oH,on⟩ ⟨f1,f2,f3⟩
 simp only at f1 f2 f3
 rcases f3 with ⟨rfl,f4,f5⟩ | ⟨rfl,f4,f5⟩
 case inr =>
  simp(disch:=omega)only[↓reduceIte,Za,↓X0,X1,Nat.reduceEqDiff,Int.reduceEq,Nat.reduceAdd,Nat.reduceSub,f4]
  exact fin _ _ _ (by omega) ((by intros;first|with_reducible rfl|simp(disch:=omega)only[Ze,Zh,f2,s1])) (decide_eq_false (fun h=>f5 h.2.2.2.1)).symm
 have hb2:oH n=some (.row [v,vl,vd] 0 true):=by rw [f2 n (by omega)]; exact hb1
 have hvd2:Li eDef (n+1) H1 vd ld:=hvd.mv (by omega) (by intros;first|with_reducible rfl|simp(disch:=omega)only[Ze,Zh,s1])
 (repeat(first|((with_reducible first|apply Wp.gs|apply Wp.cs|apply Zc|apply Zg|apply Zd|apply Zi|apply Wp.step);case h=>((try simp(disch:=omega)only[↓reduceIte,Za,↓X0,X1,Nat.reduceEqDiff,Int.reduceEq,Nat.reduceAdd,Nat.reduceSub,X2,Ze,Nat.reduceLeDiff,f4,hb2,hvd.len]);with_reducible first|done|exact rfl|exact bT|exact bF))|apply Zf|apply Zj|with_reducible apply Zk|simp only[↓X3]|with_reducible apply Zb))
 refine Wp.bind (lb14 (n0:=n+1) (H0:=H1) hb1 (by omega) (hvl.mv (by omega) (by intros;first|with_reducible rfl|simp(disch:=omega)only[Ze,Zh,s1])) (by omega) hvd2 (by omega) hsd _ _ _ (by omega) ((by intros;first|with_reducible rfl|simp(disch:=omega)only[Ze,Zh,f2])) (by simp [Zl,f4]) (by simp [Zl])) ?_
 rintro ⟨pe,pt,pH,pn⟩ ⟨g1,g2,g3⟩
 simp only at g1 g2 g3
 rcases g3 with ⟨rfl,g5⟩ | ⟨rfl,g4,g5⟩
 ·(repeat(first|((with_reducible first|apply Wp.gs|apply Wp.cs|apply Zc|apply Zg|apply Zd|apply Zi|apply Wp.step);case h=>((try simp(disch:=omega)only[↓reduceIte,Za,↓X0,X1,Nat.reduceEqDiff,Int.reduceEq,Nat.reduceAdd,Nat.reduceSub]);with_reducible first|done|exact rfl|exact bT|exact bF))|apply Zf|apply Zj|with_reducible apply Zk|simp only[↓X3]|with_reducible apply Zb))
  exact fin _ _ _ (by omega) ((by intros;first|with_reducible rfl|simp(disch:=omega)only[Ze,Zh,g2,s1])) (decide_eq_true ⟨hp,by omega,by omega,f5,g5⟩).symm
 ·simp(disch:=omega)only[↓reduceIte,Za,↓X0,X1,Nat.reduceEqDiff,Int.reduceEq,Nat.reduceAdd,Nat.reduceSub,g4]
  exact fin _ _ _ (by omega) ((by intros;first|with_reducible rfl|simp(disch:=omega)only[Ze,Zh,g2,s1])) (decide_eq_false (fun h=>g5 h.2.2.2.2)).symm
end Go.Proofs.Ytbgkimkbngocjaa.Ax
set_option linter.unusedVariables false
set_option linter.unusedSimpArgs false
set_option maxHeartbeats 4000000
namespace Go.Proofs.Ytbgkimkbngocjaa.Ax
open Go
def Small (s:CS):Prop:=(∀ x∈s.L,x.s.size≤1048576)∧∀ d∈s.D,d.s.size≤1048576
def Keeps (f:CS→CS):Prop:=∀ s,Small s→Small (f s)
theorem Keeps.id:Keeps (fun s=>s):=fun s h=>h
theorem Keeps.comp {f g:CS→CS} (hf:Keeps f) (hg:Keeps g):Keeps (fun s=>g (f s)):=fun s h=>hg _ (hf _ h)
theorem Keeps.ite {c:Prop} [Decidable c] {f g:CS→CS} (hf:c→Keeps f) (hg:¬ c→Keeps g):Keeps (fun s=>if c then f s else g s):=by
 intro s h
 by_cases hc:c
 ·simp only [hc,if_true]; exact hf hc s h
 ·simp only [hc,if_false]; exact hg hc s h
theorem Keeps.put {x:Ins} (hx:x.s.size≤1048576):Keeps (cPut x):=by
 intro s h
 unfold cPut
 split
 ·split
  ·exact h
  ·refine ⟨fun y hy=>?_,h.2⟩
   rcases List.mem_append.1 hy with hy | hy
   ·exact h.1 y hy
   ·simp at hy; rw [hy]; exact hx
 ·exact h
theorem insOf_sz (a b c:Int):(Yd a b c).s.size≤1048576:=by show (ByteArray.size ⟨#[]⟩)≤1048576; decide
theorem Keeps.fail (x:Int):Keeps (cFail x):=by
 intro s h; unfold cFail; split <;> exact h
theorem Keeps.to (a:Nat):Keeps (cTo a):=by
 intro s h
 unfold cTo
 split
 ·refine ⟨fun y hy=>?_,h.2⟩
  unfold setN at hy
  rcases List.mem_or_eq_of_mem_set hy with hy | hy
  ·exact h.1 y hy
  ·rw [hy]
   show (gi s.L (a:Int)).s.size≤1048576
   by_cases ha:a < s.L.length
   ·rw [gi_nat ha]; exact h.1 _ (List.getElem_mem ha)
   ·have:gi s.L (a:Int)=default:=by
     unfold gi
     rw [List.getD_eq_getElem?_getD,List.getElem?_eq_none (by simpa using ha)]; rfl
    rw [this]; show (ByteArray.size ⟨#[]⟩)≤1048576; decide
 ·exact h
theorem Keeps.fold {f:Int→CS→CS}:∀ l:List Int,(∀ v∈l,Keeps (f v))→Keeps (fun s=>l.foldl (fun s v=>f v s) s)
 | [],_=>Keeps.id
 | v :: l,hf=>(hf v List.mem_cons_self).comp (Keeps.fold l fun w hw=>hf w (List.mem_cons_of_mem _ hw))
theorem Keeps.body {E:CEx} {e:Env}:∀ l:List Int,(∀ v∈l,Keeps (E v e))→Keeps (cBody E e l)
 | [],_=>Keeps.id
 | v :: l,hE=>(hE v List.mem_cons_self).comp (Keeps.fold (f:=fun v s=>E v e (cPut (Yd 9 0 0) s)) l fun w hw=>(Keeps.put (insOf_sz _ _ _)).comp (hE w (List.mem_cons_of_mem _ hw)))
theorem Keeps.fun_ {E:CEx} {names:List ByteArray} {body:List Int} {e:Env} (hE:∀ v∈body,∀ e,Keeps (E v e)):Keeps (cFun E names body e):=by
 intro s h
 unfold cFun
 simp only
 exact Keeps.to _ _ (Keeps.put (insOf_sz _ _ _) _ (Keeps.body body (fun v hv=>hE v hv _) _ (Keeps.put (insOf_sz _ _ _) _ (Keeps.put (insOf_sz _ _ _) _ h))))
theorem Keeps.if_ {E:CEx} {l:List Int} {e:Env} (h4:l.length=4) (hE:∀ v∈l,∀ e,Keeps (E v e)):Keeps (cIf E l e):=by
 intro s h
 have m1:=gi_mem (l:=l) (i:=1) (by omega) (by omega)
 have m2:=gi_mem (l:=l) (i:=2) (by omega) (by omega)
 have m3:=gi_mem (l:=l) (i:=3) (by omega) (by omega)
 unfold cIf
 simp only
 exact Keeps.to _ _ (hE _ m3 _ _ (Keeps.to _ _ (Keeps.put (insOf_sz _ _ _) _ (hE _ m2 _ _ (Keeps.put (insOf_sz _ _ _) _ (hE _ m1 _ _ h))))))
theorem Keeps.form {E:CEx} {p:List Nd} {w:ByteArray} {l:List Int} {e:Env} (hE:∀ v∈l,∀ e,Keeps (E v e)):Keeps (cForm E p w l e):=by
 unfold cForm cFn
 refine Keeps.ite (fun _=>Keeps.put (insOf_sz _ _ _)) fun _=>Keeps.ite (fun h=>Keeps.if_ h.2 hE) fun _=>Keeps.ite (fun _=>Keeps.body _ fun v hv=>hE v (List.mem_of_mem_drop hv) _) fun _=>Keeps.ite (fun _=>Keeps.ite (fun _=>Keeps.ite (fun _=>Keeps.fun_ fun v hv=>hE v (List.mem_of_mem_drop hv)) fun _=>Keeps.fail _) fun _=>Keeps.fail _) fun _=>Keeps.ite (fun h=>Keeps.ite (fun _=>?_) fun _=>Keeps.fail _) fun _=>Keeps.fail _
 exact ((Keeps.fun_ (names:=(cNames p [gi l 1]).1) (body:=l.drop 3) (e:=e) fun v hv=>hE v (List.mem_of_mem_drop hv)).comp (hE _ (gi_mem (by omega) (by omega)) e)).comp (Keeps.put (insOf_sz _ _ _))
theorem varIns_sz {w:ByteArray} (hw:w.size≤1048576) (e:Env):(varIns w e).s.size≤1048576:=by
 unfold varIns; split
 ·exact insOf_sz _ _ _
 ·exact hw
theorem chain_memS {l:List Nd} (hp:PoolOk l):∀ (f:Nat) (v:Int),0≤v→v < l.length→∀ y∈(chain l f v).1,0≤y∧y < v
 | 0,v,_,_,y,hy=>by simp [chain] at hy
 | f+1,v,h0,h1,y,hy=>by
  unfold chain at hy
  by_cases h5:(gi l v).k=5
  ·rw [if_pos h5] at hy
   have hk:=(hp.at h0 h1).pair h5
   rcases List.mem_cons.1 hy with rfl | h
   ·exact hk.1
   ·have:=chain_memS hp f (gi l v).b hk.2.1 (by omega) y h
    omega
  ·rw [if_neg h5] at hy; simp at hy
theorem node_sz {p:List Nd} (hp:PoolOk p) {v:Int} (h0:0≤v) (h1:v < p.length):(gi p v).s.size≤1048576:=by
 have:=hp.at h0 h1
 rcases this with h | h | h | h | h | h | h | h | h <;> obtain ⟨_,_,h3,_⟩:=h
 all_goals first
  | (rw [h3]; show (ByteArray.size ⟨#[]⟩)≤1048576; decide)
  | (simp only [nameOk,Bool.and_eq_true,decide_eq_true_eq] at h3; omega)
theorem Keeps.expr {p:List Nd} (hp:PoolOk p):∀ (k:Nat) (v:Int),0≤v→v < p.length→∀ e,Keeps (cExpr p k v e)
 | 0,v,_,_,e=>Keeps.id
 | k+1,v,h0,h1,e=>by
  have hL:=chain_memS hp (v.toNat+1) v h0 h1
  have hE:∀ y∈(Zv p v).1,∀ e,Keeps (cExpr p k y e):=fun y hy e=>Keeps.expr hp k y (hL y hy).1 (by have:=hL y hy; omega) e
  intro s hs
  by_cases h:s.how=0
  ·rw [cExpr,if_pos h]
   exact (Keeps.ite (c:=(gi p v).k=1∨(gi p v).k=2∨(gi p v).k=3) (fun _=>Keeps.put (insOf_sz 1 v 0)) fun _=>Keeps.ite (c:=(gi p v).k=4) (fun _=>Keeps.ite (c:=special (gi p v).s=true) (fun _=>Keeps.fail 1) fun _=>Keeps.put (varIns_sz (node_sz hp h0 h1) e)) fun _=>Keeps.ite (c:=(gi p v).k=5∧(Zv p v).2=true) (fun _=>Keeps.ite (c:=(gi p (gi (Zv p v).1 0)).k=4∧special (gi p (gi (Zv p v).1 0)).s=true) (fun _=>Keeps.form (p:=p) (w:=(gi p (gi (Zv p v).1 0)).s) (e:=e) hE) fun _=>Keeps.ite (c:=5 < (Zv p v).1.length) (fun _=>Keeps.fail 1) fun _=>(Keeps.fold (f:=fun x s=>cExpr p k x e s) (Zv p v).1 fun x hx=>hE x hx e).comp (Keeps.put (insOf_sz 7 0 ((Zv p v).1.length - 1)))) fun _=>Keeps.fail 1) s hs
  ·rw [cExpr,if_neg h]; exact hs
theorem Keeps.define {E:CEx} {name:ByteArray} {params:List ByteArray} {body:List Int} (hn:name.size≤1048576) (hE:∀ v∈body,∀ e,Keeps (E v e)):Keeps (cDefine E name params body):=by
 intro s h
 unfold cDefine
 split
 ·exact Keeps.fail _ _ h
 ·refine Keeps.put (insOf_sz _ _ _) _ (Keeps.body body (fun v hv=>hE v hv _) _ ⟨h.1,fun d hd=>?_⟩)
  rcases List.mem_append.1 hd with hd | hd
  ·exact h.2 d hd
  ·simp at hd; rw [hd]; exact hn
theorem Keeps.top {p:List Nd} (hp:PoolOk p) {v:Int} (h0:0≤v) (h1:v < p.length) (k:Nat):Keeps (cTop (cExpr p k) p v):=by
 intro s hs
 have hL:=chain_memS hp (v.toNat+1) v h0 h1
 unfold cTop
 split
 ·rename_i hd
  have hd:=of_decide_eq_true hd
  have hmem:∀ y∈(Zv p v).1,0≤y∧y < p.length:=fun y hy=>by have:=hL y hy; omega
  unfold cDefn
  split
  ·rename_i hc
   have m1:=hmem _ (gi_mem (l:=(Zv p v).1) (i:=1) (by omega) (by omega))
   have hL1:=chain_memS hp ((gi (Zv p v).1 1).toNat+1) _ m1.1 m1.2
   have hpos:0 < (Zv p (gi (Zv p v).1 1)).1.length:=by
    rw [chainOf_eq hp m1.1 m1.2,if_pos hc.2.1]; simp
   have m2:=hL1 _ (gi_mem (l:=(Zv p (gi (Zv p v).1 1)).1) (i:=0) (by omega) (by omega))
   split
   ·split
    ·exact Keeps.define (node_sz hp m2.1 (by omega)) (fun y hy e=>Keeps.expr hp k y (hmem y (List.mem_of_mem_drop hy)).1 (hmem y (List.mem_of_mem_drop hy)).2 e) _ hs
    ·exact Keeps.fail _ _ hs
   ·exact Keeps.fail _ _ hs
  ·exact Keeps.fail _ _ hs
 ·exact Keeps.define (by decide) (fun y hy e=>by simp at hy; rw [hy]; exact Keeps.expr hp k v h0 h1 e) _ hs
structure CA where
 p:List Nd
 L:List Ins
 D:List Df
 how:Int
 at_:Int
def inPool (p:List Nd) (l:List Int):Prop:=∀ v∈l,0≤v∧v < (p.length:Int)
instance (p:List Nd) (l:List Int):Decidable (inPool p l):=by unfold inPool; infer_instance
def compAns (p:List Nd) (l:List Int):CA :=
 if PoolOk p∧inPool p l then
  (if (cAll p l 0 ⟨0,[],[]⟩).1.how=0 then
   (if CodeOk p (cAll p l 0 ⟨0,[],[]⟩).1.L (cAll p l 0 ⟨0,[],[]⟩).1.D then ⟨p,(cAll p l 0 ⟨0,[],[]⟩).1.L,(cAll p l 0 ⟨0,[],[]⟩).1.D,0,l.length⟩ else ⟨[],[],[],3,0⟩)
  else if (cAll p l 0 ⟨0,[],[]⟩).1.how=3 then ⟨[],[],[],3,0⟩ else ⟨[],[],[],(cAll p l 0 ⟨0,[],[]⟩).1.how,(cAll p l 0 ⟨0,[],[]⟩).2⟩)
 else ⟨[],[],[],3,0⟩
end Go.Proofs.Ytbgkimkbngocjaa.Ax
set_option linter.unusedVariables false
set_option linter.unusedSimpArgs false
set_option maxHeartbeats 4000000
namespace Go.Proofs.Ytbgkimkbngocjaa.Ax
open Go
def Inc (s:CS):Prop:=(∀ d∈s.D,d.at_ < (s.L.length:Int))∧s.D.Pairwise (fun a b=>a.at_ < b.at_)
theorem cPut_ok {x:Ins} {s:CS} (h:(cPut x s).how=0):s.how=0∧(cPut x s).L.length=s.L.length+1∧(cPut x s).D=s.D:=by
 unfold cPut at h ⊢
 by_cases h0:s.how=0
 ·rw [if_pos h0] at h ⊢
  by_cases h4:s.L.length=400
  ·rw [if_pos h4] at h; exact absurd h (by show ¬ (3:Int)=0; decide)
  ·rw [if_neg h4]; exact ⟨h0,by simp,rfl⟩
 ·rw [if_neg h0] at h; exact absurd h h0
theorem cDefine_inc {E:CEx} (hE:∀ v e,Goes (E v e)) {name:ByteArray} {params:List ByteArray} {body:List Int} {s:CS} (hi:Inc s) (h:(cDefine E name params body s).how=0):Inc (cDefine E name params body s)∧(cDefine E name params body s).D.length=s.D.length+1:=by
 unfold cDefine at h ⊢
 by_cases hd:hasDef name s.D=true
 ·rw [if_pos hd] at h; exact absurd h (cFail_no (by decide))
 ·rw [if_neg hd] at h ⊢
  obtain ⟨h1,h2,h3⟩:=cPut_ok h
  obtain ⟨g1,g2,g3⟩:=Goes.body hE [params] body ⟨s.how,s.L,s.D++[⟨name,s.L.length,params.length⟩]⟩
  simp only at g2 g3
  rw [g3] at h3
  refine ⟨⟨?_,?_⟩,by rw [h3]; simp⟩
  ·intro d hd
   rw [h3] at hd
   rcases List.mem_append.1 hd with hd | hd
   ·have:=hi.1 d hd; omega
   ·simp only [List.mem_cons,List.not_mem_nil,or_false] at hd
    rw [hd]; simp only; omega
  ·rw [h3,List.pairwise_append]
   refine ⟨hi.2,by simp,?_⟩
   intro a ha b hb
   simp only [List.mem_cons,List.not_mem_nil,or_false] at hb
   rw [hb]; exact hi.1 a ha
theorem cTop_inc {p:List Nd} {E:CEx} (hE:∀ v e,Goes (E v e)) {v:Int} {s:CS} (hi:Inc s) (h:(cTop E p v s).how=0):Inc (cTop E p v s)∧(cTop E p v s).D.length=s.D.length+1:=by
 unfold cTop at h ⊢
 split at h
 ·rename_i hd
  rw [if_pos hd]
  unfold cDefn at h ⊢
  split at h
  ·rename_i h1
   rw [if_pos h1]
   split at h
   ·rename_i h2
    rw [if_pos h2]
    split at h
    ·rename_i h3
     rw [if_pos h3]
     exact cDefine_inc hE hi h
    ·rename_i h3; exact absurd h (cFail_no h3)
   ·exact absurd h (cFail_no (by decide))
  ·exact absurd h (cFail_no (by decide))
 ·rename_i hd
  rw [if_neg hd]
  exact cDefine_inc hE hi h
theorem cAll_inc (p:List Nd):∀ (l:List Int) (i:Nat) (s:CS),s.how=0→Inc s→((cAll p l i s).1.how=0→Inc (cAll p l i s).1∧(cAll p l i s).1.D.length=s.D.length+l.length)∧((cAll p l i s).1.how≠0→(cAll p l i s).2 < i+l.length)
 | [],i,s,h0,hi=>⟨fun _=>⟨hi,rfl⟩,fun h=>absurd h0 h⟩
 | v :: r,i,s,h0,hi=>by
  rw [cAll]
  by_cases h:(cTop (cExpr p p.length) p v s).how=0
  ·rw [if_pos h]
   obtain ⟨a1,a2⟩:=cTop_inc (Goes.expr p p.length) hi h
   obtain ⟨b1,b2⟩:=cAll_inc p r (i+1) _ h a1
   refine ⟨fun h'=>⟨(b1 h').1,by rw [(b1 h').2,a2,List.length_cons]; omega⟩,fun h'=>?_⟩
   have:=b2 h'
   rw [List.length_cons]; omega
  ·rw [if_neg h]
   exact ⟨fun h'=>absurd h' h,fun _=>by simp only [List.length_cons]; omega⟩
theorem Inc.nil:Inc ⟨0,[],[]⟩:=by
 refine ⟨fun d hd=>?_,List.Pairwise.nil⟩
 simp at hd
def CompNo (p:List Nd) (l:List Int):Prop:=(compAns p l).how≠0∧(compAns p l).L=[]∧(compAns p l).D=[]∧0≤(compAns p l).at_∧((compAns p l).at_ < (l.length:Int)∨(compAns p l).at_=0)
def CompYes (p:List Nd) (l:List Int):Prop:=(compAns p l).how=0∧CodeOk (compAns p l).p (compAns p l).L (compAns p l).D∧(compAns p l).at_=l.length∧(compAns p l).D.length=l.length∧(compAns p l).D.Pairwise (fun a b=>a.at_ < b.at_)
theorem compAns_two (p:List Nd) (l:List Int):CompNo p l∨CompYes p l:=by
 unfold CompNo CompYes compAns
 by_cases h1:PoolOk p∧inPool p l
 ·rw [if_pos h1]
  have hA:=cAll_inc p l 0 ⟨0,[],[]⟩ rfl Inc.nil
  by_cases h2:(cAll p l 0 ⟨0,[],[]⟩).1.how=0
  ·rw [if_pos h2]
   obtain ⟨a1,a2⟩:=hA.1 h2
   split
   ·rename_i h3
    exact .inr ⟨rfl,h3,rfl,by simpa using a2,a1.2⟩
   ·exact .inl ⟨by decide,rfl,rfl,by decide,.inr rfl⟩
  ·rw [if_neg h2]
   have:=hA.2 h2
   split
   ·exact .inl ⟨by decide,rfl,rfl,by decide,.inr rfl⟩
   ·exact .inl ⟨h2,rfl,rfl,by simp only; omega,.inl (by simp only; omega)⟩
 ·rw [if_neg h1]
  exact .inl ⟨by decide,rfl,rfl,by decide,.inr rfl⟩
theorem code_op {l:List Nd} {li:List Ins} {ld:List Df} (h:CodeOk l li ld) {j:Nat} (hj:j < ld.length):defOf ld (gi ld (j:Int)).s=j∧0≤(gi ld (j:Int)).at_∧(gi ld (j:Int)).at_ < (li.length:Int)∧(gi li (gi ld (j:Int)).at_).op≠0:=by
 obtain ⟨-,-,-,h4,h5⟩:=h
 obtain ⟨d1,d2,d3,d4⟩:=h5 j hj
 refine ⟨d2,d3.1,by omega,?_⟩
 have hi:=h4 (gi ld (j:Int)).at_.toNat (by omega)
 rw [show (((gi ld (j:Int)).at_.toNat:Nat):Int)=(gi ld (j:Int)).at_ by omega] at hi
 generalize gi li (gi ld (j:Int)).at_=x at hi
 unfold InsOk at hi
 omega
theorem ins_sz {x:Ins} {k m a:Int} (h:InsOk x k m a):x.s.size≤1048576:=by
 have e:(⟨#[]⟩:ByteArray).size=0:=rfl
 unfold InsOk at h
 have hn:nameOk x.s=true→x.s.size≤1048576:=fun h=>by
  simp only [nameOk,Bool.and_eq_true,decide_eq_true_eq] at h; omega
 have he:x.s=⟨#[]⟩→x.s.size≤1048576:=fun h=>by rw [h]; decide
 rcases h with h | h | h | h | h | h | h
 ·exact he h.2.2.2
 ·exact he h.2.2.2
 ·exact hn h.2.2.2
 ·exact he h.2.2.2
 ·exact he h.2.2.2
 ·exact he h.2.2.2
 ·exact he h.2.2.2
theorem code_sz {l:List Nd} {li:List Ins} {ld:List Df} (h:CodeOk l li ld):(∀ x∈l,x.s.size≤1048576)∧(∀ x∈li,x.s.size≤1048576)∧(∀ x∈ld,x.s.size≤1048576):=by
 obtain ⟨h1,-,-,h4,h5⟩:=h
 refine ⟨fun x hx=>?_,fun x hx=>?_,fun x hx=>?_⟩
 ·obtain ⟨k,hk,rfl⟩:=List.mem_iff_getElem.1 hx
  have:=node_sz h1 (v:=(k:Int)) (by omega) (by omega)
  rw [gi_nat hk] at this
  exact this
 ·obtain ⟨k,hk,rfl⟩:=List.mem_iff_getElem.1 hx
  have:=ins_sz (h4 k hk)
  rw [gi_nat hk] at this
  exact this
 ·obtain ⟨k,hk,rfl⟩:=List.mem_iff_getElem.1 hx
  have:=(h5 k hk).1
  rw [gi_nat hk] at this
  simp only [nameOk,Bool.and_eq_true,decide_eq_true_eq] at this
  omega
end Go.Proofs.Ytbgkimkbngocjaa.Ax
set_option linter.unusedVariables false
set_option linter.unusedSimpArgs false
set_option maxHeartbeats 4000000
namespace Go.Proofs.Ytbgkimkbngocjaa.Ax
open Go
def Some' (s:RS):Prop:=match s.stk with
 | []=>False
 | [f]=>f.2≠[]
 | _ :: _ :: _=>True
theorem Some'.hd {s:RS} {f:Int × List Int} {r:List (Int × List Int)} (h:s.stk=f :: r) (h2:f.2≠[]):Some' s:=by
 unfold Some'; rw [h]
 cases r with
 | nil=>exact h2
 | cons a r=>trivial
theorem rdStep_some {w:ByteArray} {s:RS} (h:Some' s∨(s=rs0∧(Zt w).getD 0 0≠32)):(∀ s',rdStep w s=.ok s'→Some' s')∧(∀ r,rdStep w s=.error r→r.1≠0):=by
 have hne:s.stk≠[]:=by
  rcases h with h | ⟨rfl,-⟩
  ·intro e; unfold Some' at h; rw [e] at h; exact h
  ·simp [rs0]
 obtain ⟨f,r,hs⟩:∃ f r,s.stk=f :: r:=by
  cases hc:s.stk with
  | nil=>exact absurd hc hne
  | cons f r=>exact ⟨f,r,rfl⟩
 unfold rdStep
 simp only
 split
 ·rename_i h32
  refine ⟨fun s' e=>?_,fun r e=>by cases e⟩
  rcases h with h | ⟨rfl,hb⟩
  ·cases e; exact h
  ·exact absurd h32 hb
 split
 ·refine ⟨fun s' e=>?_,fun r e=>by cases e⟩
  cases e
  unfold Some'; rw [hs]; trivial
 split
 ·rw [hs]
  cases r with
  | nil=>exact ⟨fun s' e=>(by cases e),fun r e=>by cases e; exact (by decide:(5:Int)≠0)⟩
  | cons g r=>exact ⟨fun s' e=>(by cases e; exact Some'.hd rfl (by simp)),fun r e=>by cases e⟩
 split
 ·split
  ·rw [hs]
   exact ⟨fun s' e=>(by cases e; exact Some'.hd rfl (by simp)),fun r e=>by cases e⟩
  ·exact ⟨fun s' e=>(by cases e),fun r e=>by cases e; exact (by decide:(3:Int)≠0)⟩
 ·exact ⟨fun s' e=>(by cases e),fun r e=>by cases e; exact (by decide:(2:Int)≠0)⟩
theorem rdRun_some {w:ByteArray}:∀ (k:Nat) (s:RS),Some' s→(∀ s',rdRun w k s=.ok s'→Some' s')∧(∀ r,rdRun w k s=.error r→r.1≠0)
 | 0,s,h=>⟨fun s' e=>(by cases e; exact h),fun r e=>by cases e⟩
 | k+1,s,h=>by
  rw [rdRun]
  split
  ·obtain ⟨a,b⟩:=rdStep_some (w:=w) (.inl h)
   cases hc:rdStep w s with
   | ok s'=>exact rdRun_some k s' (a s' hc)
   | error r=>exact ⟨fun s' e=>(by cases e),fun r' e=>by cases e; exact b r hc⟩
  ·exact ⟨fun s' e=>(by cases e; exact h),fun r e=>by cases e⟩
theorem rdAns_some {w:ByteArray} (hw:tx0 w=true) (h:(rdAns w).how=0):(rdAns w).list≠[]:=by
 simp only [tx0,Bool.and_eq_true,decide_eq_true_eq] at hw
 obtain ⟨h1,h2⟩:=hw
 by_cases hbig:400 < w.size
 ·rw [rdAns_big hbig] at h; exact absurd h (by show ¬ (1:Int)=0; decide)
 have hl:=numsOf_length w
 have hb:(Zt w).getD 0 0≠32:=by
  cases hc:Zt w with
  | nil=>rw [hc] at hl; simp at hl; omega
  | cons a l=>rw [hc] at h2; simpa using h2
 obtain ⟨k,hk⟩:∃ k,w.size=k+1:=⟨w.size - 1,by omega⟩
 obtain ⟨a,b⟩:=rdStep_some (w:=w) (.inr ⟨rfl,hb⟩)
 have hrun:(∀ s',rdRun w w.size rs0=.ok s'→Some' s')∧(∀ r,rdRun w w.size rs0=.error r→r.1≠0):=by
  rw [hk,rdRun,if_pos (show rs0.at_ < w.size by show 0 < _; omega)]
  cases hc:rdStep w rs0 with
  | ok s'=>exact rdRun_some k s' (a s' hc)
  | error r=>exact ⟨fun s' e=>(by cases e),fun r' e=>by cases e; exact b r hc⟩
 cases hR:rdRun w w.size rs0 with
 | error r =>
  rw [rdAns_err hbig (a:=r.1) (b:=r.2) hR] at h
  exact absurd h (hrun.2 r hR)
 | ok s =>
  have hs:=hrun.1 s hR
  rw [rdAns_ok hbig hR] at h ⊢
  unfold rdFin at h ⊢
  unfold Some' at hs
  cases hc:s.stk with
  | nil=>rw [hc] at hs; exact absurd hs (fun h=>h)
  | cons f r =>
   rw [hc] at hs h
   cases r with
   | nil =>
    simp only at hs h ⊢
    by_cases hp:PoolOk s.out
    ·rw [if_pos hp]; exact hs
    ·rw [if_neg hp] at h; exact absurd h (by show ¬ (6:Int)=0; decide)
   | cons g r=>exact absurd h (by show ¬ (4:Int)=0; decide)
theorem comp_len {p:List Nd} {l:List Int} (hl:l≠[]) (h:(compAns p l).how=0):0 < (compAns p l).L.length:=by
 rcases compAns_two p l with h1 | ⟨-,h2,-,h4,-⟩
 ·exact absurd h h1.1
 ·have:=List.length_pos_iff.2 hl
  obtain ⟨-,a,b,-⟩:=code_op h2 (j:=0) (by omega)
  omega
def wP1:ByteArray:=⟨#[40,112,114,105,110,116,32,49,41]⟩
def pP1:List Nd:=[⟨4,0,⟨#[112,114,105,110,116]⟩,0,0⟩,⟨3,1,⟨#[]⟩,0,0⟩,⟨1,0,⟨#[]⟩,0,0⟩,⟨5,0,⟨#[]⟩,1,2⟩,⟨5,0,⟨#[]⟩,0,3⟩]
theorem cP1_how:(compAns pP1 [4]).how=0:=by decide +kernel
theorem numM_one:numM [49]=(1,true):=by
 rw [numM_eq (x:=1) (by decide) (by decide) (by decide)]
 simp [decOf,digs_lt (n:=1) (by decide)]
theorem rP1:rdAns wP1=⟨pP1,[4],0,9⟩:=by
 have n1:Zt wP1=[40,112,114,105,110,116,32,49,41]:=by decide +kernel
 have w1:wlen (Zt wP1) 1=5:=by decide +kernel
 have w7:wlen (Zt wP1) 7=1:=by decide +kernel
 have e1:wP1.extract 1 6=⟨#[112,114,105,110,116]⟩:=by decide +kernel
 have e7:wP1.extract 7 8=⟨#[49]⟩:=by decide +kernel
 have x1:wordN ⟨#[112,114,105,110,116]⟩=(⟨4,0,⟨#[112,114,105,110,116]⟩,0,0⟩,true):=by
  unfold wordN
  rw [if_neg (by decide +kernel),if_neg (by decide +kernel),numM_nd (by decide +kernel),if_neg (by decide)]
  rw [show nameOk ⟨#[112,114,105,110,116]⟩=true from by decide +kernel]
 have x7:wordN ⟨#[49]⟩=(⟨3,1,⟨#[]⟩,0,0⟩,true):=by
  unfold wordN
  rw [if_neg (by decide +kernel),if_neg (by decide +kernel),show Zt ⟨#[49]⟩=[49] from by decide +kernel,numM_one,if_pos rfl]
 have hz:wP1.size=9:=rfl
 have s0:rdStep wP1 rs0=.ok ⟨1,[(0,[]),(0,[])],[]⟩:=rd_op (b:=40) (by rw [n1]; rfl) rfl
 have s1:rdStep wP1 ⟨1,[(0,[]),(0,[])],[]⟩=.ok ⟨6,[(0,[0]),(0,[])],[⟨4,0,⟨#[112,114,105,110,116]⟩,0,0⟩]⟩:=by
  have:=rd_wd (w:=wP1) (s:=⟨1,[(0,[]),(0,[])],[]⟩) (b:=112) (e:=6) (f:=(0,[])) (r:=[(0,[])]) (by rw [n1]; rfl) (by decide) (by decide) (by decide) (by decide +kernel) (by rw [w1]) (by rw [e1,x1]) rfl
  rw [e1,x1] at this
  exact this
 have s2:rdStep wP1 ⟨6,[(0,[0]),(0,[])],[⟨4,0,⟨#[112,114,105,110,116]⟩,0,0⟩]⟩=.ok ⟨7,[(0,[0]),(0,[])],[⟨4,0,⟨#[112,114,105,110,116]⟩,0,0⟩]⟩:=rd_sp (b:=32) (by rw [n1]; rfl) rfl
 have s3:rdStep wP1 ⟨7,[(0,[0]),(0,[])],[⟨4,0,⟨#[112,114,105,110,116]⟩,0,0⟩]⟩=.ok ⟨8,[(0,[0,1]),(0,[])],[⟨4,0,⟨#[112,114,105,110,116]⟩,0,0⟩,⟨3,1,⟨#[]⟩,0,0⟩]⟩:=by
  have:=rd_wd (w:=wP1) (s:=⟨7,[(0,[0]),(0,[])],[⟨4,0,⟨#[112,114,105,110,116]⟩,0,0⟩]⟩) (b:=49) (e:=8) (f:=(0,[0])) (r:=[(0,[])]) (by rw [n1]; rfl) (by decide) (by decide) (by decide) (by decide +kernel) (by rw [w7]) (by rw [e7,x7]) rfl
  rw [e7,x7] at this
  exact this
 have s4:rdStep wP1 ⟨8,[(0,[0,1]),(0,[])],[⟨4,0,⟨#[112,114,105,110,116]⟩,0,0⟩,⟨3,1,⟨#[]⟩,0,0⟩]⟩=.ok ⟨9,[(0,[4])],pP1⟩:=rd_cl (b:=41) (f:=(0,[0,1])) (g:=(0,[])) (r:=[]) (by rw [n1]; rfl) rfl rfl
 have hrun:rdRun wP1 wP1.size rs0=.ok ⟨9,[(0,[4])],pP1⟩:=by
  show rdRun wP1 (8+1) rs0=_
  rw [rdRun_ok (by decide) s0,rdRun_ok (by decide) s1,rdRun_ok (by decide) s2,rdRun_ok (by decide) s3,rdRun_ok (by decide) s4,rdRun_end (by decide)]
 rw [rdAns_ok (by decide) hrun]
 unfold rdFin
 simp only
 rw [if_pos (by decide +kernel)]
 rfl
theorem aP1:(compAns (rdAns wP1).pool (rdAns wP1).list).how=0:=by rw [rP1]; exact cP1_how
end Go.Proofs.Ytbgkimkbngocjaa.Ax
set_option linter.unusedVariables false
set_option linter.unusedSimpArgs false
set_option maxHeartbeats 4000000
namespace Go.Proofs.Ytbgkimkbngocjaa.Ax
open Go
abbrev Drawn (c:Nat) (d:Int) (b:Nat):Prop:=∀ {H:Hp} {n:Nat},Cu c n H→RtD Try.prog 78 [ptr c 0,.int .i64 d] c H n (fun v _ _=>∃ x:ByteArray,v=.string x∧tx0 x=true∧x.size≤b)
theorem d078 {c:Nat} (d:Int) (hd:d≤0):Drawn c d 12:=by
 intro H n hc
 apply RtD.mk
 rw [c78]; unfold S78
 ((repeat(first|((with_reducible first|apply Wp.gs|apply Wp.cs|apply Zc|apply Zg|apply Zd|apply Zi|apply Wp.step);case h=>((try simp(disch:=omega)only[↓reduceIte,Za,↓X0,X1,Nat.reduceEqDiff,Int.reduceEq,Nat.reduceAdd,Nat.reduceSub,hd]);with_reducible first|done|exact rfl|exact bT|exact bF))|apply Zf|apply Zj|with_reducible apply Zk|simp only[↓X3]|with_reducible apply Zb));try(with_reducible apply Zm;case h=>((try simp(disch:=omega)only[X1,Nat.reduceEqDiff,hd]);with_reducible exact rfl)))
 refine Wp.bslS tx12 (by decide +kernel) (by decide +kernel) (by decide) (by decide +kernel) (by simp [strsOf]) ?_
 intro xs H1 h1 h2 s1 h3
 have hcn:=hc.1
 ((repeat(first|((with_reducible first|apply Wp.gs|apply Wp.cs|apply Zc|apply Zg|apply Zd|apply Zi|apply Wp.step);case h=>((try simp(disch:=omega)only[↓reduceIte,Za,↓X0,X1,Nat.reduceEqDiff,Int.reduceEq,Nat.reduceAdd,Nat.reduceSub]);with_reducible first|done|exact rfl|exact bT|exact bF))|apply Zf|apply Zj|with_reducible apply Zk|simp only[↓X3]|with_reducible apply Zb));try(with_reducible apply Zm;case h=>((try simp(disch:=omega)only[X1,Nat.reduceEqDiff]);with_reducible exact rfl)))
 refine Yh (k58 (hc.mv (by omega) (fun i hi=>s1 i (by omega))) (h3.lst (by omega)) (h3.off (by omega)) h1) ?_
 rintro _ H2 n2 q2 s2 c2 ⟨x,rfl,hx⟩
 have:=h2 x hx
 simp only [tx12,Bool.and_eq_true,decide_eq_true_eq] at this
 (repeat(first|((with_reducible first|apply Wp.gs|apply Wp.cs|apply Zc|apply Zg|apply Zd|apply Zi|apply Wp.step);case h=>((try simp(disch:=omega)only[↓reduceIte,Za,↓X0,X1,Nat.reduceEqDiff,Int.reduceEq,Nat.reduceAdd,Nat.reduceSub]);with_reducible first|done|exact rfl|exact bT|exact bF))|apply Zf|apply Zj|with_reducible apply Zk|simp only[↓X3]|with_reducible apply Zb))
 exact Wp.pure ⟨by simp only; omega,fun i hi hne=>(s2 i (by omega) hne).trans (s1 i (by omega)),c2.up (by simp only; omega),x,rfl,this.1,this.2⟩
theorem dS78 {c:Nat} (d:Int) (h0:0 < d) (h9:d≤100) (b1 b2:Nat) (hb1:b1≤1000) (hb2:b2≤1000) (ih1:Drawn c (d - 1) b1) (ih2:Drawn c (d - 2) b2):Drawn c d (2 * b1+b2+60):=by
 intro H n hc
 apply RtD.mk
 rw [c78]; unfold S78
 have hd:¬ d≤0:=by omega
 have w1:IntKind.i64.wrap (d - 1)=d - 1:=w64 (by omega)
 have w2:IntKind.i64.wrap (d - 2)=d - 2:=w64 (by omega)
 have hcn:=hc.1
 ((repeat(first|((with_reducible first|apply Wp.gs|apply Wp.cs|apply Zc|apply Zg|apply Zd|apply Zi|apply Wp.step);case h=>((try simp(disch:=omega)only[↓reduceIte,Za,↓X0,X1,Nat.reduceEqDiff,Int.reduceEq,Nat.reduceAdd,Nat.reduceSub,hd,w1]);with_reducible first|done|exact rfl|exact bT|exact bF))|apply Zf|apply Zj|with_reducible apply Zk|simp only[↓X3]|with_reducible apply Zb));try(with_reducible apply Zm;case h=>((try simp(disch:=omega)only[X1,Nat.reduceEqDiff,hd,w1]);with_reducible exact rfl)))
 refine Yh (ih1 (hc.up (by omega))) ?_
 rintro _ H1 n1 q1 s1 c1 ⟨x,rfl,hx,hxb⟩
 ((repeat(first|((with_reducible first|apply Wp.gs|apply Wp.cs|apply Zc|apply Zg|apply Zd|apply Zi|apply Wp.step);case h=>((try simp(disch:=omega)only[↓reduceIte,Za,↓X0,X1,Nat.reduceEqDiff,Int.reduceEq,Nat.reduceAdd,Nat.reduceSub,w1]);with_reducible first|done|exact rfl|exact bT|exact bF))|apply Zf|apply Zj|with_reducible apply Zk|simp only[↓X3]|with_reducible apply Zb));try(with_reducible apply Zm;case h=>((try simp(disch:=omega)only[X1,Nat.reduceEqDiff,w1]);with_reducible exact rfl)))
 refine Yh (ih1 (c1.up (by omega))) ?_
 rintro _ H2 n2 q2 s2 c2 ⟨y,rfl,hy,hyb⟩
 ((repeat(first|((with_reducible first|apply Wp.gs|apply Wp.cs|apply Zc|apply Zg|apply Zd|apply Zi|apply Wp.step);case h=>((try simp(disch:=omega)only[↓reduceIte,Za,↓X0,X1,Nat.reduceEqDiff,Int.reduceEq,Nat.reduceAdd,Nat.reduceSub]);with_reducible first|done|exact rfl|exact bT|exact bF))|apply Zf|apply Zj|with_reducible apply Zk|simp only[↓X3]|with_reducible apply Zb));try(with_reducible apply Zm;case h=>((try simp(disch:=omega)only[X1,Nat.reduceEqDiff]);with_reducible exact rfl)))
 refine Yh (k38 (c2.up (by omega)) 9) ?_
 rintro _ H3 n3 q3 s3 c3 ⟨r,rfl,-,hr⟩
 have hr:=hr (by omega)
 by_cases h0:r=0
 ·subst h0
  ((repeat(first|((with_reducible first|apply Wp.gs|apply Wp.cs|apply Zc|apply Zg|apply Zd|apply Zi|apply Wp.step);case h=>((try simp(disch:=omega)only[↓reduceIte,Za,↓X0,X1,Nat.reduceEqDiff,Int.reduceEq,Nat.reduceAdd,Nat.reduceSub]);with_reducible first|done|exact rfl|exact bT|exact bF))|apply Zf|apply Zj|with_reducible apply Zk|simp only[↓X3]|with_reducible apply Zb));try(with_reducible apply Zm;case h=>((try simp(disch:=omega)only[X1,Nat.reduceEqDiff]);with_reducible exact rfl)))
  (repeat ((first | refine Wp.saddL (by decide +kernel) (by omega) ?_ | refine Wp.saddR (by decide +kernel) (by assumption) (by omega) ?_ | refine Wp.saddV (by assumption) (by omega) (by omega) ?_); intro _ _ _))
  ((repeat(first|((with_reducible first|apply Wp.gs|apply Wp.cs|apply Zc|apply Zg|apply Zd|apply Zi|apply Wp.step);case h=>((try simp(disch:=omega)only[↓reduceIte,Za,↓X0,X1,Nat.reduceEqDiff,Int.reduceEq,Nat.reduceAdd,Nat.reduceSub,w2]);with_reducible first|done|exact rfl|exact bT|exact bF))|apply Zf|apply Zj|with_reducible apply Zk|simp only[↓X3]|with_reducible apply Zb));try(with_reducible apply Zm;case h=>((try simp(disch:=omega)only[X1,Nat.reduceEqDiff,w2]);with_reducible exact rfl)))
  refine Yh (ih2 (c3.up (by omega))) ?_
  rintro _ H4 n4 q4 s4 c4 ⟨z,rfl,hz,hzb⟩
  ((repeat(first|((with_reducible first|apply Wp.gs|apply Wp.cs|apply Zc|apply Zg|apply Zd|apply Zi|apply Wp.step);case h=>((try simp(disch:=omega)only[↓reduceIte,Za,↓X0,X1,Nat.reduceEqDiff,Int.reduceEq,Nat.reduceAdd,Nat.reduceSub]);with_reducible first|done|exact rfl|exact bT|exact bF))|apply Zf|apply Zj|with_reducible apply Zk|simp only[↓X3]|with_reducible apply Zb));try(with_reducible apply Zm;case h=>((try simp(disch:=omega)only[X1,Nat.reduceEqDiff]);with_reducible exact rfl)))
  (repeat ((first | refine Wp.saddL (by decide +kernel) (by omega) ?_ | refine Wp.saddR (by decide +kernel) (by assumption) (by omega) ?_ | refine Wp.saddV (by assumption) (by omega) (by omega) ?_); intro _ _ _))
  exact Wp.pure ⟨by simp only; omega,(by intros;first|with_reducible rfl|simp(disch:=omega)only[Ze,Zh,s4,s3,s2,s1]),c4.up (by simp only; omega),_,rfl,by assumption,by omega⟩
 by_cases h1:r=1
 ·subst h1
  ((repeat(first|((with_reducible first|apply Wp.gs|apply Wp.cs|apply Zc|apply Zg|apply Zd|apply Zi|apply Wp.step);case h=>((try simp(disch:=omega)only[↓reduceIte,Za,↓X0,X1,Nat.reduceEqDiff,Int.reduceEq,Nat.reduceAdd,Nat.reduceSub,(show ¬ (1:Int)=0 by decide)]);with_reducible first|done|exact rfl|exact bT|exact bF))|apply Zf|apply Zj|with_reducible apply Zk|simp only[↓X3]|with_reducible apply Zb));try(with_reducible apply Zm;case h=>((try simp(disch:=omega)only[X1,Nat.reduceEqDiff,(show ¬ (1:Int)=0 by decide)]);with_reducible exact rfl)))
  (repeat ((first | refine Wp.saddL (by decide +kernel) (by omega) ?_ | refine Wp.saddR (by decide +kernel) (by assumption) (by omega) ?_ | refine Wp.saddV (by assumption) (by omega) (by omega) ?_); intro _ _ _))
  exact Wp.pure ⟨by simp only; omega,(by intros;first|with_reducible rfl|simp(disch:=omega)only[Ze,Zh,s3,s2,s1]),c3.up (by simp only; omega),_,rfl,by assumption,by omega⟩
 by_cases h2:r=2
 ·subst h2
  ((repeat(first|((with_reducible first|apply Wp.gs|apply Wp.cs|apply Zc|apply Zg|apply Zd|apply Zi|apply Wp.step);case h=>((try simp(disch:=omega)only[↓reduceIte,Za,↓X0,X1,Nat.reduceEqDiff,Int.reduceEq,Nat.reduceAdd,Nat.reduceSub,(show ¬ (2:Int)=0 by decide),(show ¬ (2:Int)=1 by decide)]);with_reducible first|done|exact rfl|exact bT|exact bF))|apply Zf|apply Zj|with_reducible apply Zk|simp only[↓X3]|with_reducible apply Zb));try(with_reducible apply Zm;case h=>((try simp(disch:=omega)only[X1,Nat.reduceEqDiff,(show ¬ (2:Int)=0 by decide),(show ¬ (2:Int)=1 by decide)]);with_reducible exact rfl)))
  (repeat ((first | refine Wp.saddL (by decide +kernel) (by omega) ?_ | refine Wp.saddR (by decide +kernel) (by assumption) (by omega) ?_ | refine Wp.saddV (by assumption) (by omega) (by omega) ?_); intro _ _ _))
  exact Wp.pure ⟨by simp only; omega,(by intros;first|with_reducible rfl|simp(disch:=omega)only[Ze,Zh,s3,s2,s1]),c3.up (by simp only; omega),_,rfl,by assumption,by omega⟩
 by_cases h3:r=3
 ·subst h3
  ((repeat(first|((with_reducible first|apply Wp.gs|apply Wp.cs|apply Zc|apply Zg|apply Zd|apply Zi|apply Wp.step);case h=>((try simp(disch:=omega)only[↓reduceIte,Za,↓X0,X1,Nat.reduceEqDiff,Int.reduceEq,Nat.reduceAdd,Nat.reduceSub,(show ¬ (3:Int)=0 by decide),(show ¬ (3:Int)=1 by decide),(show ¬ (3:Int)=2 by decide)]);with_reducible first|done|exact rfl|exact bT|exact bF))|apply Zf|apply Zj|with_reducible apply Zk|simp only[↓X3]|with_reducible apply Zb));try(with_reducible apply Zm;case h=>((try simp(disch:=omega)only[X1,Nat.reduceEqDiff,(show ¬ (3:Int)=0 by decide),(show ¬ (3:Int)=1 by decide),(show ¬ (3:Int)=2 by decide)]);with_reducible exact rfl)))
  (repeat ((first | refine Wp.saddL (by decide +kernel) (by omega) ?_ | refine Wp.saddR (by decide +kernel) (by assumption) (by omega) ?_ | refine Wp.saddV (by assumption) (by omega) (by omega) ?_); intro _ _ _))
  exact Wp.pure ⟨by simp only; omega,(by intros;first|with_reducible rfl|simp(disch:=omega)only[Ze,Zh,s3,s2,s1]),c3.up (by simp only; omega),_,rfl,by assumption,by omega⟩
 by_cases h4:r=4
 ·subst h4
  ((repeat(first|((with_reducible first|apply Wp.gs|apply Wp.cs|apply Zc|apply Zg|apply Zd|apply Zi|apply Wp.step);case h=>((try simp(disch:=omega)only[↓reduceIte,Za,↓X0,X1,Nat.reduceEqDiff,Int.reduceEq,Nat.reduceAdd,Nat.reduceSub,(show ¬ (4:Int)=0 by decide),(show ¬ (4:Int)=1 by decide),(show ¬ (4:Int)=2 by decide),(show ¬ (4:Int)=3 by decide)]);with_reducible first|done|exact rfl|exact bT|exact bF))|apply Zf|apply Zj|with_reducible apply Zk|simp only[↓X3]|with_reducible apply Zb));try(with_reducible apply Zm;case h=>((try simp(disch:=omega)only[X1,Nat.reduceEqDiff,(show ¬ (4:Int)=0 by decide),(show ¬ (4:Int)=1 by decide),(show ¬ (4:Int)=2 by decide),(show ¬ (4:Int)=3 by decide)]);with_reducible exact rfl)))
  (repeat ((first | refine Wp.saddL (by decide +kernel) (by omega) ?_ | refine Wp.saddR (by decide +kernel) (by assumption) (by omega) ?_ | refine Wp.saddV (by assumption) (by omega) (by omega) ?_); intro _ _ _))
  exact Wp.pure ⟨by simp only; omega,(by intros;first|with_reducible rfl|simp(disch:=omega)only[Ze,Zh,s3,s2,s1]),c3.up (by simp only; omega),_,rfl,by assumption,by omega⟩
 by_cases h5:r=5
 ·subst h5
  ((repeat(first|((with_reducible first|apply Wp.gs|apply Wp.cs|apply Zc|apply Zg|apply Zd|apply Zi|apply Wp.step);case h=>((try simp(disch:=omega)only[↓reduceIte,Za,↓X0,X1,Nat.reduceEqDiff,Int.reduceEq,Nat.reduceAdd,Nat.reduceSub,(show ¬ (5:Int)=0 by decide),(show ¬ (5:Int)=1 by decide),(show ¬ (5:Int)=2 by decide),(show ¬ (5:Int)=3 by decide),(show ¬ (5:Int)=4 by decide)]);with_reducible first|done|exact rfl|exact bT|exact bF))|apply Zf|apply Zj|with_reducible apply Zk|simp only[↓X3]|with_reducible apply Zb));try(with_reducible apply Zm;case h=>((try simp(disch:=omega)only[X1,Nat.reduceEqDiff,(show ¬ (5:Int)=0 by decide),(show ¬ (5:Int)=1 by decide),(show ¬ (5:Int)=2 by decide),(show ¬ (5:Int)=3 by decide),(show ¬ (5:Int)=4 by decide)]);with_reducible exact rfl)))
  (repeat ((first | refine Wp.saddL (by decide +kernel) (by omega) ?_ | refine Wp.saddR (by decide +kernel) (by assumption) (by omega) ?_ | refine Wp.saddV (by assumption) (by omega) (by omega) ?_); intro _ _ _))
  exact Wp.pure ⟨by simp only; omega,(by intros;first|with_reducible rfl|simp(disch:=omega)only[Ze,Zh,s3,s2,s1]),c3.up (by simp only; omega),_,rfl,by assumption,by omega⟩
 by_cases h6:r=6
 ·subst h6
  ((repeat(first|((with_reducible first|apply Wp.gs|apply Wp.cs|apply Zc|apply Zg|apply Zd|apply Zi|apply Wp.step);case h=>((try simp(disch:=omega)only[↓reduceIte,Za,↓X0,X1,Nat.reduceEqDiff,Int.reduceEq,Nat.reduceAdd,Nat.reduceSub,(show ¬ (6:Int)=0 by decide),(show ¬ (6:Int)=1 by decide),(show ¬ (6:Int)=2 by decide),(show ¬ (6:Int)=3 by decide),(show ¬ (6:Int)=4 by decide),(show ¬ (6:Int)=5 by decide)]);with_reducible first|done|exact rfl|exact bT|exact bF))|apply Zf|apply Zj|with_reducible apply Zk|simp only[↓X3]|with_reducible apply Zb));try(with_reducible apply Zm;case h=>((try simp(disch:=omega)only[X1,Nat.reduceEqDiff,(show ¬ (6:Int)=0 by decide),(show ¬ (6:Int)=1 by decide),(show ¬ (6:Int)=2 by decide),(show ¬ (6:Int)=3 by decide),(show ¬ (6:Int)=4 by decide),(show ¬ (6:Int)=5 by decide)]);with_reducible exact rfl)))
  refine Wp.bslS tx12 (by decide +kernel) (by decide +kernel) (by decide) (by decide +kernel) (by simp [strsOf]) ?_
  intro xs H4 a1 a2 s4 a3
  have hc3:=c3.1
  ((repeat(first|((with_reducible first|apply Wp.gs|apply Wp.cs|apply Zc|apply Zg|apply Zd|apply Zi|apply Wp.step);case h=>((try simp(disch:=omega)only[↓reduceIte,Za,↓X0,X1,Nat.reduceEqDiff,Int.reduceEq,Nat.reduceAdd,Nat.reduceSub]);with_reducible first|done|exact rfl|exact bT|exact bF))|apply Zf|apply Zj|with_reducible apply Zk|simp only[↓X3]|with_reducible apply Zb));try(with_reducible apply Zm;case h=>((try simp(disch:=omega)only[X1,Nat.reduceEqDiff]);with_reducible exact rfl)))
  refine Yh (k58 (c3.mv (by omega) (fun i hi=>s4 i (by omega))) (a3.lst (by omega)) (a3.off (by omega)) a1) ?_
  rintro _ H5 n5 q5 s5 c5 ⟨z,rfl,hz⟩
  have hz:=a2 z hz
  simp only [tx12,Bool.and_eq_true,decide_eq_true_eq] at hz
  ((repeat(first|((with_reducible first|apply Wp.gs|apply Wp.cs|apply Zc|apply Zg|apply Zd|apply Zi|apply Wp.step);case h=>((try simp(disch:=omega)only[↓reduceIte,Za,↓X0,X1,Nat.reduceEqDiff,Int.reduceEq,Nat.reduceAdd,Nat.reduceSub]);with_reducible first|done|exact rfl|exact bT|exact bF))|apply Zf|apply Zj|with_reducible apply Zk|simp only[↓X3]|with_reducible apply Zb));try(with_reducible apply Zm;case h=>((try simp(disch:=omega)only[X1,Nat.reduceEqDiff]);with_reducible exact rfl)))
  (repeat ((first | refine Wp.saddL (by decide +kernel) (by omega) ?_ | refine Wp.saddR (by decide +kernel) (by assumption) (by omega) ?_ | refine Wp.saddV (by assumption) (by omega) (by omega) ?_); intro _ _ _))
  exact Wp.pure ⟨by simp only; omega,(by intros;first|with_reducible rfl|simp(disch:=omega)only[Ze,Zh,s5,s4,s3,s2,s1]),c5.up (by simp only; omega),_,rfl,by assumption,by omega⟩
 by_cases h7:r=7
 ·subst h7
  ((repeat(first|((with_reducible first|apply Wp.gs|apply Wp.cs|apply Zc|apply Zg|apply Zd|apply Zi|apply Wp.step);case h=>((try simp(disch:=omega)only[↓reduceIte,Za,↓X0,X1,Nat.reduceEqDiff,Int.reduceEq,Nat.reduceAdd,Nat.reduceSub,(show ¬ (7:Int)=0 by decide),(show ¬ (7:Int)=1 by decide),(show ¬ (7:Int)=2 by decide),(show ¬ (7:Int)=3 by decide),(show ¬ (7:Int)=4 by decide),(show ¬ (7:Int)=5 by decide),(show ¬ (7:Int)=6 by decide)]);with_reducible first|done|exact rfl|exact bT|exact bF))|apply Zf|apply Zj|with_reducible apply Zk|simp only[↓X3]|with_reducible apply Zb));try(with_reducible apply Zm;case h=>((try simp(disch:=omega)only[X1,Nat.reduceEqDiff,(show ¬ (7:Int)=0 by decide),(show ¬ (7:Int)=1 by decide),(show ¬ (7:Int)=2 by decide),(show ¬ (7:Int)=3 by decide),(show ¬ (7:Int)=4 by decide),(show ¬ (7:Int)=5 by decide),(show ¬ (7:Int)=6 by decide)]);with_reducible exact rfl)))
  refine Wp.bslS tx12 (by decide +kernel) (by decide +kernel) (by decide) (by decide +kernel) (by simp [strsOf]) ?_
  intro xs H4 a1 a2 s4 a3
  have hc3:=c3.1
  ((repeat(first|((with_reducible first|apply Wp.gs|apply Wp.cs|apply Zc|apply Zg|apply Zd|apply Zi|apply Wp.step);case h=>((try simp(disch:=omega)only[↓reduceIte,Za,↓X0,X1,Nat.reduceEqDiff,Int.reduceEq,Nat.reduceAdd,Nat.reduceSub]);with_reducible first|done|exact rfl|exact bT|exact bF))|apply Zf|apply Zj|with_reducible apply Zk|simp only[↓X3]|with_reducible apply Zb));try(with_reducible apply Zm;case h=>((try simp(disch:=omega)only[X1,Nat.reduceEqDiff]);with_reducible exact rfl)))
  refine Yh (k58 (c3.mv (by omega) (fun i hi=>s4 i (by omega))) (a3.lst (by omega)) (a3.off (by omega)) a1) ?_
  rintro _ H5 n5 q5 s5 c5 ⟨z,rfl,hz⟩
  have hz:=a2 z hz
  simp only [tx12,Bool.and_eq_true,decide_eq_true_eq] at hz
  ((repeat(first|((with_reducible first|apply Wp.gs|apply Wp.cs|apply Zc|apply Zg|apply Zd|apply Zi|apply Wp.step);case h=>((try simp(disch:=omega)only[↓reduceIte,Za,↓X0,X1,Nat.reduceEqDiff,Int.reduceEq,Nat.reduceAdd,Nat.reduceSub]);with_reducible first|done|exact rfl|exact bT|exact bF))|apply Zf|apply Zj|with_reducible apply Zk|simp only[↓X3]|with_reducible apply Zb));try(with_reducible apply Zm;case h=>((try simp(disch:=omega)only[X1,Nat.reduceEqDiff]);with_reducible exact rfl)))
  (repeat ((first | refine Wp.saddL (by decide +kernel) (by omega) ?_ | refine Wp.saddR (by decide +kernel) (by assumption) (by omega) ?_ | refine Wp.saddV (by assumption) (by omega) (by omega) ?_); intro _ _ _))
  exact Wp.pure ⟨by simp only; omega,(by intros;first|with_reducible rfl|simp(disch:=omega)only[Ze,Zh,s5,s4,s3,s2,s1]),c5.up (by simp only; omega),_,rfl,by assumption,by omega⟩
 (repeat(first|((with_reducible first|apply Wp.gs|apply Wp.cs|apply Zc|apply Zg|apply Zd|apply Zi|apply Wp.step);case h=>((try simp(disch:=omega)only[↓reduceIte,Za,↓X0,X1,Nat.reduceEqDiff,Int.reduceEq,Nat.reduceAdd,Nat.reduceSub,h0,h1,h2,h3,h4,h5,h6,h7]);with_reducible first|done|exact rfl|exact bT|exact bF))|apply Zf|apply Zj|with_reducible apply Zk|simp only[↓X3]|with_reducible apply Zb))
 exact Wp.pure ⟨by simp only; omega,(by intros;first|with_reducible rfl|simp(disch:=omega)only[Ze,Zh,s3,s2,s1]),c3.up (by simp only; omega),x,rfl,hx,by omega⟩
theorem k78 {c:Nat}:Drawn c 3 2000:=by
 have e0:=@d078 c (1 - 1) (by decide)
 have e0':=@d078 c (1 - 2) (by decide)
 have e1:=@dS78 c 1 (by decide) (by decide) 12 12 (by decide) (by decide) e0 e0'
 have e2:=@dS78 c 2 (by decide) (by decide) 96 12 (by decide) (by decide) e1 e0
 have e3:=@dS78 c 3 (by decide) (by decide) 264 96 (by decide) (by decide) e2 e1
 intro H n hc
 obtain ⟨v,H',n',h1,h2,h3,h4,x,h5,h6,h7⟩:=e3 hc
 exact ⟨v,H',n',h1,h2,h3,h4,x,h5,h6,by omega⟩
theorem k34 {c n:Nat} {H:Hp} (hc:Cu c n H):RtD Try.prog 34 [ptr c 0] c H n (fun v _ _=>∃ x:ByteArray,v=.string x∧tx0 x=true∧x.size≤2000):=by
 apply RtD.mk
 rw [c34]; unfold S34
 ((repeat(first|((with_reducible first|apply Wp.gs|apply Wp.cs|apply Zc|apply Zg|apply Zd|apply Zi|apply Wp.step);case h=>((try simp(disch:=omega)only[↓reduceIte,Za,↓X0,X1,Nat.reduceEqDiff,Int.reduceEq,Nat.reduceAdd,Nat.reduceSub]);with_reducible first|done|exact rfl|exact bT|exact bF))|apply Zf|apply Zj|with_reducible apply Zk|simp only[↓X3]|with_reducible apply Zb));try(with_reducible apply Zm;case h=>((try simp(disch:=omega)only[X1,Nat.reduceEqDiff]);with_reducible exact rfl)))
 refine Yh (k35 (hc.up (by omega)) 4) ?_
 rintro _ H1 n1 q1 s1 c1 ⟨b,rfl⟩
 cases b with
 | false =>
  have hc1:=c1.1
  ((repeat(first|((with_reducible first|apply Wp.gs|apply Wp.cs|apply Zc|apply Zg|apply Zd|apply Zi|apply Wp.step);case h=>((try simp(disch:=omega)only[↓reduceIte,Za,↓X0,X1,Nat.reduceEqDiff,Int.reduceEq,Nat.reduceAdd,Nat.reduceSub]);with_reducible first|done|exact rfl|exact bT|exact bF))|apply Zf|apply Zj|with_reducible apply Zk|simp only[↓X3]|with_reducible apply Zb));try(with_reducible apply Zm;case h=>((try simp(disch:=omega)only[X1,Nat.reduceEqDiff]);with_reducible exact rfl)))
  refine Wp.rtn (k77 _ _) ?_
  rintro w H2 n2 q2 s2 ⟨xs,h1,h2,id,i1,i2,i3⟩
  ((repeat(first|((with_reducible first|apply Wp.gs|apply Wp.cs|apply Zc|apply Zg|apply Zd|apply Zi|apply Wp.step);case h=>((try simp(disch:=omega)only[↓reduceIte,Za,↓X0,X1,Nat.reduceEqDiff,Int.reduceEq,Nat.reduceAdd,Nat.reduceSub]);with_reducible first|done|exact rfl|exact bT|exact bF))|apply Zf|apply Zj|with_reducible apply Zk|simp only[↓X3]|with_reducible apply Zb));try(with_reducible apply Zm;case h=>((try simp(disch:=omega)only[X1,Nat.reduceEqDiff]);with_reducible exact rfl)))
  refine Yh (k58 (c1.mv (by omega) (by intros;first|with_reducible rfl|simp(disch:=omega)only[Ze,Zh,s2])) (i3.lst i2) (i3.off (by omega)) h1) ?_
  rintro _ H3 n3 q3 s3 c3 ⟨x,rfl,hx⟩
  have:=h2 x hx
  simp only [tx400,Bool.and_eq_true,decide_eq_true_eq] at this
  (repeat(first|((with_reducible first|apply Wp.gs|apply Wp.cs|apply Zc|apply Zg|apply Zd|apply Zi|apply Wp.step);case h=>((try simp(disch:=omega)only[↓reduceIte,Za,↓X0,X1,Nat.reduceEqDiff,Int.reduceEq,Nat.reduceAdd,Nat.reduceSub]);with_reducible first|done|exact rfl|exact bT|exact bF))|apply Zf|apply Zj|with_reducible apply Zk|simp only[↓X3]|with_reducible apply Zb))
  exact Wp.pure ⟨by simp only; omega,(by intros;first|with_reducible rfl|simp(disch:=omega)only[Ze,Zh,s3,s2,s1]),c3.up (by simp only; omega),x,rfl,this.1,by omega⟩
 | true =>
  ((repeat(first|((with_reducible first|apply Wp.gs|apply Wp.cs|apply Zc|apply Zg|apply Zd|apply Zi|apply Wp.step);case h=>((try simp(disch:=omega)only[↓reduceIte,Za,↓X0,X1,Nat.reduceEqDiff,Int.reduceEq,Nat.reduceAdd,Nat.reduceSub]);with_reducible first|done|exact rfl|exact bT|exact bF))|apply Zf|apply Zj|with_reducible apply Zk|simp only[↓X3]|with_reducible apply Zb));try(with_reducible apply Zm;case h=>((try simp(disch:=omega)only[X1,Nat.reduceEqDiff]);with_reducible exact rfl)))
  refine Yh (k78 (c1.up (by omega))) ?_
  rintro _ H2 n2 q2 s2 c2 ⟨x,rfl,hx,hxb⟩
  (repeat(first|((with_reducible first|apply Wp.gs|apply Wp.cs|apply Zc|apply Zg|apply Zd|apply Zi|apply Wp.step);case h=>((try simp(disch:=omega)only[↓reduceIte,Za,↓X0,X1,Nat.reduceEqDiff,Int.reduceEq,Nat.reduceAdd,Nat.reduceSub]);with_reducible first|done|exact rfl|exact bT|exact bF))|apply Zf|apply Zj|with_reducible apply Zk|simp only[↓X3]|with_reducible apply Zb))
  exact Wp.pure ⟨by simp only; omega,(by intros;first|with_reducible rfl|simp(disch:=omega)only[Ze,Zh,s2,s1]),c2.up (by simp only; omega),x,rfl,hx,hxb⟩
end Go.Proofs.Ytbgkimkbngocjaa.Ax
set_option linter.unusedVariables false
set_option linter.unusedSimpArgs false
set_option maxHeartbeats 4000000
namespace Go.Proofs.Ytbgkimkbngocjaa.Ax
open Go
structure LO {α:Type} (E:Enc α) (c il n:Nat) (H:Hp) (w:Value) (l:List α):Prop where
 li:Li E n H w l
 oc:Off c w
 oi:Off il w
theorem LO.mv {α:Type} {E:Enc α} {c il il' n m:Nat} {H H':Hp} {w:Value} {l:List α} (h:LO E c il n H w l) (hm:n≤m) (hs:∀ i,i < n→i≠c→i≠il→H' i=H i) (hi:il'=il∨n≤il'):LO E c il' m H' w l:=by
 refine ⟨(h.li.keep' fun i o a k e=>hs i (h.li.2 i o a k e) (h.oc i o a k e) (h.oi i o a k e)).up hm,h.oc,?_⟩
 rcases hi with rfl | hi
 ·exact h.oi
 ·exact h.li.off hi
theorem LO.li' {α:Type} {E:Enc α} {c il n m:Nat} {H H':Hp} {w:Value} {l:List α} (h:LO E c il n H w l) (hm:n≤m) (hs:∀ i,i < n→i≠c→i≠il→H' i=H i):Li E m H' w l:=(h.mv hm hs (.inl rfl)).li
theorem At.lo {α:Type} {E:Enc α} {id c il n:Nat} {H:Hp} {w:Value} {l:List α} (h:At E id H w l) (hn:id < n) (hc:id≠c) (hi:id≠il):LO E c il n H w l:=by
 refine ⟨h.lst hn,?_,?_⟩ <;> (rcases h with ⟨rfl,_⟩ | ⟨rfl,_⟩) <;> intro i o a k e <;> cases e <;> assumption
theorem sliceV_off {sz:Nat} {v v':Value} {lo hi:Option Value} (h:sliceV sz v lo hi=some v') {c:Nat} (ho:Off c v):Off c v':=by
 unfold sliceV at h
 split at h
 ·rename_i str
  cases hb:bnd 0 lo with
  | none=>simp [hb] at h
  | some a =>
   cases hb2:bnd str.size hi with
   | none=>simp [hb,hb2] at h
   | some b =>
    simp only [hb,hb2,Option.bind_some] at h
    split at h
    ·cases h; intro i o a k e; cases e
    ·cases h
 ·cases hb:bnd 0 lo with
  | none=>simp [hb] at h
  | some a =>
   cases hb2:bnd 0 hi with
   | none=>simp [hb,hb2] at h
   | some b =>
    simp only [hb,hb2,Option.bind_some] at h
    split at h
    ·cases h; intro i o a k e; cases e
    ·cases h
 ·rename_i i o n q
  cases hb:bnd 0 lo with
  | none=>simp [hb] at h
  | some a =>
   cases hb2:bnd n hi with
   | none=>simp [hb,hb2] at h
   | some b =>
    simp only [hb,hb2,Option.bind_some] at h
    split at h
    ·split at h
     ·cases h; intro i o a k e; cases e
     ·cases h; intro i' o' a' k' e; cases e; exact ho _ _ _ _ rfl
    ·cases h
 ·cases hb:bnd 0 lo with
  | none=>simp [hb] at h
  | some a =>
   cases hb2:bnd 0 hi with
   | none=>simp [hb,hb2] at h
   | some b =>
    simp only [hb,hb2,Option.bind_some] at h
    split at h
    ·cases h; intro i o a k e; cases e
    ·cases h
 ·cases h
theorem LO.slice {α:Type} {E:Enc α} {c il n:Nat} {H:Hp} {w:Value} {l:List α} (h:LO E c il n H w l) (hz:0 < E.sz) (lo hi:Option Value) (a b:Nat) (ha:bnd 0 lo=some a) (hb:∀ d,d=l.length→bnd d hi=some b) (hab:a≤b) (hbl:b≤l.length):∃ w',sliceV E.sz w lo hi=some w'∧LO E c il n H w' ((l.drop a).take (b - a)):=by
 obtain ⟨w',h1,h2⟩:=h.li.slice hz lo hi a b ha hb hab hbl
 exact ⟨w',h1,h2,sliceV_off h1 h.oc,sliceV_off h1 h.oi⟩
abbrev eVl:Enc Value:=⟨1,fun x=>[x],fun _=>rfl⟩
theorem Li.vAll {n:Nat} {H:Hp} {v:Value} {l:List Value} (h:Li eVl n H v l) {i:Int} (h0:0≤i) (h1:i < l.length):(∀ k,idxA 1 v (.int k i)=some (elP 1 v i.toNat))∧ld false 1 (elP 1 v i.toNat) H=some (l[i.toNat]'(by omega)) :=
 ⟨fun k=>h.idx h0 h1,h.ldc h0 h1 rfl⟩
structure EV (c il n:Nat) (H:Hp) (w:Value) (e:List (List ByteArray)):Prop where
 ex:∃ ws:List Value,LO eVl c il n H w ws∧ws.length=e.length∧∀ (i:Nat) (h1:i < ws.length) (h2:i < e.length),LO eStr c il n H ws[i] e[i]∧cell1 ws[i]=true
theorem EV.mv {c il il' n m:Nat} {H H':Hp} {w:Value} {e:List (List ByteArray)} (h:EV c il n H w e) (hm:n≤m) (hs:∀ i,i < n→i≠c→i≠il→H' i=H i) (hi:il'=il∨n≤il'):EV c il' m H' w e:=by
 obtain ⟨ws,h1,h2,h3⟩:=h.ex
 exact ⟨ws,h1.mv hm hs hi,h2,fun i a b=>⟨(h3 i a b).1.mv hm hs hi,(h3 i a b).2⟩⟩
structure CC (c il n:Nat) (H:Hp) (v ul ud:Value) (s:CS):Prop where
 hc:H c=some (.row [v,ul,ud,.int .i64 s.how] 0 true)
 al:At eIns il H ul s.L
 cn:c < n
 iln:il < n
 ne:il≠c
 len:s.L.length≤400
 hr:0≤s.how∧s.how≤3
theorem CC.mv {c il n m:Nat} {H H':Hp} {v ul ud:Value} {s:CS} (h:CC c il n H v ul ud s) (hm:n≤m) (h1:H' c=H c) (h2:H' il=H il):CC c il m H' v ul ud s :=
 ⟨by rw [h1]; exact h.hc,h.al.mv h2,by have:=h.cn; omega,by have:=h.iln; omega,h.ne,h.len,h.hr⟩
end Go.Proofs.Ytbgkimkbngocjaa.Ax
set_option linter.unusedVariables false
set_option linter.unusedSimpArgs false
set_option maxHeartbeats 4000000
namespace Go.Proofs.Ytbgkimkbngocjaa.Ax
open Go
theorem bld_ins (a b c:Int):bld [.int .i64 0,.int .i64 0,.int .i64 0,.string ⟨#[]⟩] [(0,1,.int .i64 a),(1,1,.int .i64 b),(2,1,.int .i64 c)]=some (.agg ⟨(Yd a b c).cells⟩):=rfl
theorem bld_ins2 (a b:Int):bld [.int .i64 0,.int .i64 0,.int .i64 0,.string ⟨#[]⟩] [(0,1,.int .i64 a),(1,1,.int .i64 b)]=some (.agg ⟨(Yd a b 0).cells⟩):=rfl
theorem bld_ins3 (a c:Int):bld [.int .i64 0,.int .i64 0,.int .i64 0,.string ⟨#[]⟩] [(0,1,.int .i64 a),(2,1,.int .i64 c)]=some (.agg ⟨(Yd a 0 c).cells⟩):=rfl
theorem bld_ins1 (a:Int):bld [.int .i64 0,.int .i64 0,.int .i64 0,.string ⟨#[]⟩] [(0,1,.int .i64 a)]=some (.agg ⟨(Yd a 0 0).cells⟩):=rfl
theorem bld_insS (a:Int) (s:ByteArray):bld [.int .i64 0,.int .i64 0,.int .i64 0,.string ⟨#[]⟩] [(0,1,.int .i64 a),(3,1,.string s)]=some (.agg ⟨(⟨a,0,0,s⟩:Ins).cells⟩):=rfl
theorem noDup_range {l:List ByteArray} (h:∀ i:Nat,i < l.length→fIdx (gi l (i:Int)) (l.take i) 0=none):noDup l=true:=by
 unfold noDup
 rw [List.all_eq_true]
 intro i hi
 rw [h i (by simpa using hi)]; rfl
theorem noDup_not {l:List ByteArray} {i k:Nat} (hi:i < l.length) (h:fIdx (gi l (i:Int)) (l.take i) 0=some k):noDup l=false:=by
 unfold noDup
 rw [List.all_eq_false]
 exact ⟨i,by simpa using hi,by rw [h]; simp⟩
theorem isVar_eq (x:Nd):isVar x=(decide (x.k=4) && !special x.s):=rfl
theorem names_take {p:List Nd} {l:List Int} {j:Nat} (h:j < l.length):(l.take (j+1)).map (fun v=>(gi p v).s)=(l.take j).map (fun v=>(gi p v).s)++[(gi p (gi l (j:Int))).s]:=by
 rw [take_next h,List.map_append,gi_nat h]; rfl
theorem cNames_bad {p:List Nd} {l:List Int} {v:Int} (hv:v∈l) (h:isVar (gi p v)=false):cNames p l=([],1):=by
 unfold cNames
 rw [if_neg]
 rintro ⟨h1,_⟩
 rw [List.all_eq_true] at h1
 have:=h1 v hv
 rw [h] at this; cases this
theorem cNames_long {p:List Nd} {l:List Int} (h:4 < l.length):cNames p l=([],1):=by
 unfold cNames
 rw [if_neg (by omega)]
theorem cNames_dup {p:List Nd} {l:List Int} (h:∀ v∈l,isVar (gi p v)=true) (hl:l.length≤4) (hd:noDup (l.map fun v=>(gi p v).s)=false):cNames p l=([],2):=by
 unfold cNames
 rw [if_pos ⟨List.all_eq_true.2 h,hl⟩,hd]; rfl
theorem cNames_ok {p:List Nd} {l:List Int} (h:∀ v∈l,isVar (gi p v)=true) (hl:l.length≤4) (hd:noDup (l.map fun v=>(gi p v).s)=true):cNames p l=(l.map fun v=>(gi p v).s,0):=by
 unfold cNames
 rw [if_pos ⟨List.all_eq_true.2 h,hl⟩,hd]; rfl
theorem mem_take_next {l:List Int} {j:Nat} (hj:j < l.length) {v:Int} (hv:v∈l.take (j+1)):v∈l.take j∨v=gi l (j:Int):=by
 rw [take_next hj] at hv
 rcases List.mem_append.1 hv with h | h
 ·exact .inl h
 ·simp at h; right; rw [gi_nat hj]; exact h
end Go.Proofs.Ytbgkimkbngocjaa.Ax
set_option linter.unusedVariables false
set_option linter.unusedSimpArgs false
set_option maxHeartbeats 4000000
namespace Go.Proofs.Ytbgkimkbngocjaa.Ax
open Go
def EnvOk (e:Env):Prop:=e.length≤100000∧∀ f∈e,f.length≤4
abbrev Kept (c il n:Nat) (H H':Hp):Prop:=∀ i,i < n→i≠c→i≠il→H' i=H i
abbrev Next (c il n n':Nat) (H':Hp) (v ud:Value) (s:CS):Prop:=∃ ul' il',(il'=il∨n≤il')∧CC c il' n' H' v ul' ud s
theorem cVar_drop {w:ByteArray} {e:Env} {m:Nat} (h:m < e.length):cVar w (e.drop m) m=match fIdx w (e[m]) 0 with | some i=>some (m,i) | none=>cVar w (e.drop (m+1)) (m+1):=by
 rw [List.drop_eq_getElem_cons h,cVar]
 cases fIdx w e[m] 0 <;> rfl
theorem bsl_v (id:Nat) (x:Value) (hx:cell1 x=true) (H:Hp):bsl id 1 1 [nilS] [(0,1,x)] H=some (sl id 0 1,H.set id (some (.row [x] 1 true))):=by
 simp [bsl,fill,vcells1 hx,setAt]
theorem body_next (E:CEx) (e:Env) (l:List Int) {j:Nat} (hj:j < l.length) (s:CS):cBody E e (l.take (j+1)) s=E (gi l (j:Int)) e (if 0 < j then cPut (Yd 9 0 0) (cBody E e (l.take j) s) else cBody E e (l.take j) s):=by
 rw [take_next hj,← gi_nat hj]
 cases hl:l.take j with
 | nil =>
  have:j=0:=by
   have:(l.take j).length=0:=by rw [hl]; rfl
   rw [List.length_take] at this; omega
  subst this
  simp [cBody]
 | cons a r =>
  have:0 < j:=by
   have:(l.take j).length=r.length+1:=by rw [hl]; rfl
   rw [List.length_take] at this; omega
  rw [if_pos this]
  simp [cBody,List.foldl_append]
end Go.Proofs.Ytbgkimkbngocjaa.Ax
