/- What the law needs: laws of the abstract machine, and contracts of functions. -/
import Derived.Test.YtbgkimkbngocjaaM3
import Derived.Test.YtbgkimkbngocjaaM2
set_option linter.unusedVariables false
set_option linter.unusedSimpArgs false
set_option maxHeartbeats 4000000
namespace Go.Proofs.Ytbgkimkbngocjaa.Ax
open Go
theorem st_fcD {α:Type} {E:Enc α} {id:Nat} {H:Hp} {l:List α} (h:H id=some (.row (l.flatMap E.cells) E.sz true)) {j f:Nat} (hj:j < l.length) (hf:f < E.sz) {y:α} {c:Value} (h1:cell1 c=true) (hy:E.cells y=setAt (E.cells l[j]) f [c]):st false 1 (ptr id (j * E.sz+f)) c H=some (H.set id (some (.row ((l.set j y).flatMap E.cells) E.sz true))):=by
 rw [st_c h1]; exact st_fld h hj hf hy
abbrev Sh (x:Nd):Prop:=x.s.size≤100
theorem k121 {c n:Nat} {H:Hp} (hc:Cu c n H):RtD Try.prog 121 [ptr c 0] c H n (fun r _ _=>∃ x:Nd,r=.agg ⟨x.cells⟩∧Sh x):=by
 apply RtD.mk
 rw [c121]; unfold S121
 have hcn:=hc.1
 ((repeat(first|((with_reducible first|apply Wp.gs|apply Wp.cs|apply Zc|apply Zg|apply Zd|apply Zi|apply Zn|apply Wp.step);case h=>((try simp(disch:=omega)only[↓reduceIte,Za,↓X0,X1,Nat.reduceEqDiff,Int.reduceEq,Nat.reduceAdd,Nat.reduceSub,X2,Ze,Nat.reduceLeDiff,Zq]);with_reducible first|done|exact rfl|exact bT|exact bF))|apply Zf|apply Zj|with_reducible apply Zk|simp only[↓X3]|with_reducible apply Zb));try(with_reducible apply Zm;case h=>((try simp(disch:=omega)only[X1,Nat.reduceEqDiff,Zq]);with_reducible exact rfl)))
 refine Yh (k38 (hc.mv (by omega) (by intros;first|with_reducible rfl|simp(disch:=omega)only[Ze,Zh])) 8) ?_
 rintro _ H1 n1 q1 s1 c1 ⟨x,rfl,_,hx⟩
 by_cases e0:x=0
 ·subst e0
  try simp only [Int.reduceEq,decide_false,decide_true]
  (repeat(first|((with_reducible first|apply Wp.gs|apply Wp.cs|apply Zc|apply Zg|apply Zd|apply Zi|apply Zn|apply Wp.step);case h=>((try simp(disch:=omega)only[↓reduceIte,Za,↓X0,X1,Nat.reduceEqDiff,Int.reduceEq,Nat.reduceAdd,Nat.reduceSub,X2,Ze,Nat.reduceLeDiff,Zq,s1]);with_reducible first|done|exact rfl|exact bT|exact bF))|apply Zf|apply Zj|with_reducible apply Zk|simp only[↓X3]|with_reducible apply Zb))
  exact Wp.pure ⟨by simp only; omega,(by intros;first|with_reducible rfl|simp(disch:=omega)only[Ze,Zh,s1]),c1.mv (by simp only; omega) (by intros;first|with_reducible rfl|simp(disch:=omega)only[Ze,Zh]),⟨1,0,⟨#[]⟩,0,0⟩,rfl,by decide⟩
 by_cases e1:x=1
 ·subst e1
  try simp only [Int.reduceEq,decide_false,decide_true]
  ((repeat(first|((with_reducible first|apply Wp.gs|apply Wp.cs|apply Zc|apply Zg|apply Zd|apply Zi|apply Zn|apply Wp.step);case h=>((try simp(disch:=omega)only[↓reduceIte,Za,↓X0,X1,Nat.reduceEqDiff,Int.reduceEq,Nat.reduceAdd,Nat.reduceSub,X2,Ze,Nat.reduceLeDiff,Zq,s1]);with_reducible first|done|exact rfl|exact bT|exact bF))|apply Zf|apply Zj|with_reducible apply Zk|simp only[↓X3]|with_reducible apply Zb));try(with_reducible apply Zm;case h=>((try simp(disch:=omega)only[X1,Nat.reduceEqDiff,Zq,s1]);with_reducible exact rfl)))
  refine Yh (k38 (c1.mv (by omega) (by intros;first|with_reducible rfl|simp(disch:=omega)only[Ze,Zh])) 2) ?_
  rintro _ H2 n2 q2 s2 c2 ⟨y,rfl,_,_⟩
  (repeat(first|((with_reducible first|apply Wp.gs|apply Wp.cs|apply Zc|apply Zg|apply Zd|apply Zi|apply Zn|apply Wp.step);case h=>((try simp(disch:=omega)only[↓reduceIte,Za,↓X0,X1,Nat.reduceEqDiff,Int.reduceEq,Nat.reduceAdd,Nat.reduceSub,X2,Ze,Nat.reduceLeDiff,Zq,s1,s2]);with_reducible first|done|exact rfl|exact bT|exact bF))|apply Zf|apply Zj|with_reducible apply Zk|simp only[↓X3]|with_reducible apply Zb))
  exact Wp.pure ⟨by simp only; omega,(by intros;first|with_reducible rfl|simp(disch:=omega)only[Ze,Zh,s2,s1]),c2.mv (by simp only; omega) (by intros;first|with_reducible rfl|simp(disch:=omega)only[Ze,Zh]),⟨2,y,⟨#[]⟩,0,0⟩,rfl,show (⟨#[]⟩:ByteArray).size≤100 by decide⟩
 by_cases e2:x=2
 ·subst e2
  try simp only [Int.reduceEq,decide_false,decide_true]
  ((repeat(first|((with_reducible first|apply Wp.gs|apply Wp.cs|apply Zc|apply Zg|apply Zd|apply Zi|apply Zn|apply Wp.step);case h=>((try simp(disch:=omega)only[↓reduceIte,Za,↓X0,X1,Nat.reduceEqDiff,Int.reduceEq,Nat.reduceAdd,Nat.reduceSub,Zq,s1]);with_reducible first|done|exact rfl|exact bT|exact bF))|apply Zf|apply Zj|with_reducible apply Zk|simp only[↓X3]|with_reducible apply Zb));try(with_reducible apply Zm;case h=>((try simp(disch:=omega)only[X1,Nat.reduceEqDiff,Zq,s1]);with_reducible exact rfl)))
  refine Wp.bslN eStr [⟨#[97]⟩,⟨#[98,99]⟩,⟨#[120]⟩,⟨#[102]⟩,⟨#[43]⟩,⟨#[108,105,115,116]⟩] (by decide) rfl rfl ?_
  ((repeat(first|((with_reducible first|apply Wp.gs|apply Wp.cs|apply Zc|apply Zg|apply Zd|apply Zi|apply Zn|apply Wp.step);case h=>((try simp(disch:=omega)only[↓reduceIte,Za,↓X0,X1,Nat.reduceEqDiff,Int.reduceEq,Nat.reduceAdd,Nat.reduceSub,Zq]);with_reducible first|done|exact rfl|exact bT|exact bF))|apply Zf|apply Zj|with_reducible apply Zk|simp only[↓X3]|with_reducible apply Zb));try(with_reducible apply Zm;case h=>((try simp(disch:=omega)only[X1,Nat.reduceEqDiff,Zq]);with_reducible exact rfl)))
  refine Yh (k58 (c1.mv (by omega) (by intros;first|with_reducible rfl|simp(disch:=omega)only[Ze,Zh])) ((At.of rfl (Zh _ _ _)).lst (by omega)) (Off.sl (by omega)) (by simp)) ?_
  rintro _ H2 n2 q2 s2 c2 ⟨s,rfl,hs⟩
  (repeat(first|((with_reducible first|apply Wp.gs|apply Wp.cs|apply Zc|apply Zg|apply Zd|apply Zi|apply Zn|apply Wp.step);case h=>((try simp(disch:=omega)only[↓reduceIte,Za,↓X0,X1,Nat.reduceEqDiff,Int.reduceEq,Nat.reduceAdd,Nat.reduceSub,X2,Ze,Nat.reduceLeDiff,Zq,s1,s2]);with_reducible first|done|exact rfl|exact bT|exact bF))|apply Zf|apply Zj|with_reducible apply Zk|simp only[↓X3]|with_reducible apply Zb))
  refine Wp.pure ⟨by simp only; omega,(by intros;first|with_reducible rfl|simp(disch:=omega)only[Ze,Zh,s2,s1]),c2.mv (by simp only; omega) (by intros;first|with_reducible rfl|simp(disch:=omega)only[Ze,Zh]),⟨4,0,s,0,0⟩,rfl,?_⟩
  have key:∀ s∈([⟨#[97]⟩,⟨#[98,99]⟩,⟨#[120]⟩,⟨#[102]⟩,⟨#[43]⟩,⟨#[108,105,115,116]⟩]:List ByteArray),s.size≤100:=by decide
  exact key s hs
 by_cases e3:x=3
 ·subst e3
  try simp only [Int.reduceEq,decide_false,decide_true]
  ((repeat(first|((with_reducible first|apply Wp.gs|apply Wp.cs|apply Zc|apply Zg|apply Zd|apply Zi|apply Zn|apply Wp.step);case h=>((try simp(disch:=omega)only[↓reduceIte,Za,↓X0,X1,Nat.reduceEqDiff,Int.reduceEq,Nat.reduceAdd,Nat.reduceSub,X2,Ze,Nat.reduceLeDiff,Zq,s1]);with_reducible first|done|exact rfl|exact bT|exact bF))|apply Zf|apply Zj|with_reducible apply Zk|simp only[↓X3]|with_reducible apply Zb));try(with_reducible apply Zm;case h=>((try simp(disch:=omega)only[X1,Nat.reduceEqDiff,Zq,s1]);with_reducible exact rfl)))
  refine Yh (k38 (c1.mv (by omega) (by intros;first|with_reducible rfl|simp(disch:=omega)only[Ze,Zh])) 5) ?_
  rintro _ H2 n2 q2 s2 c2 ⟨y,rfl,_,_⟩
  (repeat(first|((with_reducible first|apply Wp.gs|apply Wp.cs|apply Zc|apply Zg|apply Zd|apply Zi|apply Zn|apply Wp.step);case h=>((try simp(disch:=omega)only[↓reduceIte,Za,↓X0,X1,Nat.reduceEqDiff,Int.reduceEq,Nat.reduceAdd,Nat.reduceSub,X2,Ze,Nat.reduceLeDiff,Zq,s1,s2]);with_reducible first|done|exact rfl|exact bT|exact bF))|apply Zf|apply Zj|with_reducible apply Zk|simp only[↓X3]|with_reducible apply Zb))
  exact Wp.pure ⟨by simp only; omega,(by intros;first|with_reducible rfl|simp(disch:=omega)only[Ze,Zh,s2,s1]),c2.mv (by simp only; omega) (by intros;first|with_reducible rfl|simp(disch:=omega)only[Ze,Zh]),⟨9,y,⟨#[]⟩,0,0⟩,rfl,show (⟨#[]⟩:ByteArray).size≤100 by decide⟩
 by_cases e4:x=4
 ·subst e4
  try simp only [Int.reduceEq,decide_false,decide_true]
  ((repeat(first|((with_reducible first|apply Wp.gs|apply Wp.cs|apply Zc|apply Zg|apply Zd|apply Zi|apply Zn|apply Wp.step);case h=>((try simp(disch:=omega)only[↓reduceIte,Za,↓X0,X1,Nat.reduceEqDiff,Int.reduceEq,Nat.reduceAdd,Nat.reduceSub,X2,Ze,Nat.reduceLeDiff,Zq,s1]);with_reducible first|done|exact rfl|exact bT|exact bF))|apply Zf|apply Zj|with_reducible apply Zk|simp only[↓X3]|with_reducible apply Zb));try(with_reducible apply Zm;case h=>((try simp(disch:=omega)only[X1,Nat.reduceEqDiff,Zq,s1]);with_reducible exact rfl)))
  refine Yh (k38 (c1.mv (by omega) (by intros;first|with_reducible rfl|simp(disch:=omega)only[Ze,Zh])) 5) ?_
  rintro _ H2 n2 q2 s2 c2 ⟨y,rfl,_,_⟩
  (repeat(first|((with_reducible first|apply Wp.gs|apply Wp.cs|apply Zc|apply Zg|apply Zd|apply Zi|apply Zn|apply Wp.step);case h=>((try simp(disch:=omega)only[↓reduceIte,Za,↓X0,X1,Nat.reduceEqDiff,Int.reduceEq,Nat.reduceAdd,Nat.reduceSub,X2,Ze,Nat.reduceLeDiff,Zq,s1,s2]);with_reducible first|done|exact rfl|exact bT|exact bF))|apply Zf|apply Zj|with_reducible apply Zk|simp only[↓X3]|with_reducible apply Zb))
  exact Wp.pure ⟨by simp only; omega,(by intros;first|with_reducible rfl|simp(disch:=omega)only[Ze,Zh,s2,s1]),c2.mv (by simp only; omega) (by intros;first|with_reducible rfl|simp(disch:=omega)only[Ze,Zh]),⟨8,y,⟨#[]⟩,0,0⟩,rfl,show (⟨#[]⟩:ByteArray).size≤100 by decide⟩
 ((repeat(first|((with_reducible first|apply Wp.gs|apply Wp.cs|apply Zc|apply Zg|apply Zd|apply Zi|apply Zn|apply Wp.step);case h=>((try simp(disch:=omega)only[↓reduceIte,Za,↓X0,X1,Nat.reduceEqDiff,Int.reduceEq,Nat.reduceAdd,Nat.reduceSub,X2,Ze,Nat.reduceLeDiff,Zq,s1,e0,e1,e2,e3,e4]);with_reducible first|done|exact rfl|exact bT|exact bF))|apply Zf|apply Zj|with_reducible apply Zk|simp only[↓X3]|with_reducible apply Zb));try(with_reducible apply Zm;case h=>((try simp(disch:=omega)only[X1,Nat.reduceEqDiff,Zq,s1,e0,e1,e2,e3,e4]);with_reducible exact rfl)))
 refine Yh (k38 (c1.mv (by omega) (by intros;first|with_reducible rfl|simp(disch:=omega)only[Ze,Zh])) 12) ?_
 rintro _ H2 n2 q2 s2 c2 ⟨y,rfl,_,_⟩
 (repeat(first|((with_reducible first|apply Wp.gs|apply Wp.cs|apply Zc|apply Zg|apply Zd|apply Zi|apply Zn|apply Wp.step);case h=>((try simp(disch:=omega)only[↓reduceIte,Za,↓X0,X1,Nat.reduceEqDiff,Int.reduceEq,Nat.reduceAdd,Nat.reduceSub,X2,Ze,Nat.reduceLeDiff,Zq,s1,s2]);with_reducible first|done|exact rfl|exact bT|exact bF))|apply Zf|apply Zj|with_reducible apply Zk|simp only[↓X3]|with_reducible apply Zb))
 exact Wp.pure ⟨by simp only; omega,(by intros;first|with_reducible rfl|simp(disch:=omega)only[Ze,Zh,s2,s1]),c2.mv (by simp only; omega) (by intros;first|with_reducible rfl|simp(disch:=omega)only[Ze,Zh]),⟨3,_,⟨#[]⟩,0,0⟩,rfl,show (⟨#[]⟩:ByteArray).size≤100 by decide⟩
theorem k110 {c n:Nat} {H:Hp} (hc:Cu c n H) (m:Int):RtD Try.prog 110 [ptr c 0,.int .i64 m] c H n (fun r _ _=>∃ x:Nd,r=.agg ⟨x.cells⟩∧Sh x):=by
 apply RtD.mk
 rw [c110]; unfold S110
 have hcn:=hc.1
 have atom:∀ {H3:Hp} {n3:Nat} {g:Value × Hp × Nat→Option (Value × Hp × Nat)} {Q:Value × Hp × Nat→Prop},n+7≤n3→(∀ i,i < n→i≠c→H3 i=H i)→Cu c n3 H3→(∀ (x:Nd) (H4:Hp) (n4:Nat),n3≤n4→(∀ i,i < n3→i≠c→H4 i=H3 i)→Cu c n4 H4→Sh x→Wp (g (.agg ⟨x.cells⟩,H4,n4)) Q)→Wp ((Call Try.prog 121 [ptr c 0] H3 n3).bind g) Q:=by
  intro H3 n3 g Q h1 h2 h3 k
  refine Yh (k121 h3) ?_
  rintro _ H4 n4 q4 s4 c4 ⟨x,rfl,hx⟩
  exact k x H4 n4 q4 s4 c4 hx
 have tail:∀ (TT:Tm) (H3:Hp) (n3:Nat) (b:Bool),True:=fun _ _ _ _=>trivial
 by_cases e0:m=0
 ·subst e0
  try simp only [Int.reduceEq,decide_false,decide_true]
  ((repeat(first|((with_reducible first|apply Wp.gs|apply Wp.cs|apply Zc|apply Zg|apply Zd|apply Zi|apply Zn|apply Wp.step);case h=>((try simp(disch:=omega)only[↓reduceIte,Za,↓X0,X1,Nat.reduceEqDiff,Int.reduceEq,Nat.reduceAdd,Nat.reduceSub,X2,Ze,Nat.reduceLeDiff,Zq]);with_reducible first|done|exact rfl|exact bT|exact bF))|apply Zf|apply Zj|with_reducible apply Zk|simp only[↓X3]|with_reducible apply Zb));try(with_reducible apply Zm;case h=>((try simp(disch:=omega)only[X1,Nat.reduceEqDiff,Zq]);with_reducible exact rfl)))
  refine atom (by omega) (by intros;first|with_reducible rfl|simp(disch:=omega)only[Ze,Zh]) (hc.mv (by omega) (by intros;first|with_reducible rfl|simp(disch:=omega)only[Ze,Zh])) ?_
  intro x H4 n4 q4 s4 c4 hx
  (repeat(first|((with_reducible first|apply Wp.gs|apply Wp.cs|apply Zc|apply Zg|apply Zd|apply Zi|apply Zn|apply Wp.step);case h=>((try simp(disch:=omega)only[↓reduceIte,Za,↓X0,X1,Nat.reduceEqDiff,Int.reduceEq,Nat.reduceAdd,Nat.reduceSub,X2,Ze,Nat.reduceLeDiff,s4,Nd.cells]);with_reducible first|done|exact rfl|exact bT|exact bF))|apply Zf|apply Zj|with_reducible apply Zk|simp only[↓X3]|with_reducible apply Zb))
  exact Wp.pure ⟨by simp only; omega,(by intros;first|with_reducible rfl|simp(disch:=omega)only[Ze,Zh,s4]),c4.mv (by simp only; omega) (by intros;first|with_reducible rfl|simp(disch:=omega)only[Ze,Zh]),x,rfl,hx⟩
 ((repeat(first|((with_reducible first|apply Wp.gs|apply Wp.cs|apply Zc|apply Zg|apply Zd|apply Zi|apply Zn|apply Wp.step);case h=>((try simp(disch:=omega)only[↓reduceIte,Za,↓X0,X1,Nat.reduceEqDiff,Int.reduceEq,Nat.reduceAdd,Nat.reduceSub,X2,Ze,Nat.reduceLeDiff,Zq,e0]);with_reducible first|done|exact rfl|exact bT|exact bF))|apply Zf|apply Zj|with_reducible apply Zk|simp only[↓X3]|with_reducible apply Zb));try(with_reducible apply Zm;case h=>((try simp(disch:=omega)only[X1,Nat.reduceEqDiff,Zq,e0]);with_reducible exact rfl)))
 refine Yh (k35 (hc.mv (by omega) (by intros;first|with_reducible rfl|simp(disch:=omega)only[Ze,Zh])) 2) ?_
 rintro _ H1 n1 q1 s1 c1 ⟨b,rfl⟩
 cases b with
 | true =>
  ((repeat(first|((with_reducible first|apply Wp.gs|apply Wp.cs|apply Zc|apply Zg|apply Zd|apply Zi|apply Zn|apply Wp.step);case h=>((try simp(disch:=omega)only[↓reduceIte,Za,↓X0,X1,Nat.reduceEqDiff,Int.reduceEq,Nat.reduceAdd,Nat.reduceSub,X2,Ze,Nat.reduceLeDiff,Zq,e0]);with_reducible first|done|exact rfl|exact bT|exact bF))|apply Zf|apply Zj|with_reducible apply Zk|simp only[↓X3]|with_reducible apply Zb));try(with_reducible apply Zm;case h=>((try simp(disch:=omega)only[X1,Nat.reduceEqDiff,Zq,e0]);with_reducible exact rfl)))
  refine atom (by omega) (by intros;first|with_reducible rfl|simp(disch:=omega)only[Ze,Zh,s1]) (c1.mv (by omega) (by intros;first|with_reducible rfl|simp(disch:=omega)only[Ze,Zh])) ?_
  intro x H4 n4 q4 s4 c4 hx
  (repeat(first|((with_reducible first|apply Wp.gs|apply Wp.cs|apply Zc|apply Zg|apply Zd|apply Zi|apply Zn|apply Wp.step);case h=>((try simp(disch:=omega)only[↓reduceIte,Za,↓X0,X1,Nat.reduceEqDiff,Int.reduceEq,Nat.reduceAdd,Nat.reduceSub,X2,Ze,Nat.reduceLeDiff,s4,s1,Nd.cells]);with_reducible first|done|exact rfl|exact bT|exact bF))|apply Zf|apply Zj|with_reducible apply Zk|simp only[↓X3]|with_reducible apply Zb))
  exact Wp.pure ⟨by simp only; omega,(by intros;first|with_reducible rfl|simp(disch:=omega)only[Ze,Zh,s4,s1]),c4.mv (by simp only; omega) (by intros;first|with_reducible rfl|simp(disch:=omega)only[Ze,Zh]),x,rfl,hx⟩
 | false =>
  ((repeat(first|((with_reducible first|apply Wp.gs|apply Wp.cs|apply Zc|apply Zg|apply Zd|apply Zi|apply Zn|apply Wp.step);case h=>((try simp(disch:=omega)only[↓reduceIte,Za,↓X0,X1,Nat.reduceEqDiff,Int.reduceEq,Nat.reduceAdd,Nat.reduceSub,X2,Ze,Nat.reduceLeDiff,Zq,e0,k79]);with_reducible first|done|exact rfl|exact bT|exact bF))|apply Zf|apply Zj|with_reducible apply Zk|simp only[↓X3]|with_reducible apply Zb));try(with_reducible apply Zm;case h=>((try simp(disch:=omega)only[X1,Nat.reduceEqDiff,Zq,e0,k79]);with_reducible exact rfl)))
  refine Yh (k38 (c1.mv (by omega) (by intros;first|with_reducible rfl|simp(disch:=omega)only[Ze,Zh])) _) ?_
  rintro _ H2 n2 q2 s2 c2 ⟨a,rfl,_,_⟩
  ((repeat(first|((with_reducible first|apply Wp.gs|apply Wp.cs|apply Zc|apply Zg|apply Zd|apply Zi|apply Zn|apply Wp.step);case h=>((try simp(disch:=omega)only[↓reduceIte,Za,↓X0,X1,Nat.reduceEqDiff,Int.reduceEq,Nat.reduceAdd,Nat.reduceSub,X2,Ze,Nat.reduceLeDiff,Zq,e0]);with_reducible first|done|exact rfl|exact bT|exact bF))|apply Zf|apply Zj|with_reducible apply Zk|simp only[↓X3]|with_reducible apply Zb));try(with_reducible apply Zm;case h=>((try simp(disch:=omega)only[X1,Nat.reduceEqDiff,Zq,e0]);with_reducible exact rfl)))
  refine Yh (k38 (c2.mv (by omega) (by intros;first|with_reducible rfl|simp(disch:=omega)only[Ze,Zh])) 8) ?_
  rintro _ H3 n3 q3 s3 c3 ⟨y,rfl,_,_⟩
  by_cases y0:y=0
  ·subst y0
   ((repeat(first|((with_reducible first|apply Wp.gs|apply Wp.cs|apply Zc|apply Zg|apply Zd|apply Zi|apply Zn|apply Wp.step);case h=>((try simp(disch:=omega)only[↓reduceIte,Za,↓X0,X1,Nat.reduceEqDiff,Int.reduceEq,Nat.reduceAdd,Nat.reduceSub,X2,Ze,Nat.reduceLeDiff,Zq,e0]);with_reducible first|done|exact rfl|exact bT|exact bF))|apply Zf|apply Zj|with_reducible apply Zk|simp only[↓X3]|with_reducible apply Zb));try(with_reducible apply Zm;case h=>((try simp(disch:=omega)only[X1,Nat.reduceEqDiff,Zq,e0]);with_reducible exact rfl)))
   refine Yh (k38 (c3.mv (by omega) (by intros;first|with_reducible rfl|simp(disch:=omega)only[Ze,Zh])) 9) ?_
   rintro _ H4 n4 q4 s4 c4 ⟨z,rfl,_,_⟩
   (repeat(first|((with_reducible first|apply Wp.gs|apply Wp.cs|apply Zc|apply Zg|apply Zd|apply Zi|apply Zn|apply Wp.step);case h=>((try simp(disch:=omega)only[↓reduceIte,Za,↓X0,X1,Nat.reduceEqDiff,Int.reduceEq,Nat.reduceAdd,Nat.reduceSub,X2,Ze,Nat.reduceLeDiff,s1,s2,s3,s4]);with_reducible first|done|exact rfl|exact bT|exact bF))|apply Zf|apply Zj|with_reducible apply Zk|simp only[↓X3]|with_reducible apply Zb))
   exact Wp.pure ⟨by simp only; omega,(by intros;first|with_reducible rfl|simp(disch:=omega)only[Ze,Zh,s4,s3,s2,s1]),c4.mv (by simp only; omega) (by intros;first|with_reducible rfl|simp(disch:=omega)only[Ze,Zh]),⟨6,z,⟨#[]⟩,_,0⟩,rfl,show (⟨#[]⟩:ByteArray).size≤100 by decide⟩
  by_cases y1:y=1
  ·subst y1
   (repeat(first|((with_reducible first|apply Wp.gs|apply Wp.cs|apply Zc|apply Zg|apply Zd|apply Zi|apply Zn|apply Wp.step);case h=>((try simp(disch:=omega)only[↓reduceIte,Za,↓X0,X1,Nat.reduceEqDiff,Int.reduceEq,Nat.reduceAdd,Nat.reduceSub,X2,Ze,Nat.reduceLeDiff,Zq,e0,s1,s2,s3]);with_reducible first|done|exact rfl|exact bT|exact bF))|apply Zf|apply Zj|with_reducible apply Zk|simp only[↓X3]|with_reducible apply Zb))
   exact Wp.pure ⟨by simp only; omega,(by intros;first|with_reducible rfl|simp(disch:=omega)only[Ze,Zh,s3,s2,s1]),c3.mv (by simp only; omega) (by intros;first|with_reducible rfl|simp(disch:=omega)only[Ze,Zh]),⟨7,0,⟨#[]⟩,_,0⟩,rfl,show (⟨#[]⟩:ByteArray).size≤100 by decide⟩
  ((repeat(first|((with_reducible first|apply Wp.gs|apply Wp.cs|apply Zc|apply Zg|apply Zd|apply Zi|apply Zn|apply Wp.step);case h=>((try simp(disch:=omega)only[↓reduceIte,Za,↓X0,X1,Nat.reduceEqDiff,Int.reduceEq,Nat.reduceAdd,Nat.reduceSub,X2,Ze,Nat.reduceLeDiff,Zq,e0,y0,y1,k79]);with_reducible first|done|exact rfl|exact bT|exact bF))|apply Zf|apply Zj|with_reducible apply Zk|simp only[↓X3]|with_reducible apply Zb));try(with_reducible apply Zm;case h=>((try simp(disch:=omega)only[X1,Nat.reduceEqDiff,Zq,e0,y0,y1,k79]);with_reducible exact rfl)))
  refine Yh (k38 (c3.mv (by omega) (by intros;first|with_reducible rfl|simp(disch:=omega)only[Ze,Zh])) _) ?_
  rintro _ H4 n4 q4 s4 c4 ⟨z,rfl,_,_⟩
  (repeat(first|((with_reducible first|apply Wp.gs|apply Wp.cs|apply Zc|apply Zg|apply Zd|apply Zi|apply Zn|apply Wp.step);case h=>((try simp(disch:=omega)only[↓reduceIte,Za,↓X0,X1,Nat.reduceEqDiff,Int.reduceEq,Nat.reduceAdd,Nat.reduceSub,X2,Ze,Nat.reduceLeDiff,Zq,s1,s2,s3,s4]);with_reducible first|done|exact rfl|exact bT|exact bF))|apply Zf|apply Zj|with_reducible apply Zk|simp only[↓X3]|with_reducible apply Zb))
  exact Wp.pure ⟨by simp only; omega,(by intros;first|with_reducible rfl|simp(disch:=omega)only[Ze,Zh,s4,s3,s2,s1]),c4.mv (by simp only; omega) (by intros;first|with_reducible rfl|simp(disch:=omega)only[Ze,Zh]),⟨5,0,⟨#[]⟩,_,_⟩,rfl,show (⟨#[]⟩:ByteArray).size≤100 by decide⟩
theorem k84 {c n:Nat} {H:Hp} (hc:Cu c n H):RtD Try.prog 84 [ptr c 0] c H n (fun r H' n'=>∃ (u:Value) (l:List Nd),r=.agg ⟨[u]⟩∧(∀ x∈l,Sh x)∧l.length≤15∧New eNode n n' H' u l):=by
 apply RtD.mk
 rw [c84]; unfold S84
 have hcn:=hc.1
 ((repeat(first|((with_reducible first|apply Wp.gs|apply Wp.cs|apply Zc|apply Zg|apply Zd|apply Zi|apply Zn|apply Wp.step);case h=>((try simp(disch:=omega)only[↓reduceIte,Za,↓X0,X1,Nat.reduceEqDiff,Int.reduceEq,Nat.reduceAdd,Nat.reduceSub,X2,Ze,Nat.reduceLeDiff,Zq]);with_reducible first|done|exact rfl|exact bT|exact bF))|apply Zf|apply Zj|with_reducible apply Zk|simp only[↓X3]|with_reducible apply Zb));try(with_reducible apply Zm;case h=>((try simp(disch:=omega)only[X1,Nat.reduceEqDiff,Zq]);with_reducible exact rfl)))
 refine Yh (k38 (hc.mv (by omega) (by intros;first|with_reducible rfl|simp(disch:=omega)only[Ze,Zh])) 16) ?_
 rintro _ H1 n1 q1 s1 c1 ⟨m,rfl,_,hm⟩
 have hm:=hm (by decide)
 (repeat(first|((with_reducible first|apply Wp.gs|apply Wp.cs|apply Zc|apply Zg|apply Zd|apply Zi|apply Zn|apply Wp.step);case h=>((try simp(disch:=omega)only[↓reduceIte,Za,↓X0,X1,Nat.reduceEqDiff,Int.reduceEq,Nat.reduceAdd,Nat.reduceSub,Zq]);with_reducible first|done|exact rfl|exact bT|exact bF))|apply Zf|apply Zj|with_reducible apply Zk|simp only[↓X3]|with_reducible apply Zb))
 refine Wp.bind (Loop_rule (fun d T H' n'=>∃ (j idk:Nat) (u:Value) (l:List Nd),(j:Int)+d=m∧n1+1≤n'∧(∀ i,i < n→i≠c→H' i=H i)∧Cu c n' H'∧H' n=some (.row [nilS] 0 true)∧T 0=ptr c 0∧T 2=ptr n 0∧T 3=ptr (n+2) 0∧T 4=.int .i64 m∧T 5=.int .i64 j∧l.length=j∧(∀ x∈l,Sh x)∧n+3≤idk∧PC (n+2) 0 idk n' H' [u] 0 u l) (fun o=>n1+1≤o.n∧(∀ i,i < n→i≠c→o.H i=H i)∧Cu c o.n o.H∧o.H n=some (.row [nilS] 0 true)∧o.e=.exit 0∧o.t 2=ptr n 0∧o.t 3=ptr (n+2) 0∧∃ (idk:Nat) (u:Value) (l:List Nd),l.length≤15∧(∀ x∈l,Sh x)∧n+3≤idk∧PC (n+2) 0 idk o.n o.H [u] 0 u l) ?_ m.toNat _ H1 _ ⟨0,n+3,nilS,[],by omega,by omega,(by intros;first|with_reducible rfl|simp(disch:=omega)only[Ze,Zh,s1]),c1.up (by omega),(by intros;first|with_reducible rfl|simp(disch:=omega)only[Ze,Zh,s1]),by simp [Zl,Zq],by simp [Zl],by simp [Zl],by simp [Zl],by simp [Zl],rfl,by simp,by omega,⟨(by intros;first|with_reducible rfl|simp(disch:=omega)only[Ze,Zh,s1]),rfl,At.nil,by omega,by omega,by omega⟩⟩) ?_
 ·rintro d T H' n' ⟨j,idk,u,l,hj,hn,s0,c0,b0,e0,e2,e3,e4,e5,hlen,hsh,hidk,hpc⟩
  unfold S84L0
  by_cases hlt:(j:Int) < m
  ·have hw:IntKind.i64.wrap ((j:Int)+1)=((j+1:Nat):Int):=wn (by omega)
   ((repeat(first|((with_reducible first|apply Wp.gs|apply Wp.cs|apply Zc|apply Zg|apply Zd|apply Zi|apply Zn|apply Wp.step);case h=>((try simp(disch:=omega)only[↓reduceIte,Za,↓X0,X1,Nat.reduceEqDiff,Int.reduceEq,Nat.reduceAdd,Nat.reduceSub,e0,e2,e3,e4,e5,hlt]);with_reducible first|done|exact rfl|exact bT|exact bF))|apply Zf|apply Zj|with_reducible apply Zk|simp only[↓X3]|with_reducible apply Zb));try(with_reducible apply Zm;case h=>((try simp(disch:=omega)only[X1,Nat.reduceEqDiff,e0,e2,e3,e4,e5,hlt]);with_reducible exact rfl)))
   refine Yh (k110 (c0.mv (by omega) (by intros;first|with_reducible rfl|simp(disch:=omega)only[Ze,Zh])) _) ?_
   rintro _ H2 n2 q2 s2 c2 ⟨x,rfl,hx⟩
   ((repeat(first|((with_reducible first|apply Wp.gs|apply Wp.cs|apply Zc|apply Zg|apply Zd|apply Zi|apply Zn|apply Wp.step);case h=>((try simp(disch:=omega)only[↓reduceIte,Za,↓X0,X1,Nat.reduceEqDiff,Int.reduceEq,Nat.reduceAdd,Nat.reduceSub,e0,e2,e3,e4,e5]);with_reducible first|done|exact rfl|exact bT|exact bF))|apply Zf|apply Zj|with_reducible apply Zk|simp only[↓X3]|with_reducible apply Zb));try(with_reducible apply Zm;case h=>((try simp(disch:=omega)only[X1,Nat.reduceEqDiff,e0,e2,e3,e4,e5]);with_reducible exact rfl)))
   have hid:=hpc.idn
   have hpn:n+2 < n':=hpc.cn
   refine Wp.rta (k41 (hpc.mv (by omega) (by intros;first|with_reducible rfl|simp(disch:=omega)only[Ze,Zh,s2]) (by intros;first|with_reducible rfl|simp(disch:=omega)only[Ze,Zh,s2])) (by omega) x) ?_
   rintro _ H3 n3 q3 s3 ⟨rfl,u3,id3,i1,i2⟩
   simp only [List.set_cons_zero] at i2
   (repeat(first|((with_reducible first|apply Wp.gs|apply Wp.cs|apply Zc|apply Zg|apply Zd|apply Zi|apply Zn|apply Wp.step);case h=>((try simp(disch:=omega)only[↓reduceIte,Za,↓X0,X1,Nat.reduceEqDiff,Int.reduceEq,Nat.reduceAdd,Nat.reduceSub,e5,hw]);with_reducible first|done|exact rfl|exact bT|exact bF))|apply Zf|apply Zj|with_reducible apply Zk|simp only[↓X3]|with_reducible apply Zb))
   refine Wp.pure (Nxt.go (d - 1) (by omega) ⟨j+1,id3,u3,l++[x],by omega,by omega,(by intros;first|with_reducible rfl|simp(disch:=omega)only[Ze,Zh,s3,s2,s0]),(c2.mv (m:=n3) (by omega) (by intros;first|with_reducible rfl|simp(disch:=omega)only[Ze,Zh,s3])).up (by omega),(by intros;first|with_reducible rfl|simp(disch:=omega)only[Ze,Zh,s3,s2,b0]),by simp [Zl,e0],by simp [Zl,e2],by simp [Zl,e3],by simp [Zl,e4],by simp [Zl],by simp [hlen],?_,by omega,i2.mv (by omega) rfl rfl⟩)
   intro y hy
   rcases List.mem_append.1 hy with hy | hy
   ·exact hsh y hy
   ·simp at hy; rw [hy]; exact hx
  ·(repeat(first|((with_reducible first|apply Wp.gs|apply Wp.cs|apply Zc|apply Zg|apply Zd|apply Zi|apply Zn|apply Wp.step);case h=>((try simp(disch:=omega)only[↓reduceIte,Za,↓X0,X1,Nat.reduceEqDiff,Int.reduceEq,Nat.reduceAdd,Nat.reduceSub,e4,e5,hlt]);with_reducible first|done|exact rfl|exact bT|exact bF))|apply Zf|apply Zj|with_reducible apply Zk|simp only[↓X3]|with_reducible apply Zb))
   exact Wp.pure (Nxt.exit ⟨by simp only; omega,s0,c0.up (by simp only; omega),b0,rfl,by simp [Zl,e2],by simp [Zl,e3],idk,u,l,by omega,hsh,hidk,hpc.mv (by simp only; omega) rfl rfl⟩)
 ·rintro ⟨oe,ot,oH,on⟩ ⟨f1,f2,f3,f4,rfl,f5,f6,idk,u,l,f7,f8,f9,f10⟩
  simp only at f1 f2 f3 f4 f5 f6 f10
  have hb:=f10.hc
  have ha:=f10.at_
  have hidn:=f10.idn
  (repeat(first|((with_reducible first|apply Wp.gs|apply Wp.cs|apply Zc|apply Zg|apply Zd|apply Zi|apply Zn|apply Wp.step);case h=>((try simp(disch:=omega)only[↓reduceIte,Za,↓X0,X1,Nat.reduceEqDiff,Int.reduceEq,Nat.reduceAdd,Nat.reduceSub,X2,Ze,Nat.reduceLeDiff,f5,f6,hb,f4]);with_reducible first|done|exact rfl|exact bT|exact bF))|apply Zf|apply Zj|with_reducible apply Zk|simp only[↓X3]|with_reducible apply Zb))
  exact Wp.pure ⟨by simp only; omega,(by intros;first|with_reducible rfl|simp(disch:=omega)only[Ze,Zh,f2]),f3.mv (by simp only; omega) (by intros;first|with_reducible rfl|simp(disch:=omega)only[Ze,Zh]),u,l,rfl,f8,f7,idk,by omega,by simp only; omega,ha.mv (by intros;first|with_reducible rfl|simp(disch:=omega)only[Ze,Zh])⟩
theorem k85 {c n:Nat} {H:Hp} (hc:Cu c n H) (x:Nd) (hx:Sh x):RtD Try.prog 85 [ptr c 0,.agg ⟨x.cells⟩] c H n (fun r _ _=>∃ y:Nd,r=.agg ⟨y.cells⟩∧Sh y):=by
 apply RtD.mk
 rw [c85]; unfold S85
 have hcn:=hc.1
 obtain ⟨xk,xn,xs,xa,xb⟩:=x
 ((repeat(first|((with_reducible first|apply Wp.gs|apply Wp.cs|apply Zc|apply Zg|apply Zd|apply Zi|apply Zn|apply Wp.step);case h=>((try simp(disch:=omega)only[↓reduceIte,Za,↓X0,X1,Nat.reduceEqDiff,Int.reduceEq,Nat.reduceAdd,Nat.reduceSub,X2,Ze,Nat.reduceLeDiff,Zq,Nd.cells]);with_reducible first|done|exact rfl|exact bT|exact bF))|apply Zf|apply Zj|with_reducible apply Zk|simp only[↓X3]|with_reducible apply Zb));try(with_reducible apply Zm;case h=>((try simp(disch:=omega)only[X1,Nat.reduceEqDiff,Zq,Nd.cells]);with_reducible exact rfl)))
 refine Yh (k38 (hc.mv (by omega) (by intros;first|with_reducible rfl|simp(disch:=omega)only[Ze,Zh])) 8) ?_
 rintro _ H1 n1 q1 s1 c1 ⟨k,rfl,_,hk⟩
 (repeat(first|((with_reducible first|apply Wp.gs|apply Wp.cs|apply Zc|apply Zg|apply Zd|apply Zi|apply Zn|apply Wp.step);case h=>((try simp(disch:=omega)only[↓reduceIte,Za,↓X0,X1,Nat.reduceEqDiff,Int.reduceEq,Nat.reduceAdd,Nat.reduceSub]);with_reducible first|done|exact rfl|exact bT|exact bF))|apply Zf|apply Zj|with_reducible apply Zk|simp only[↓X3]|with_reducible apply Zb))
 refine Wp.bind (R:=fun (o:Out)=>o.e=.normal∧n+2≤o.n∧(∀ i,i < n→i≠c→o.H i=H i)∧Cu c o.n o.H∧o.t 3=ptr n 0∧o.t 4=ptr (n+1) 0∧o.H (n+1)=some (.row [.int .i64 0,.int .i64 0,.string ⟨#[]⟩,.int .i64 0,.int .i64 0] 0 true)∧∃ y:Nd,Sh y∧o.H n=some (.row y.cells 0 true)) ?_ ?_
 ·by_cases e0:k=0
  ·subst e0
   try simp only [Int.reduceEq,decide_false,decide_true]
   ((repeat(first|((with_reducible first|apply Wp.gs|apply Wp.cs|apply Zc|apply Zg|apply Zd|apply Zi|apply Zn|apply Wp.step);case h=>((try simp(disch:=omega)only[↓reduceIte,Za,↓X0,X1,Nat.reduceEqDiff,Int.reduceEq,Nat.reduceAdd,Nat.reduceSub,Zq]);with_reducible first|done|exact rfl|exact bT|exact bF))|apply Zf|apply Zj|with_reducible apply Zk|simp only[↓X3]|with_reducible apply Zb));try(with_reducible apply Zm;case h=>((try simp(disch:=omega)only[X1,Nat.reduceEqDiff,Zq]);with_reducible exact rfl)))
   refine Yh (k38 (c1.mv (by omega) (by intros;first|with_reducible rfl|simp(disch:=omega)only[Ze,Zh])) 11) ?_
   rintro _ H2 n2 q2 s2 c2 ⟨y,rfl,_,_⟩
   (repeat(first|((with_reducible first|apply Wp.gs|apply Wp.cs|apply Zc|apply Zg|apply Zd|apply Zi|apply Zn|apply Wp.step);case h=>((try simp(disch:=omega)only[↓reduceIte,Za,↓X0,X1,Nat.reduceEqDiff,Int.reduceEq,Nat.reduceAdd,Nat.reduceSub,X2,Ze,Nat.reduceLeDiff,s1,s2]);with_reducible first|done|exact rfl|exact bT|exact bF))|apply Zf|apply Zj|with_reducible apply Zk|simp only[↓X3]|with_reducible apply Zb))
   exact Wp.pure ⟨rfl,by simp only; omega,(by intros;first|with_reducible rfl|simp(disch:=omega)only[Ze,Zh,s2,s1]),c2.mv (by simp only; omega) (by intros;first|with_reducible rfl|simp(disch:=omega)only[Ze,Zh]),by simp [Zl],by simp [Zl],(by intros;first|with_reducible rfl|simp(disch:=omega)only[Ze,Zh,s2,s1]),⟨y,xn,xs,xa,xb⟩,hx,by simp (disch:=omega) only [Zh,Nd.cells]⟩
  by_cases e1:k=1
  ·subst e1
   try simp only [Int.reduceEq,decide_false,decide_true]
   ((repeat(first|((with_reducible first|apply Wp.gs|apply Wp.cs|apply Zc|apply Zg|apply Zd|apply Zi|apply Zn|apply Wp.step);case h=>((try simp(disch:=omega)only[↓reduceIte,Za,↓X0,X1,Nat.reduceEqDiff,Int.reduceEq,Nat.reduceAdd,Nat.reduceSub,Zq]);with_reducible first|done|exact rfl|exact bT|exact bF))|apply Zf|apply Zj|with_reducible apply Zk|simp only[↓X3]|with_reducible apply Zb));try(with_reducible apply Zm;case h=>((try simp(disch:=omega)only[X1,Nat.reduceEqDiff,Zq]);with_reducible exact rfl)))
   refine Yh (k38 (c1.mv (by omega) (by intros;first|with_reducible rfl|simp(disch:=omega)only[Ze,Zh])) 20) ?_
   rintro _ H2 n2 q2 s2 c2 ⟨y,rfl,_,_⟩
   (repeat(first|((with_reducible first|apply Wp.gs|apply Wp.cs|apply Zc|apply Zg|apply Zd|apply Zi|apply Zn|apply Wp.step);case h=>((try simp(disch:=omega)only[↓reduceIte,Za,↓X0,X1,Nat.reduceEqDiff,Int.reduceEq,Nat.reduceAdd,Nat.reduceSub,X2,Ze,Nat.reduceLeDiff,s1,s2]);with_reducible first|done|exact rfl|exact bT|exact bF))|apply Zf|apply Zj|with_reducible apply Zk|simp only[↓X3]|with_reducible apply Zb))
   exact Wp.pure ⟨rfl,by simp only; omega,(by intros;first|with_reducible rfl|simp(disch:=omega)only[Ze,Zh,s2,s1]),c2.mv (by simp only; omega) (by intros;first|with_reducible rfl|simp(disch:=omega)only[Ze,Zh]),by simp [Zl],by simp [Zl],(by intros;first|with_reducible rfl|simp(disch:=omega)only[Ze,Zh,s2,s1]),⟨xk,xn,xs,IntKind.i64.wrap (y - 1),xb⟩,hx,by simp (disch:=omega) only [Zh,Nd.cells]⟩
  by_cases e2:k=2
  ·subst e2
   try simp only [Int.reduceEq,decide_false,decide_true]
   ((repeat(first|((with_reducible first|apply Wp.gs|apply Wp.cs|apply Zc|apply Zg|apply Zd|apply Zi|apply Zn|apply Wp.step);case h=>((try simp(disch:=omega)only[↓reduceIte,Za,↓X0,X1,Nat.reduceEqDiff,Int.reduceEq,Nat.reduceAdd,Nat.reduceSub,Zq]);with_reducible first|done|exact rfl|exact bT|exact bF))|apply Zf|apply Zj|with_reducible apply Zk|simp only[↓X3]|with_reducible apply Zb));try(with_reducible apply Zm;case h=>((try simp(disch:=omega)only[X1,Nat.reduceEqDiff,Zq]);with_reducible exact rfl)))
   refine Yh (k38 (c1.mv (by omega) (by intros;first|with_reducible rfl|simp(disch:=omega)only[Ze,Zh])) 20) ?_
   rintro _ H2 n2 q2 s2 c2 ⟨y,rfl,_,_⟩
   (repeat(first|((with_reducible first|apply Wp.gs|apply Wp.cs|apply Zc|apply Zg|apply Zd|apply Zi|apply Zn|apply Wp.step);case h=>((try simp(disch:=omega)only[↓reduceIte,Za,↓X0,X1,Nat.reduceEqDiff,Int.reduceEq,Nat.reduceAdd,Nat.reduceSub,X2,Ze,Nat.reduceLeDiff,s1,s2]);with_reducible first|done|exact rfl|exact bT|exact bF))|apply Zf|apply Zj|with_reducible apply Zk|simp only[↓X3]|with_reducible apply Zb))
   exact Wp.pure ⟨rfl,by simp only; omega,(by intros;first|with_reducible rfl|simp(disch:=omega)only[Ze,Zh,s2,s1]),c2.mv (by simp only; omega) (by intros;first|with_reducible rfl|simp(disch:=omega)only[Ze,Zh]),by simp [Zl],by simp [Zl],(by intros;first|with_reducible rfl|simp(disch:=omega)only[Ze,Zh,s2,s1]),⟨xk,xn,xs,xa,IntKind.i64.wrap (y - 1)⟩,hx,by simp (disch:=omega) only [Zh,Nd.cells]⟩
  by_cases e3:k=3
  ·subst e3
   try simp only [Int.reduceEq,decide_false,decide_true]
   ((repeat(first|((with_reducible first|apply Wp.gs|apply Wp.cs|apply Zc|apply Zg|apply Zd|apply Zi|apply Zn|apply Wp.step);case h=>((try simp(disch:=omega)only[↓reduceIte,Za,↓X0,X1,Nat.reduceEqDiff,Int.reduceEq,Nat.reduceAdd,Nat.reduceSub,Zq]);with_reducible first|done|exact rfl|exact bT|exact bF))|apply Zf|apply Zj|with_reducible apply Zk|simp only[↓X3]|with_reducible apply Zb));try(with_reducible apply Zm;case h=>((try simp(disch:=omega)only[X1,Nat.reduceEqDiff,Zq]);with_reducible exact rfl)))
   refine Wp.bslN eInt [-1,2,99,100,1000000000,1000000001,-1000000000,-1000000001] (by decide) rfl rfl ?_
   ((repeat(first|((with_reducible first|apply Wp.gs|apply Wp.cs|apply Zc|apply Zg|apply Zd|apply Zi|apply Zn|apply Wp.step);case h=>((try simp(disch:=omega)only[↓reduceIte,Za,↓X0,X1,Nat.reduceEqDiff,Int.reduceEq,Nat.reduceAdd,Nat.reduceSub,Zq]);with_reducible first|done|exact rfl|exact bT|exact bF))|apply Zf|apply Zj|with_reducible apply Zk|simp only[↓X3]|with_reducible apply Zb));try(with_reducible apply Zm;case h=>((try simp(disch:=omega)only[X1,Nat.reduceEqDiff,Zq]);with_reducible exact rfl)))
   refine Yh (k62 (c1.mv (by omega) (by intros;first|with_reducible rfl|simp(disch:=omega)only[Ze,Zh])) ((At.of rfl (Zh _ _ _)).lst (by omega)) (Off.sl (by omega)) (by simp)) ?_
   rintro _ H2 n2 q2 s2 c2 ⟨y,rfl,_⟩
   (repeat(first|((with_reducible first|apply Wp.gs|apply Wp.cs|apply Zc|apply Zg|apply Zd|apply Zi|apply Zn|apply Wp.step);case h=>((try simp(disch:=omega)only[↓reduceIte,Za,↓X0,X1,Nat.reduceEqDiff,Int.reduceEq,Nat.reduceAdd,Nat.reduceSub,X2,Ze,Nat.reduceLeDiff,s1,s2]);with_reducible first|done|exact rfl|exact bT|exact bF))|apply Zf|apply Zj|with_reducible apply Zk|simp only[↓X3]|with_reducible apply Zb))
   exact Wp.pure ⟨rfl,by simp only; omega,(by intros;first|with_reducible rfl|simp(disch:=omega)only[Ze,Zh,s2,s1]),c2.mv (by simp only; omega) (by intros;first|with_reducible rfl|simp(disch:=omega)only[Ze,Zh]),by simp [Zl],by simp [Zl],(by intros;first|with_reducible rfl|simp(disch:=omega)only[Ze,Zh,s2,s1]),⟨xk,y,xs,xa,xb⟩,hx,by simp (disch:=omega) only [Zh,Nd.cells]⟩
  by_cases e4:k=4
  ·subst e4
   try simp only [Int.reduceEq,decide_false,decide_true]
   ((repeat(first|((with_reducible first|apply Wp.gs|apply Wp.cs|apply Zc|apply Zg|apply Zd|apply Zi|apply Zn|apply Wp.step);case h=>((try simp(disch:=omega)only[↓reduceIte,Za,↓X0,X1,Nat.reduceEqDiff,Int.reduceEq,Nat.reduceAdd,Nat.reduceSub,Zq]);with_reducible first|done|exact rfl|exact bT|exact bF))|apply Zf|apply Zj|with_reducible apply Zk|simp only[↓X3]|with_reducible apply Zb));try(with_reducible apply Zm;case h=>((try simp(disch:=omega)only[X1,Nat.reduceEqDiff,Zq]);with_reducible exact rfl)))
   refine Wp.bslN eStr [⟨#[]⟩,⟨#[97]⟩,⟨#[65,98]⟩,⟨#[97,98,99,100,101,102,103,104,105,106,107,108]⟩,⟨#[97,98,99,100,101,102,103,104,105,106,107,108,109]⟩,⟨#[97,49]⟩] (by decide) rfl rfl ?_
   ((repeat(first|((with_reducible first|apply Wp.gs|apply Wp.cs|apply Zc|apply Zg|apply Zd|apply Zi|apply Zn|apply Wp.step);case h=>((try simp(disch:=omega)only[↓reduceIte,Za,↓X0,X1,Nat.reduceEqDiff,Int.reduceEq,Nat.reduceAdd,Nat.reduceSub,Zq]);with_reducible first|done|exact rfl|exact bT|exact bF))|apply Zf|apply Zj|with_reducible apply Zk|simp only[↓X3]|with_reducible apply Zb));try(with_reducible apply Zm;case h=>((try simp(disch:=omega)only[X1,Nat.reduceEqDiff,Zq]);with_reducible exact rfl)))
   refine Yh (k58 (c1.mv (by omega) (by intros;first|with_reducible rfl|simp(disch:=omega)only[Ze,Zh])) ((At.of rfl (Zh _ _ _)).lst (by omega)) (Off.sl (by omega)) (by simp)) ?_
   rintro _ H2 n2 q2 s2 c2 ⟨y,rfl,hy⟩
   have key:∀ s∈([⟨#[]⟩,⟨#[97]⟩,⟨#[65,98]⟩,⟨#[97,98,99,100,101,102,103,104,105,106,107,108]⟩,⟨#[97,98,99,100,101,102,103,104,105,106,107,108,109]⟩,⟨#[97,49]⟩]:List ByteArray),s.size≤100:=by decide
   (repeat(first|((with_reducible first|apply Wp.gs|apply Wp.cs|apply Zc|apply Zg|apply Zd|apply Zi|apply Zn|apply Wp.step);case h=>((try simp(disch:=omega)only[↓reduceIte,Za,↓X0,X1,Nat.reduceEqDiff,Int.reduceEq,Nat.reduceAdd,Nat.reduceSub,X2,Ze,Nat.reduceLeDiff,s1,s2]);with_reducible first|done|exact rfl|exact bT|exact bF))|apply Zf|apply Zj|with_reducible apply Zk|simp only[↓X3]|with_reducible apply Zb))
   exact Wp.pure ⟨rfl,by simp only; omega,(by intros;first|with_reducible rfl|simp(disch:=omega)only[Ze,Zh,s2,s1]),c2.mv (by simp only; omega) (by intros;first|with_reducible rfl|simp(disch:=omega)only[Ze,Zh]),by simp [Zl],by simp [Zl],(by intros;first|with_reducible rfl|simp(disch:=omega)only[Ze,Zh,s2,s1]),⟨xk,xn,y,xa,xb⟩,key y hy,by simp (disch:=omega) only [Zh,Nd.cells]⟩
  rw [decide_eq_false e0]
  (repeat(first|((with_reducible first|apply Wp.gs|apply Wp.cs|apply Zc|apply Zg|apply Zd|apply Zi|apply Zn|apply Wp.step);case h=>((try simp(disch:=omega)only[↓reduceIte,Za,↓X0,X1,Nat.reduceEqDiff,Int.reduceEq,Nat.reduceAdd,Nat.reduceSub,e0,e1,e2,e3,e4]);with_reducible first|done|exact rfl|exact bT|exact bF))|apply Zf|apply Zj|with_reducible apply Zk|simp only[↓X3]|with_reducible apply Zb))
  exact Wp.pure ⟨rfl,by simp only; omega,(by intros;first|with_reducible rfl|simp(disch:=omega)only[Ze,Zh,s1]),c1.mv (by simp only; omega) (by intros;first|with_reducible rfl|simp(disch:=omega)only[Ze,Zh]),by simp [Zl],by simp [Zl],(by intros;first|with_reducible rfl|simp(disch:=omega)only[Ze,Zh,s1]),⟨xk,xn,xs,xa,xb⟩,hx,by simp (disch:=omega) only [s1,Ze,Zh,Nd.cells]⟩
 ·rintro ⟨oe,ot,oH,on⟩ ⟨rfl,f1,f2,f3,f4,f5,f6,⟨yk,yn,ys,ya,yb⟩,hy,f7⟩
  simp only [Nd.cells] at f1 f2 f3 f4 f5 f6 f7
  (repeat(first|((with_reducible first|apply Wp.gs|apply Wp.cs|apply Zc|apply Zg|apply Zd|apply Zi|apply Zn|apply Wp.step);case h=>((try simp(disch:=omega)only[↓reduceIte,Za,↓X0,X1,Nat.reduceEqDiff,Int.reduceEq,Nat.reduceAdd,Nat.reduceSub,X2,Ze,Nat.reduceLeDiff,f4,f5,f6,f7]);with_reducible first|done|exact rfl|exact bT|exact bF))|apply Zf|apply Zj|with_reducible apply Zk|simp only[↓X3]|with_reducible apply Zb))
  exact Wp.pure ⟨by simp only; omega,(by intros;first|with_reducible rfl|simp(disch:=omega)only[Ze,Zh,f2]),f3.mv (by simp only; omega) (by intros;first|with_reducible rfl|simp(disch:=omega)only[Ze,Zh]),⟨yk,yn,ys,ya,yb⟩,rfl,hy⟩
theorem k40 {c n:Nat} {H:Hp} (hc:Cu c n H) {v:Value} {l:List Nd} (hv:Li eNode n H v l) (hvc:Off c v) (hl:l.length≤1048576):RtD Try.prog 40 [ptr c 0,.agg ⟨[v]⟩] c H n (fun r _ _=>∃ y:Int,r=.int .i64 y):=by
 apply RtD.mk
 rw [c40]; unfold S40
 have hcn:=hc.1
 by_cases e0:(l.length:Int)=0
 ·((repeat(first|((with_reducible first|apply Wp.gs|apply Wp.cs|apply Zc|apply Zg|apply Zd|apply Zi|apply Zn|apply Wp.step);case h=>((try simp(disch:=omega)only[↓reduceIte,Za,↓X0,X1,Nat.reduceEqDiff,Int.reduceEq,Nat.reduceAdd,Nat.reduceSub,X2,Ze,Nat.reduceLeDiff,Zq,hv.len,e0]);with_reducible first|done|exact rfl|exact bT|exact bF))|apply Zf|apply Zj|with_reducible apply Zk|simp only[↓X3]|with_reducible apply Zb));try(with_reducible apply Zm;case h=>((try simp(disch:=omega)only[X1,Nat.reduceEqDiff,Zq,hv.len,e0]);with_reducible exact rfl)))
  refine Wp.bslN eInt [-1,0,0] (by decide) rfl rfl ?_
  ((repeat(first|((with_reducible first|apply Wp.gs|apply Wp.cs|apply Zc|apply Zg|apply Zd|apply Zi|apply Zn|apply Wp.step);case h=>((try simp(disch:=omega)only[↓reduceIte,Za,↓X0,X1,Nat.reduceEqDiff,Int.reduceEq,Nat.reduceAdd,Nat.reduceSub,Zq]);with_reducible first|done|exact rfl|exact bT|exact bF))|apply Zf|apply Zj|with_reducible apply Zk|simp only[↓X3]|with_reducible apply Zb));try(with_reducible apply Zm;case h=>((try simp(disch:=omega)only[X1,Nat.reduceEqDiff,Zq]);with_reducible exact rfl)))
  refine Yh (k62 (hc.mv (by omega) (by intros;first|with_reducible rfl|simp(disch:=omega)only[Ze,Zh])) ((At.of rfl (Zh _ _ _)).lst (by omega)) (Off.sl (by omega)) (by simp)) ?_
  rintro _ H2 n2 q2 s2 c2 ⟨y,rfl,_⟩
  (repeat(first|((with_reducible first|apply Wp.gs|apply Wp.cs|apply Zc|apply Zg|apply Zd|apply Zi|apply Zn|apply Wp.step);case h=>((try simp(disch:=omega)only[↓reduceIte,Za,↓X0,X1,Nat.reduceEqDiff,Int.reduceEq,Nat.reduceAdd,Nat.reduceSub]);with_reducible first|done|exact rfl|exact bT|exact bF))|apply Zf|apply Zj|with_reducible apply Zk|simp only[↓X3]|with_reducible apply Zb))
  exact Wp.pure ⟨by simp only; omega,(by intros;first|with_reducible rfl|simp(disch:=omega)only[Ze,Zh,s2]),c2,y,rfl⟩
 ((repeat(first|((with_reducible first|apply Wp.gs|apply Wp.cs|apply Zc|apply Zg|apply Zd|apply Zi|apply Zn|apply Wp.step);case h=>((try simp(disch:=omega)only[↓reduceIte,Za,↓X0,X1,Nat.reduceEqDiff,Int.reduceEq,Nat.reduceAdd,Nat.reduceSub,X2,Ze,Nat.reduceLeDiff,Zq,hv.len,e0]);with_reducible first|done|exact rfl|exact bT|exact bF))|apply Zf|apply Zj|with_reducible apply Zk|simp only[↓X3]|with_reducible apply Zb));try(with_reducible apply Zm;case h=>((try simp(disch:=omega)only[X1,Nat.reduceEqDiff,Zq,hv.len,e0]);with_reducible exact rfl)))
 refine Yh (k35 (hc.mv (by omega) (by intros;first|with_reducible rfl|simp(disch:=omega)only[Ze,Zh])) 20) ?_
 rintro _ H1 n1 q1 s1 c1 ⟨b,rfl⟩
 cases b with
 | true =>
  ((repeat(first|((with_reducible first|apply Wp.gs|apply Wp.cs|apply Zc|apply Zg|apply Zd|apply Zi|apply Zn|apply Wp.step);case h=>((try simp(disch:=omega)only[↓reduceIte,Za,↓X0,X1,Nat.reduceEqDiff,Int.reduceEq,Nat.reduceAdd,Nat.reduceSub,X2,Ze,Nat.reduceLeDiff,Zq,hv.len,s1]);with_reducible first|done|exact rfl|exact bT|exact bF))|apply Zf|apply Zj|with_reducible apply Zk|simp only[↓X3]|with_reducible apply Zb));try(with_reducible apply Zm;case h=>((try simp(disch:=omega)only[X1,Nat.reduceEqDiff,Zq,hv.len,s1]);with_reducible exact rfl)))
  refine Wp.bslN eInt [-1,0,(l.length:Int)] (by decide) rfl rfl ?_
  ((repeat(first|((with_reducible first|apply Wp.gs|apply Wp.cs|apply Zc|apply Zg|apply Zd|apply Zi|apply Zn|apply Wp.step);case h=>((try simp(disch:=omega)only[↓reduceIte,Za,↓X0,X1,Nat.reduceEqDiff,Int.reduceEq,Nat.reduceAdd,Nat.reduceSub,Zq]);with_reducible first|done|exact rfl|exact bT|exact bF))|apply Zf|apply Zj|with_reducible apply Zk|simp only[↓X3]|with_reducible apply Zb));try(with_reducible apply Zm;case h=>((try simp(disch:=omega)only[X1,Nat.reduceEqDiff,Zq]);with_reducible exact rfl)))
  refine Yh (k62 (c1.mv (by omega) (by intros;first|with_reducible rfl|simp(disch:=omega)only[Ze,Zh])) ((At.of rfl (Zh _ _ _)).lst (by omega)) (Off.sl (by omega)) (by simp)) ?_
  rintro _ H2 n2 q2 s2 c2 ⟨y,rfl,_⟩
  (repeat(first|((with_reducible first|apply Wp.gs|apply Wp.cs|apply Zc|apply Zg|apply Zd|apply Zi|apply Zn|apply Wp.step);case h=>((try simp(disch:=omega)only[↓reduceIte,Za,↓X0,X1,Nat.reduceEqDiff,Int.reduceEq,Nat.reduceAdd,Nat.reduceSub]);with_reducible first|done|exact rfl|exact bT|exact bF))|apply Zf|apply Zj|with_reducible apply Zk|simp only[↓X3]|with_reducible apply Zb))
  exact Wp.pure ⟨by simp only; omega,(by intros;first|with_reducible rfl|simp(disch:=omega)only[Ze,Zh,s2,s1]),c2,y,rfl⟩
 | false =>
  ((repeat(first|((with_reducible first|apply Wp.gs|apply Wp.cs|apply Zc|apply Zg|apply Zd|apply Zi|apply Zn|apply Wp.step);case h=>((try simp(disch:=omega)only[↓reduceIte,Za,↓X0,X1,Nat.reduceEqDiff,Int.reduceEq,Nat.reduceAdd,Nat.reduceSub,X2,Ze,Nat.reduceLeDiff,Zq,hv.len,s1,k79]);with_reducible first|done|exact rfl|exact bT|exact bF))|apply Zf|apply Zj|with_reducible apply Zk|simp only[↓X3]|with_reducible apply Zb));try(with_reducible apply Zm;case h=>((try simp(disch:=omega)only[X1,Nat.reduceEqDiff,Zq,hv.len,s1,k79]);with_reducible exact rfl)))
  refine Yh (k38 (c1.mv (by omega) (by intros;first|with_reducible rfl|simp(disch:=omega)only[Ze,Zh])) _) ?_
  rintro _ H2 n2 q2 s2 c2 ⟨y,rfl,_,_⟩
  (repeat(first|((with_reducible first|apply Wp.gs|apply Wp.cs|apply Zc|apply Zg|apply Zd|apply Zi|apply Zn|apply Wp.step);case h=>((try simp(disch:=omega)only[↓reduceIte,Za,↓X0,X1,Nat.reduceEqDiff,Int.reduceEq,Nat.reduceAdd,Nat.reduceSub,X2,Ze,Nat.reduceLeDiff,s1,s2]);with_reducible first|done|exact rfl|exact bT|exact bF))|apply Zf|apply Zj|with_reducible apply Zk|simp only[↓X3]|with_reducible apply Zb))
  exact Wp.pure ⟨by simp only; omega,(by intros;first|with_reducible rfl|simp(disch:=omega)only[Ze,Zh,s2,s1]),c2.up (by simp only; omega),_,rfl⟩
theorem k39 {c n:Nat} {H:Hp} (hc:Cu c n H):RtD Try.prog 39 [ptr c 0] c H n (fun r H' n'=>∃ (u:Value) (l:List Nd),r=.agg ⟨[u]⟩∧(∀ x∈l,Sh x)∧l.length≤3001∧New eNode n n' H' u l):=by
 apply RtD.mk
 rw [c39]; unfold S39
 have hcn:=hc.1
 ((repeat(first|((with_reducible first|apply Wp.gs|apply Wp.cs|apply Zc|apply Zg|apply Zd|apply Zi|apply Zn|apply Wp.step);case h=>((try simp(disch:=omega)only[↓reduceIte,Za,↓X0,X1,Nat.reduceEqDiff,Int.reduceEq,Nat.reduceAdd,Nat.reduceSub,X2,Ze,Nat.reduceLeDiff,Zq]);with_reducible first|done|exact rfl|exact bT|exact bF))|apply Zf|apply Zj|with_reducible apply Zk|simp only[↓X3]|with_reducible apply Zb));try(with_reducible apply Zm;case h=>((try simp(disch:=omega)only[X1,Nat.reduceEqDiff,Zq]);with_reducible exact rfl)))
 refine Yh (k84 (hc.mv (by omega) (by intros;first|with_reducible rfl|simp(disch:=omega)only[Ze,Zh]))) ?_
 rintro _ H1 n1 q1 s1 c1 ⟨uu,ll,rfl,hsh',hlen,idd,i1,i2,haa⟩
 have hlv:∀ H':Hp,H' idd=H1 idd→lenV false uu=some (.int .i64 ll.length):=fun H' h=>((haa.mv (H':=H1) rfl).lst i2).len
 have hlu:=hlv H1 rfl
 by_cases hl0:(0:Int) < ll.length
 ·((repeat(first|((with_reducible first|apply Wp.gs|apply Wp.cs|apply Zc|apply Zg|apply Zd|apply Zi|apply Zn|apply Wp.step);case h=>((try simp(disch:=omega)only[↓reduceIte,Za,↓X0,X1,Nat.reduceEqDiff,Int.reduceEq,Nat.reduceAdd,Nat.reduceSub,X2,Ze,Nat.reduceLeDiff,Zq,hlu,hl0]);with_reducible first|done|exact rfl|exact bT|exact bF))|apply Zf|apply Zj|with_reducible apply Zk|simp only[↓X3]|with_reducible apply Zb));try(with_reducible apply Zm;case h=>((try simp(disch:=omega)only[X1,Nat.reduceEqDiff,Zq,hlu,hl0]);with_reducible exact rfl)))
  refine Yh (k35 (c1.mv (by omega) (by intros;first|with_reducible rfl|simp(disch:=omega)only[Ze,Zh])) 12) ?_
  rintro _ H2 n2 q2 s2 c2 ⟨b,rfl⟩
  (repeat(first|((with_reducible first|apply Wp.gs|apply Wp.cs|apply Zc|apply Zg|apply Zd|apply Zi|apply Zn|apply Wp.step);case h=>((try simp(disch:=omega)only[↓reduceIte,Za,↓X0,X1,Nat.reduceEqDiff,Int.reduceEq,Nat.reduceAdd,Nat.reduceSub]);with_reducible first|done|exact rfl|exact bT|exact bF))|apply Zf|apply Zj|with_reducible apply Zk|simp only[↓X3]|with_reducible apply Zb))
  refine Wp.bind (R:=fun (o:Out)=>o.e=.normal∧n2≤o.n∧(∀ i,i < n→i≠c→o.H i=H i)∧Cu c o.n o.H∧o.t 0=ptr c 0∧o.t 2=ptr n 0∧o.t 3=ptr (n+3) 0∧o.H n=some (.row [nilS] 0 true)∧o.H (n+3)=some (.row [uu] 0 true)∧∃ l':List Nd,(∀ x∈l',Sh x)∧l'.length≤15∧At eNode idd o.H uu l') ?_ ?_
  ·cases b with
   | false =>
    (repeat(first|((with_reducible first|apply Wp.gs|apply Wp.cs|apply Zc|apply Zg|apply Zd|apply Zi|apply Zn|apply Wp.step);case h=>((try simp(disch:=omega)only[↓reduceIte,Za,↓X0,X1,Nat.reduceEqDiff,Int.reduceEq,Nat.reduceAdd,Nat.reduceSub]);with_reducible first|done|exact rfl|exact bT|exact bF))|apply Zf|apply Zj|with_reducible apply Zk|simp only[↓X3]|with_reducible apply Zb))
    exact Wp.pure ⟨rfl,by simp only; omega,(by intros;first|with_reducible rfl|simp(disch:=omega)only[Ze,Zh,s2,s1]),c2.up (by simp only; omega),by simp [Zl,Zq],by simp [Zl],by simp [Zl],(by intros;first|with_reducible rfl|simp(disch:=omega)only[Ze,Zh,s2,s1]),(by intros;first|with_reducible rfl|simp(disch:=omega)only[Ze,Zh,s2]),ll,hsh',hlen,haa.mv (by intros;first|with_reducible rfl|simp(disch:=omega)only[Ze,Zh,s2])⟩
   | true =>
    rcases haa with ⟨_,rfl⟩ | ⟨rfl,haa⟩
    ·simp at hl0
    ((repeat(first|((with_reducible first|apply Wp.gs|apply Wp.cs|apply Zc|apply Zg|apply Zd|apply Zi|apply Zn|apply Wp.step);case h=>((try simp(disch:=omega)only[↓reduceIte,Za,↓X0,X1,Nat.reduceEqDiff,Int.reduceEq,Nat.reduceAdd,Nat.reduceSub,X2,Ze,Nat.reduceLeDiff,Zq,s2,len_sl]);with_reducible first|done|exact rfl|exact bT|exact bF))|apply Zf|apply Zj|with_reducible apply Zk|simp only[↓X3]|with_reducible apply Zb));try(with_reducible apply Zm;case h=>((try simp(disch:=omega)only[X1,Nat.reduceEqDiff,Zq,s2,len_sl]);with_reducible exact rfl)))
    refine Yh (k38 (c2.mv (by omega) (by intros;first|with_reducible rfl|simp(disch:=omega)only[Ze,Zh])) _) ?_
    rintro _ H3 n3 q3 s3 c3 ⟨y,rfl,_,hy⟩
    have hy:=hy hl0
    have hli:Li eNode n1 H3 (sl idd 0 ll.length) ll:=((At.of rfl haa:At eNode idd H1 _ ll).mv (H':=H3) (by intros;first|with_reducible rfl|simp(disch:=omega)only[Ze,Zh,s3,s2])).lst i2
    have g:=hli.nAll hy.1 hy.2
    have hix:=idx_sli (sz:=5) (id:=idd) (k:=.i64) hy.1 hy.2
    have hag:ld true 5 (ptr idd (y.toNat * 5)) H3=some (.agg ⟨(gi ll y).cells⟩):=by
     have:=g.2.1
     simpa [elP] using this
    ((repeat(first|((with_reducible first|apply Wp.gs|apply Wp.cs|apply Zc|apply Zg|apply Zd|apply Zi|apply Zn|apply Wp.step);case h=>((try simp(disch:=omega)only[↓reduceIte,Za,↓X0,X1,Nat.reduceEqDiff,Int.reduceEq,Nat.reduceAdd,Nat.reduceSub,X2,Ze,Nat.reduceLeDiff,Zq,s3,s2,hix,hag]);with_reducible first|done|exact rfl|exact bT|exact bF))|apply Zf|apply Zj|with_reducible apply Zk|simp only[↓X3]|with_reducible apply Zb));try(with_reducible apply Zm;case h=>((try simp(disch:=omega)only[X1,Nat.reduceEqDiff,Zq,s3,s2,hix,hag]);with_reducible exact rfl)))
    refine Yh (k85 (c3.up (by omega)) (gi ll y) (hsh' _ (gi_mem hy.1 hy.2))) ?_
    rintro _ H4 n4 q4 s4 c4 ⟨z,rfl,hz⟩
    have hH4:H4 idd=some (.row (ll.flatMap eNode.cells) 5 true):=by simp (disch:=omega) only [s4,s3,s2,Ze,Zh,haa]
    have hst:st true 5 (ptr idd (y.toNat * 5)) (.agg ⟨z.cells⟩) H4=some (H4.set idd (some (.row ((ll.set y.toNat z).flatMap eNode.cells) 5 true))):=by
     rw [st_agg,if_pos (show z.cells.length=5 from rfl)]
     exact st_el (E:=eNode) hH4 (by omega) z
    (repeat(first|((with_reducible first|apply Wp.gs|apply Wp.cs|apply Zc|apply Zg|apply Zd|apply Zi|apply Zn|apply Wp.step);case h=>((try simp(disch:=omega)only[↓reduceIte,Za,↓X0,X1,Nat.reduceEqDiff,Int.reduceEq,Nat.reduceAdd,Nat.reduceSub,X2,Ze,Nat.reduceLeDiff,Zq,s4,s3,s2,hix,hst]);with_reducible first|done|exact rfl|exact bT|exact bF))|apply Zf|apply Zj|with_reducible apply Zk|simp only[↓X3]|with_reducible apply Zb))
    refine Wp.pure ⟨rfl,by simp only; omega,(by intros;first|with_reducible rfl|simp(disch:=omega)only[Ze,Zh,s4,s3,s2,s1]),c4.mv (by simp only; omega) (by intros;first|with_reducible rfl|simp(disch:=omega)only[Ze,Zh]),by simp [Zl,Zq],by simp [Zl],by simp [Zl],(by intros;first|with_reducible rfl|simp(disch:=omega)only[Ze,Zh,s4,s3,s2,s1]),(by intros;first|with_reducible rfl|simp(disch:=omega)only[Ze,Zh,s4,s3,s2]),ll.set y.toNat z,?_,by rw [List.length_set]; exact hlen,.inr ⟨by rw [List.length_set],Zh _ _ _⟩⟩
    intro x hx
    rcases List.mem_or_eq_of_mem_set hx with h | rfl
    ·exact hsh' x h
    ·exact hz
  ·clear haa hlv hlu hl0 hsh' hlen
   rintro ⟨oe,ot,oH,on⟩ ⟨rfl,f1,f2,f3,f4,f5,f6,f7,f8,ll,hsh',hlen,haa⟩
   simp only at f1 f2 f3 f4 f5 f6 f7 f8 haa
   ((repeat(first|((with_reducible first|apply Wp.gs|apply Wp.cs|apply Zc|apply Zg|apply Zd|apply Zi|apply Zn|apply Wp.step);case h=>((try simp(disch:=omega)only[↓reduceIte,Za,↓X0,X1,Nat.reduceEqDiff,Int.reduceEq,Nat.reduceAdd,Nat.reduceSub,f4]);with_reducible first|done|exact rfl|exact bT|exact bF))|apply Zf|apply Zj|with_reducible apply Zk|simp only[↓X3]|with_reducible apply Zb));try(with_reducible apply Zm;case h=>((try simp(disch:=omega)only[X1,Nat.reduceEqDiff,f4]);with_reducible exact rfl)))
   refine Yh (k35 (f3.mv (by omega) (by intros;first|with_reducible rfl|simp(disch:=omega)only[Ze,Zh])) 60) ?_
   rintro _ H6 n6 q6 s6 c6 ⟨b60,rfl⟩
   cases b60 with
   | false =>
    (repeat(first|((with_reducible first|apply Wp.gs|apply Wp.cs|apply Zc|apply Zg|apply Zd|apply Zi|apply Zn|apply Wp.step);case h=>((try simp(disch:=omega)only[↓reduceIte,Za,↓X0,X1,Nat.reduceEqDiff,Int.reduceEq,Nat.reduceAdd,Nat.reduceSub,X2,Ze,Nat.reduceLeDiff,f4,f5,f6,f7,f8,s6]);with_reducible first|done|exact rfl|exact bT|exact bF))|apply Zf|apply Zj|with_reducible apply Zk|simp only[↓X3]|with_reducible apply Zb))
    exact Wp.pure ⟨by simp only; omega,(by intros;first|with_reducible rfl|simp(disch:=omega)only[Ze,Zh,s6,f2]),c6.mv (by simp only; omega) (by intros;first|with_reducible rfl|simp(disch:=omega)only[Ze,Zh]),uu,ll,rfl,hsh',by omega,idd,by omega,by simp only; omega,haa.mv (by intros;first|with_reducible rfl|simp(disch:=omega)only[Ze,Zh,s6])⟩
   | true =>
    ((repeat(first|((with_reducible first|apply Wp.gs|apply Wp.cs|apply Zc|apply Zg|apply Zd|apply Zi|apply Zn|apply Wp.step);case h=>((try simp(disch:=omega)only[↓reduceIte,Za,↓X0,X1,Nat.reduceEqDiff,Int.reduceEq,Nat.reduceAdd,Nat.reduceSub,X2,Ze,Nat.reduceLeDiff,f4,f5,f6,f7,f8]);with_reducible first|done|exact rfl|exact bT|exact bF))|apply Zf|apply Zj|with_reducible apply Zk|simp only[↓X3]|with_reducible apply Zb));try(with_reducible apply Zm;case h=>((try simp(disch:=omega)only[X1,Nat.reduceEqDiff,f4,f5,f6,f7,f8]);with_reducible exact rfl)))
    refine Yh (k38 (c6.up (by omega)) 2) ?_
    rintro _ H7 n7 q7 s7 c7 ⟨y,rfl,_,hy⟩
    have hy:=hy (by decide)
    have hw:IntKind.i64.wrap (3000+y)=((3000+y.toNat:Nat):Int):=by rw [w64 (by omega)]; omega
    have hm:=mks_new eNode (default:Nd) (id:=n6+3) (bytes:=48) (k:=3000+y.toNat) H7 (by decide) (by omega)
    have hz:eNode.cells (default:Nd)=[.int .i64 0,.int .i64 0,.string ⟨#[]⟩,.int .i64 0,.int .i64 0]:=rfl
    rw [hz] at hm
    have hb7:H7 (n+3)=some (.row [uu] 0 true):=by simp (disch:=omega) only [s7,s6,f7,f8]
    ((repeat(first|((with_reducible first|apply Wp.gs|apply Wp.cs|apply Zc|apply Zg|apply Zd|apply Zi|apply Zn|apply Wp.step);case h=>((try simp(disch:=omega)only[↓reduceIte,Za,↓X0,X1,Nat.reduceEqDiff,Int.reduceEq,Nat.reduceAdd,Nat.reduceSub,X2,Ze,Nat.reduceLeDiff,f4,f5,f6,hw,hm,hb7]);with_reducible first|done|exact rfl|exact bT|exact bF))|apply Zf|apply Zj|with_reducible apply Zk|simp only[↓X3]|with_reducible apply Zb));try(with_reducible apply Zm;case h=>((try simp(disch:=omega)only[X1,Nat.reduceEqDiff,f4,f5,f6,hw,hm,hb7]);with_reducible exact rfl)))
    generalize hK:3000+y.toNat=K at *
    have hKl:K≤3001:=by omega
    refine Wp.bind (Loop_rule (fun d T H' n'=>∃ j:Nat,j+d=K∧n7+1≤n'∧(∀ i,i < n6+3→i≠n+3→H' i=H7 i)∧T 2=ptr n 0∧T 3=ptr (n+3) 0∧T 5=.int .i64 j∧H' (n+3)=some (.row [sl (n6+3) 0 K] 0 true)∧H' (n6+3)=some (.row ((fam (fun _=>(⟨1,0,⟨#[]⟩,0,0⟩:Nd)) j++(List.replicate K (default:Nd)).drop j).flatMap eNode.cells) 5 true)) (fun o=>n7+1≤o.n∧(∀ i,i < n6+3→i≠n+3→o.H i=H7 i)∧o.e=.exit 0∧o.t 2=ptr n 0∧o.t 3=ptr (n+3) 0∧o.H (n+3)=some (.row [sl (n6+3) 0 K] 0 true)∧o.H (n6+3)=some (.row ((fam (fun _=>(⟨1,0,⟨#[]⟩,0,0⟩:Nd)) K).flatMap eNode.cells) 5 true)) ?_ K _ _ _ ⟨0,by omega,by omega,(by intros;first|with_reducible rfl|simp(disch:=omega)only[Ze,Zh]),by simp [Zl,f4,f5,f6],by simp [Zl,f4,f5,f6],by simp [Zl],Zh _ _ _,by simp (disch:=omega) only [Ze,Zh]; simp [fam]⟩) ?_
    ·rintro d T H' n' ⟨j,hj,hn,s0,e2,e3,e5,hB,hH⟩
     unfold S39L0
     by_cases hlt:j < K
     ·have hlti:(j:Int) < (K:Int):=by omega
      have hws:IntKind.i64.wrap ((j:Int)+1)=((j+1:Nat):Int):=wn (by omega)
      have hset:=fam_set (fun _=>(⟨1,0,⟨#[]⟩,0,0⟩:Nd)) (l:=List.replicate K (default:Nd)) (j:=j) (by simpa using hlt)
      have hjl:j < (fam (fun _=>(⟨1,0,⟨#[]⟩,0,0⟩:Nd)) j++(List.replicate K (default:Nd)).drop j).length:=by rw [fam_drop_len _ (by simp; omega)]; simpa using hlt
      have hat:=fam_drop_at (fun _=>(⟨1,0,⟨#[]⟩,0,0⟩:Nd)) (l:=List.replicate K (default:Nd)) (j:=j) (by simpa using hlt) hjl
      have t0:st false 1 (ptr (n6+3) (j * 5)) (.int .i64 1) H'=some (H'.set (n6+3) (some (.row (((fam (fun _=>(⟨1,0,⟨#[]⟩,0,0⟩:Nd)) j++(List.replicate K (default:Nd)).drop j).set j ⟨1,0,⟨#[]⟩,0,0⟩).flatMap eNode.cells) 5 true))):=st_fcD (E:=eNode) hH hjl (f:=0) (by decide) (y:=⟨1,0,⟨#[]⟩,0,0⟩) (c:=.int .i64 1) rfl (by rw [hat]; simp; rfl)
      rw [hset] at t0
      have hix:=idx_sl (sz:=5) (id:=n6+3) (k:=.i64) hlt
      (repeat(first|((with_reducible first|apply Wp.gs|apply Wp.cs|apply Zc|apply Zg|apply Zd|apply Zi|apply Zn|apply Wp.step);case h=>((try simp(disch:=omega)only[↓reduceIte,Za,↓X0,X1,Nat.reduceEqDiff,Int.reduceEq,Nat.reduceAdd,Nat.reduceSub,e3,e5,ld_r,hB,rowGet_row,hlti,hix,t0,hws]);with_reducible first|done|exact rfl|exact bT|exact bF))|apply Zf|apply Zj|with_reducible apply Zk|simp only[↓X3]|with_reducible apply Zb))
      exact Wp.pure (Nxt.go (d - 1) (by omega) ⟨j+1,by omega,by omega,(by intros;first|with_reducible rfl|simp(disch:=omega)only[Ze,Zh,s0]),by simp [Zl,e2],by simp [Zl,e3],by simp [Zl],by simp (disch:=omega) only [Ze,hB],Zh _ _ _⟩)
     ·have hlti:¬ (j:Int) < (K:Int):=by omega
      ((repeat(first|((with_reducible first|apply Wp.gs|apply Wp.cs|apply Zc|apply Zg|apply Zd|apply Zi|apply Zn|apply Wp.step);case h=>((try simp(disch:=omega)only[↓reduceIte,Za,↓X0,X1,Nat.reduceEqDiff,Int.reduceEq,Nat.reduceAdd,Nat.reduceSub,e3,e5,ld_r,hB,rowGet_row,hlti]);with_reducible first|done|exact rfl|exact bT|exact bF))|apply Zf|apply Zj|with_reducible apply Zk|simp only[↓X3]|with_reducible apply Zb));try(with_reducible apply Zm;case h=>((try simp(disch:=omega)only[X1,Nat.reduceEqDiff,e3,e5,ld_r,hB,rowGet_row,hlti]);with_reducible exact rfl)))
      have hjK:j=K:=by omega
      subst hjK
      exact Wp.pure (Nxt.exit ⟨by simp only; omega,s0,rfl,by simp [Zl,e2],by simp [Zl,e3],hB,by simpa using hH⟩)
    ·rintro ⟨pe,pt,pH,pn⟩ ⟨p1,p2,rfl,p3,p4,p5,p6⟩
     simp only at p1 p2 p3 p4 p5 p6
     (repeat(first|((with_reducible first|apply Wp.gs|apply Wp.cs|apply Zc|apply Zg|apply Zd|apply Zi|apply Zn|apply Wp.step);case h=>((try simp(disch:=omega)only[↓reduceIte,Za,↓X0,X1,Nat.reduceEqDiff,Int.reduceEq,Nat.reduceAdd,Nat.reduceSub,X2,Ze,Nat.reduceLeDiff,p3,p4,p5,p2,s7,s6,f7,f8]);with_reducible first|done|exact rfl|exact bT|exact bF))|apply Zf|apply Zj|with_reducible apply Zk|simp only[↓X3]|with_reducible apply Zb))
     refine Wp.pure ⟨by simp only; omega,(by intros;first|with_reducible rfl|simp(disch:=omega)only[Ze,Zh,p2,s7,s6,f2]),c7.mv (by simp only; omega) (by intros;first|with_reducible rfl|simp(disch:=omega)only[Ze,Zh,p2]),_,fam (fun _=>(⟨1,0,⟨#[]⟩,0,0⟩:Nd)) K,rfl,?_,?_,n6+3,by omega,by simp only; omega,.inr ⟨by rw [fam_len],by simp (disch:=omega) only [Ze,p6]⟩⟩
     ·intro x hx
      unfold fam at hx
      obtain ⟨_,_,rfl⟩:=List.mem_map.1 hx
      exact show (⟨#[]⟩:ByteArray).size≤100 by decide
     ·rw [fam_len]; exact hKl
 ·((repeat(first|((with_reducible first|apply Wp.gs|apply Wp.cs|apply Zc|apply Zg|apply Zd|apply Zi|apply Zn|apply Wp.step);case h=>((try simp(disch:=omega)only[↓reduceIte,Za,↓X0,X1,Nat.reduceEqDiff,Int.reduceEq,Nat.reduceAdd,Nat.reduceSub,X2,Ze,Nat.reduceLeDiff,Zq,hlu,hl0]);with_reducible first|done|exact rfl|exact bT|exact bF))|apply Zf|apply Zj|with_reducible apply Zk|simp only[↓X3]|with_reducible apply Zb));try(with_reducible apply Zm;case h=>((try simp(disch:=omega)only[X1,Nat.reduceEqDiff,Zq,hlu,hl0]);with_reducible exact rfl)))
  refine Yh (k35 (c1.mv (by omega) (by intros;first|with_reducible rfl|simp(disch:=omega)only[Ze,Zh])) 60) ?_
  rintro _ H6 n6 q6 s6 c6 ⟨b60,rfl⟩
  cases b60 with
  | false =>
   (repeat(first|((with_reducible first|apply Wp.gs|apply Wp.cs|apply Zc|apply Zg|apply Zd|apply Zi|apply Zn|apply Wp.step);case h=>((try simp(disch:=omega)only[↓reduceIte,Za,↓X0,X1,Nat.reduceEqDiff,Int.reduceEq,Nat.reduceAdd,Nat.reduceSub,X2,Ze,Nat.reduceLeDiff,Zq,s1,s6]);with_reducible first|done|exact rfl|exact bT|exact bF))|apply Zf|apply Zj|with_reducible apply Zk|simp only[↓X3]|with_reducible apply Zb))
   exact Wp.pure ⟨by simp only; omega,(by intros;first|with_reducible rfl|simp(disch:=omega)only[Ze,Zh,s6,s1]),c6.mv (by simp only; omega) (by intros;first|with_reducible rfl|simp(disch:=omega)only[Ze,Zh]),uu,ll,rfl,hsh',by omega,idd,by omega,by simp only; omega,haa.mv (by intros;first|with_reducible rfl|simp(disch:=omega)only[Ze,Zh,s6])⟩
  | true =>
   ((repeat(first|((with_reducible first|apply Wp.gs|apply Wp.cs|apply Zc|apply Zg|apply Zd|apply Zi|apply Zn|apply Wp.step);case h=>((try simp(disch:=omega)only[↓reduceIte,Za,↓X0,X1,Nat.reduceEqDiff,Int.reduceEq,Nat.reduceAdd,Nat.reduceSub,X2,Ze,Nat.reduceLeDiff,Zq,s1]);with_reducible first|done|exact rfl|exact bT|exact bF))|apply Zf|apply Zj|with_reducible apply Zk|simp only[↓X3]|with_reducible apply Zb));try(with_reducible apply Zm;case h=>((try simp(disch:=omega)only[X1,Nat.reduceEqDiff,Zq,s1]);with_reducible exact rfl)))
   refine Yh (k38 (c6.up (by omega)) 2) ?_
   rintro _ H7 n7 q7 s7 c7 ⟨y,rfl,_,hy⟩
   have hy:=hy (by decide)
   have hw:IntKind.i64.wrap (3000+y)=((3000+y.toNat:Nat):Int):=by rw [w64 (by omega)]; omega
   have hm:=mks_new eNode (default:Nd) (id:=n6+3) (bytes:=48) (k:=3000+y.toNat) H7 (by decide) (by omega)
   have hz:eNode.cells (default:Nd)=[.int .i64 0,.int .i64 0,.string ⟨#[]⟩,.int .i64 0,.int .i64 0]:=rfl
   rw [hz] at hm
   have hb7:H7 (n+3)=some (.row [uu] 0 true):=by simp (disch:=omega) only [s7,s6,s1,Ze,Zh]
   ((repeat(first|((with_reducible first|apply Wp.gs|apply Wp.cs|apply Zc|apply Zg|apply Zd|apply Zi|apply Zn|apply Wp.step);case h=>((try simp(disch:=omega)only[↓reduceIte,Za,↓X0,X1,Nat.reduceEqDiff,Int.reduceEq,Nat.reduceAdd,Nat.reduceSub,X2,Ze,Nat.reduceLeDiff,Zq,hw,hm,hb7]);with_reducible first|done|exact rfl|exact bT|exact bF))|apply Zf|apply Zj|with_reducible apply Zk|simp only[↓X3]|with_reducible apply Zb));try(with_reducible apply Zm;case h=>((try simp(disch:=omega)only[X1,Nat.reduceEqDiff,Zq,hw,hm,hb7]);with_reducible exact rfl)))
   generalize hK:3000+y.toNat=K at *
   have hKl:K≤3001:=by omega
   refine Wp.bind (Loop_rule (fun d T H' n'=>∃ j:Nat,j+d=K∧n7+1≤n'∧(∀ i,i < n6+3→i≠n+3→H' i=H7 i)∧T 2=ptr n 0∧T 3=ptr (n+3) 0∧T 5=.int .i64 j∧H' (n+3)=some (.row [sl (n6+3) 0 K] 0 true)∧H' (n6+3)=some (.row ((fam (fun _=>(⟨1,0,⟨#[]⟩,0,0⟩:Nd)) j++(List.replicate K (default:Nd)).drop j).flatMap eNode.cells) 5 true)) (fun o=>n7+1≤o.n∧(∀ i,i < n6+3→i≠n+3→o.H i=H7 i)∧o.e=.exit 0∧o.t 2=ptr n 0∧o.t 3=ptr (n+3) 0∧o.H (n+3)=some (.row [sl (n6+3) 0 K] 0 true)∧o.H (n6+3)=some (.row ((fam (fun _=>(⟨1,0,⟨#[]⟩,0,0⟩:Nd)) K).flatMap eNode.cells) 5 true)) ?_ K _ _ _ ⟨0,by omega,by omega,(by intros;first|with_reducible rfl|simp(disch:=omega)only[Ze,Zh]),by simp [Zl,Zq],by simp [Zl,Zq],by simp [Zl],Zh _ _ _,by simp (disch:=omega) only [Ze,Zh]; simp [fam]⟩) ?_
   ·rintro d T H' n' ⟨j,hj,hn,s0,e2,e3,e5,hB,hH⟩
    unfold S39L0
    by_cases hlt:j < K
    ·have hlti:(j:Int) < (K:Int):=by omega
     have hws:IntKind.i64.wrap ((j:Int)+1)=((j+1:Nat):Int):=wn (by omega)
     have hset:=fam_set (fun _=>(⟨1,0,⟨#[]⟩,0,0⟩:Nd)) (l:=List.replicate K (default:Nd)) (j:=j) (by simpa using hlt)
     have hjl:j < (fam (fun _=>(⟨1,0,⟨#[]⟩,0,0⟩:Nd)) j++(List.replicate K (default:Nd)).drop j).length:=by rw [fam_drop_len _ (by simp; omega)]; simpa using hlt
     have hat:=fam_drop_at (fun _=>(⟨1,0,⟨#[]⟩,0,0⟩:Nd)) (l:=List.replicate K (default:Nd)) (j:=j) (by simpa using hlt) hjl
     have t0:st false 1 (ptr (n6+3) (j * 5)) (.int .i64 1) H'=some (H'.set (n6+3) (some (.row (((fam (fun _=>(⟨1,0,⟨#[]⟩,0,0⟩:Nd)) j++(List.replicate K (default:Nd)).drop j).set j ⟨1,0,⟨#[]⟩,0,0⟩).flatMap eNode.cells) 5 true))):=st_fcD (E:=eNode) hH hjl (f:=0) (by decide) (y:=⟨1,0,⟨#[]⟩,0,0⟩) (c:=.int .i64 1) rfl (by rw [hat]; simp; rfl)
     rw [hset] at t0
     have hix:=idx_sl (sz:=5) (id:=n6+3) (k:=.i64) hlt
     (repeat(first|((with_reducible first|apply Wp.gs|apply Wp.cs|apply Zc|apply Zg|apply Zd|apply Zi|apply Zn|apply Wp.step);case h=>((try simp(disch:=omega)only[↓reduceIte,Za,↓X0,X1,Nat.reduceEqDiff,Int.reduceEq,Nat.reduceAdd,Nat.reduceSub,e3,e5,ld_r,hB,rowGet_row,hlti,hix,t0,hws]);with_reducible first|done|exact rfl|exact bT|exact bF))|apply Zf|apply Zj|with_reducible apply Zk|simp only[↓X3]|with_reducible apply Zb))
     exact Wp.pure (Nxt.go (d - 1) (by omega) ⟨j+1,by omega,by omega,(by intros;first|with_reducible rfl|simp(disch:=omega)only[Ze,Zh,s0]),by simp [Zl,e2],by simp [Zl,e3],by simp [Zl],by simp (disch:=omega) only [Ze,hB],Zh _ _ _⟩)
    ·have hlti:¬ (j:Int) < (K:Int):=by omega
     ((repeat(first|((with_reducible first|apply Wp.gs|apply Wp.cs|apply Zc|apply Zg|apply Zd|apply Zi|apply Zn|apply Wp.step);case h=>((try simp(disch:=omega)only[↓reduceIte,Za,↓X0,X1,Nat.reduceEqDiff,Int.reduceEq,Nat.reduceAdd,Nat.reduceSub,e3,e5,ld_r,hB,rowGet_row,hlti]);with_reducible first|done|exact rfl|exact bT|exact bF))|apply Zf|apply Zj|with_reducible apply Zk|simp only[↓X3]|with_reducible apply Zb));try(with_reducible apply Zm;case h=>((try simp(disch:=omega)only[X1,Nat.reduceEqDiff,e3,e5,ld_r,hB,rowGet_row,hlti]);with_reducible exact rfl)))
     have hjK:j=K:=by omega
     subst hjK
     exact Wp.pure (Nxt.exit ⟨by simp only; omega,s0,rfl,by simp [Zl,e2],by simp [Zl,e3],hB,by simpa using hH⟩)
   ·rintro ⟨pe,pt,pH,pn⟩ ⟨p1,p2,rfl,p3,p4,p5,p6⟩
    simp only at p1 p2 p3 p4 p5 p6
    (repeat(first|((with_reducible first|apply Wp.gs|apply Wp.cs|apply Zc|apply Zg|apply Zd|apply Zi|apply Zn|apply Wp.step);case h=>((try simp(disch:=omega)only[↓reduceIte,Za,↓X0,X1,Nat.reduceEqDiff,Int.reduceEq,Nat.reduceAdd,Nat.reduceSub,X2,Ze,Nat.reduceLeDiff,p3,p4,p5,p2,s7,s6,s1]);with_reducible first|done|exact rfl|exact bT|exact bF))|apply Zf|apply Zj|with_reducible apply Zk|simp only[↓X3]|with_reducible apply Zb))
    refine Wp.pure ⟨by simp only; omega,(by intros;first|with_reducible rfl|simp(disch:=omega)only[Ze,Zh,p2,s7,s6,s1]),c7.mv (by simp only; omega) (by intros;first|with_reducible rfl|simp(disch:=omega)only[Ze,Zh,p2]),_,fam (fun _=>(⟨1,0,⟨#[]⟩,0,0⟩:Nd)) K,rfl,?_,?_,n6+3,by omega,by simp only; omega,.inr ⟨by rw [fam_len],by simp (disch:=omega) only [Ze,p6]⟩⟩
    ·intro x hx
     unfold fam at hx
     obtain ⟨_,_,rfl⟩:=List.mem_map.1 hx
     exact show (⟨#[]⟩:ByteArray).size≤100 by decide
    ·rw [fam_len]; exact hKl
end Go.Proofs.Ytbgkimkbngocjaa.Ax
set_option linter.unusedVariables false
set_option linter.unusedSimpArgs false
namespace Go.Proofs.Ytbgkimkbngocjaa.Ax
open Go
end Go.Proofs.Ytbgkimkbngocjaa.Ax
set_option linter.unusedVariables false
set_option linter.unusedSimpArgs false
namespace Go.Proofs.Ytbgkimkbngocjaa.Ax
open Go
end Go.Proofs.Ytbgkimkbngocjaa.Ax
set_option linter.unusedVariables false
set_option linter.unusedSimpArgs false
set_option maxHeartbeats 4000000
namespace Go.Proofs.Ytbgkimkbngocjaa.Ax
open Go
def New3 (lo n:Nat) (H:Hp) (u ul ud:Value) (l:List Nd) (li:List Ins) (ld:List Df):Prop:=∃ i il id,i≠il∧i≠id∧il≠id∧lo≤i∧i < n∧lo≤il∧il < n∧lo≤id∧id < n∧At eNode i H u l∧At eIns il H ul li∧At eDef id H ud ld
end Go.Proofs.Ytbgkimkbngocjaa.Ax
set_option linter.unusedVariables false
set_option linter.unusedSimpArgs false
namespace Go.Proofs.Ytbgkimkbngocjaa.Ax
open Go
theorem Li.mv2 {α:Type} {E:Enc α} {n m c d:Nat} {H H':Hp} {v:Value} {l:List α} (h:Li E n H v l) (hc:Off c v) (hd:Off d v) (hm:n≤m) (hs:∀ i,i < n→i≠c→i≠d→H' i=H i):Li E m H' v l:=(h.keep' fun i o a k e=>hs i (h.2 i o a k e) (hc i o a k e) (hd i o a k e)).up hm
abbrev ndPair (a b:Int):Nd:=⟨5,0,⟨#[]⟩,a,b⟩
abbrev ndNil:Nd:=⟨1,0,⟨#[]⟩,0,0⟩
def lPairs (b:Int):List Int→List Nd
 | []=>[]
 | a :: r=>ndPair a b :: lPairs (b+1) r
def lNodes (b:Int) (xs:List Int):List Nd:=ndNil :: lPairs b xs.reverse
theorem lPairs_len:∀ (b:Int) (r:List Int),(lPairs b r).length=r.length
 | b,[]=>rfl
 | b,a :: r=>by simp [lPairs,lPairs_len (b+1) r]
theorem lPairs_snoc:∀ (b:Int) (r:List Int) (a:Int),lPairs b (r++[a])=lPairs b r++[ndPair a (b+r.length)]
 | b,[],a=>by simp [lPairs]
 | b,x :: r,a=>by
  rw [List.cons_append,lPairs,lPairs_snoc (b+1) r a,lPairs,List.cons_append,List.length_cons]
  congr 4; omega
theorem lNodes_len (b:Int) (xs:List Int):(lNodes b xs).length=xs.length+1:=by simp [lNodes,lPairs_len]
theorem lRev_next {xs:List Int} {k:Nat} (h:k < xs.length):xs.reverse.take (k+1)=xs.reverse.take k++[gi xs ((xs.length:Int) - 1 - k)]:=by
 rw [take_next (by simpa using h)]
 congr 2
 rw [List.getElem_reverse,gi_at (by omega) (by omega)]
 congr 1; omega
theorem l80 {c o id0 n0:Nat} {H0:Hp} {cs:List Value} {e:Nat} {v0:Value} {l:List Nd} {w:Value} {xs:List Int} (hw:Li eInt n0 H0 w xs) (hoc:Off c w) (hod:Off id0 w) (hcn:c < n0) (hl:l.length+xs.length≤1000000):∀ t H n v id,n0≤n→(∀ i,i < n0→i≠c→i≠id0→H i=H0 i)→n0≤id→PC c o id n H (cs.set o v) e v (l++[ndNil])→t 0=ptr c o→t 1=w→t 5=.int .i64 l.length→t 6=.int .i64 ((xs.length:Int) - 1) →
  Wp (Yf (S80L0 (Call Try.prog) Yf) t H n) (fun out=>n≤out.n∧(∀ i,i < n0→i≠c→i≠id0→out.H i=H0 i)∧out.e=.exit 0∧out.t 5=.int .i64 ((l.length:Int)+xs.length)∧∃ v' id',n0≤id'∧PC c o id' out.n out.H (cs.set o v') e v' (l++lNodes l.length xs)):=by
 intro t H n v id hn0 s0 hid hpc e0 e1 e5 e6
 refine Loop_rule (fun d T H' n'=>∃ (k:Nat) (v:Value) (id:Nat),k+d=xs.length∧n≤n'∧(∀ i,i < n0→i≠c→i≠id0→H' i=H0 i)∧n0≤id∧PC c o id n' H' (cs.set o v) e v (l++(ndNil :: lPairs l.length (xs.reverse.take k)))∧T 0=ptr c o∧T 1=w∧T 5=.int .i64 ((l.length:Int)+k)∧T 6=.int .i64 ((xs.length:Int) - 1 - k)) _ ?_ xs.length t H n ⟨0,v,id,by omega,by omega,s0,hid,by simpa [lPairs] using hpc,e0,e1,by simpa using e5,by simpa using e6⟩
 rintro d T H' n' ⟨k,v,id,hk,hn,s1,hid,hpc,e0,e1,e5,e6⟩
 unfold S80L0
 by_cases hlt:k < xs.length
 ·have g:=(hw.mv2 hoc hod (Nat.le_refl _) s1).iAll (i:=(xs.length:Int) - 1 - k) (by omega) (by omega)
  have w1:IntKind.i64.wrap ((xs.length:Int) - 1 - k - 1)=(xs.length:Int) - 1 - ((k+1:Nat):Int):=by rw [w64 (by omega)]; omega
  have hlen:(l++(ndNil :: lPairs l.length (xs.reverse.take k))).length=l.length+(k+1):=by
   rw [List.length_append,List.length_cons,lPairs_len,List.length_take,List.length_reverse]; omega
  ((repeat(first|((with_reducible first|apply Wp.gs|apply Wp.cs|apply Zc|apply Zg|apply Zd|apply Zi|apply Wp.step);case h=>((try simp(disch:=omega)only[↓reduceIte,Za,↓X0,X1,Nat.reduceEqDiff,Int.reduceEq,Nat.reduceAdd,Nat.reduceSub,X2,Ze,Nat.reduceLeDiff,e0,e1,e5,e6,g,(show (0:Int)≤(xs.length:Int) - 1 - k by omega)]);with_reducible first|done|exact rfl|exact bT|exact bF))|apply Zf|apply Zj|with_reducible apply Zk|simp only[↓X3]|with_reducible apply Zb));try(with_reducible apply Zm;case h=>((try simp(disch:=omega)only[X1,Nat.reduceEqDiff,e0,e1,e5,e6,g,(show (0:Int)≤(xs.length:Int) - 1 - k by omega)]);with_reducible exact rfl)))
  refine Wp.rta (k41 (hpc.mv (by omega) rfl rfl) (by rw [hlen]; omega) (ndPair _ _)) ?_
  rintro _ H1 n1 q1 s2 ⟨rfl,v',id',i1,i2⟩
  simp only [hlen]
  (repeat(first|((with_reducible first|apply Wp.gs|apply Wp.cs|apply Zc|apply Zg|apply Zd|apply Zi|apply Wp.step);case h=>((try simp(disch:=omega)only[↓reduceIte,Za,↓X0,X1,Nat.reduceEqDiff,Int.reduceEq,Nat.reduceAdd,Nat.reduceSub,e6,w1]);with_reducible first|done|exact rfl|exact bT|exact bF))|apply Zf|apply Zj|with_reducible apply Zk|simp only[↓X3]|with_reducible apply Zb))
  refine Wp.pure (Nxt.go (d - 1) (by omega) ⟨k+1,v',id',by omega,by omega,(by intros;first|with_reducible rfl|simp(disch:=omega)only[Ze,Zh,s2,s1]),by omega,?_,by simp [Zl,e0],by simp [Zl,e1],by simp [Zl],by simp [Zl]⟩)
  have:=i2.mv (Nat.le_add_right n1 3) rfl rfl
  rw [List.set_set] at this
  rw [lRev_next hlt,lPairs_snoc,List.length_take,List.length_reverse,Nat.min_eq_left (by omega),← List.cons_append,← List.append_assoc]
  exact this
 ·have hkl:k=xs.length:=by omega
  subst hkl
  ((repeat(first|((with_reducible first|apply Wp.gs|apply Wp.cs|apply Zc|apply Zg|apply Zd|apply Zi|apply Wp.step);case h=>((try simp(disch:=omega)only[↓reduceIte,Za,↓X0,X1,Nat.reduceEqDiff,Int.reduceEq,Nat.reduceAdd,Nat.reduceSub,e6,(show ¬ (0:Int)≤(xs.length:Int) - 1 - xs.length by omega)]);with_reducible first|done|exact rfl|exact bT|exact bF))|apply Zf|apply Zj|with_reducible apply Zk|simp only[↓X3]|with_reducible apply Zb));try(with_reducible apply Zm;case h=>((try simp(disch:=omega)only[X1,Nat.reduceEqDiff,e6,(show ¬ (0:Int)≤(xs.length:Int) - 1 - xs.length by omega)]);with_reducible exact rfl)))
  rw [List.take_of_length_le (by simp)] at hpc
  exact Wp.pure (Nxt.exit ⟨by simp only; omega,s1,rfl,by simp [Zl,e5],v,id,hid,hpc.mv (by simp only; omega) rfl rfl⟩)
theorem k80 {c o id n:Nat} {H:Hp} {cs:List Value} {e:Nat} {v:Value} {l:List Nd} (h:PC c o id n H cs e v l) {w:Value} {xs:List Int} (hw:Li eInt n H w xs) (hoc:Off c w) (hod:Off id w) (hl:l.length+xs.length≤1000000) :
  RtA Try.prog 80 [ptr c o,w] c id H n (fun r H' n'=>r=.int .i64 ((l.length:Int)+xs.length)∧∃ v' id',n≤id'∧PC c o id' n' H' (cs.set o v') e v' (l++lNodes l.length xs)):=by
 apply RtA.of
 rw [c80]; unfold S80
 ((repeat(first|((with_reducible first|apply Wp.gs|apply Wp.cs|apply Zc|apply Zg|apply Zd|apply Zi|apply Wp.step);case h=>((try simp(disch:=omega)only[↓reduceIte,Za,↓X0,X1,Nat.reduceEqDiff,Int.reduceEq,Nat.reduceAdd,Nat.reduceSub,X2,Ze,Nat.reduceLeDiff]);with_reducible first|done|exact rfl|exact bT|exact bF))|apply Zf|apply Zj|with_reducible apply Zk|simp only[↓X3]|with_reducible apply Zb));try(with_reducible apply Zm;case h=>((try simp(disch:=omega)only[X1,Nat.reduceEqDiff]);with_reducible exact rfl)))
 refine Wp.rta (k41 (h.mv (by omega) rfl rfl) (by omega) ndNil) ?_
 rintro _ H1 n1 q1 s1 ⟨rfl,v1,id1,i1,i2⟩
 have hws:IntKind.i64.wrap ((xs.length:Int) - 1)=(xs.length:Int) - 1:=w64 (by omega)
 (repeat(first|((with_reducible first|apply Wp.gs|apply Wp.cs|apply Zc|apply Zg|apply Zd|apply Zi|apply Wp.step);case h=>((try simp(disch:=omega)only[↓reduceIte,Za,↓X0,X1,Nat.reduceEqDiff,Int.reduceEq,Nat.reduceAdd,Nat.reduceSub,Zq,hw.len,hws]);with_reducible first|done|exact rfl|exact bT|exact bF))|apply Zf|apply Zj|with_reducible apply Zk|simp only[↓X3]|with_reducible apply Zb))
 refine Wp.bind (l80 (c:=c) (o:=o) (id0:=id) (n0:=n) (H0:=H) (cs:=cs) (e:=e) (v0:=v) (l:=l) hw hoc hod h.cn hl _ _ _ v1 id1 (by omega) (by intros;first|with_reducible rfl|simp(disch:=omega)only[Ze,Zh,s1]) (by omega) (i2.mv (by omega) rfl rfl) (by simp [Zl,Zq]) (by simp [Zl,Zq]) (by simp [Zl]) (by simp [Zl])) ?_
 rintro ⟨oe,ot,oH,on⟩ ⟨f1,f2,rfl,f4,v',id',f5,f6⟩
 simp only at f1 f2 f4 f5 f6
 (repeat(first|((with_reducible first|apply Wp.gs|apply Wp.cs|apply Zc|apply Zg|apply Zd|apply Zi|apply Wp.step);case h=>((try simp(disch:=omega)only[↓reduceIte,Za,↓X0,X1,Nat.reduceEqDiff,Int.reduceEq,Nat.reduceAdd,Nat.reduceSub,f4]);with_reducible first|done|exact rfl|exact bT|exact bF))|apply Zf|apply Zj|with_reducible apply Zk|simp only[↓X3]|with_reducible apply Zb))
 exact Wp.pure ⟨by simp only; omega,f2,f4,v',id',f5,f6.mv (by simp only; omega) rfl rfl⟩
theorem calleeP_fn (k:Nat) (cap args:List Value):calleeP (.func (.func k) #[] ⟨cap⟩) args=some (k,args++cap):=rfl
theorem lPairs_s:∀ (r:List Int) (b:Int),∀ x∈lPairs b r,x.s=⟨#[]⟩
 | [],_,x,h=>by cases h
 | a :: r,b,x,h=>by
  rcases List.mem_cons.1 h with rfl | h
  ·rfl
  ·exact lPairs_s r (b+1) x h
theorem lNodes_s {b:Int} {xs:List Int} {x:Nd} (h:x∈lNodes b xs):x.s=⟨#[]⟩:=by
 rcases List.mem_cons.1 h with rfl | h
 ·rfl
 ·exact lPairs_s _ _ x h
end Go.Proofs.Ytbgkimkbngocjaa.Ax
set_option linter.unusedVariables false
set_option linter.unusedSimpArgs false
set_option maxHeartbeats 4000000
namespace Go.Proofs.Ytbgkimkbngocjaa.Ax
open Go
theorem fi_some {α:Type} {p:α→Bool} {l:List α} {k:Nat} (hk:k < l.length) (h:p l[k]=true) (hn:∀ q (hq:q < l.length),q < k→p l[q]=false):l.findIdx? p=some k :=
 List.findIdx?_eq_some_iff_getElem.2 ⟨hk,h,fun q hq=>by simp [hn q (by omega) hq]⟩
theorem fi_none {α:Type} {p:α→Bool} {l:List α} (hn:∀ q (hq:q < l.length),p l[q]=false):l.findIdx? p=none:=by
 refine List.findIdx?_eq_none_iff.2 fun x hx=>?_
 obtain ⟨q,hq,rfl⟩:=List.mem_iff_getElem.1 hx
 exact hn q hq
def fiInt:Option Nat→Int
 | some k=>(k:Int)
 | none => -1
def defOf (ld:List Df) (s:ByteArray):Int:=fiInt (ld.findIdx? (fun d=>decide (d.s=s)))
theorem defOf_rng (ld:List Df) (s:ByteArray) : -1≤defOf ld s∧defOf ld s < (ld.length:Int):=by
 unfold defOf
 cases h:ld.findIdx? (fun d=>decide (d.s=s)) with
 | none=>simp only [fiInt]; omega
 | some k=>have:=(List.findIdx?_eq_some_iff_getElem.1 h).1; simp only [fiInt]; omega
theorem k53 {c n:Nat} {H:Hp} (d:Df) (s:ByteArray) (hc:H c=some (.row [.string s] 0 true)) (hcn:c < n):Rt Try.prog 53 [.agg ⟨d.cells⟩,ptr c 0] H n (.bool (decide (d.s=s))):=by
 apply Rt.mk
 rw [c53]; unfold S53
 (repeat(first|((with_reducible first|apply Wp.gs|apply Wp.cs|apply Zc|apply Zg|apply Zd|apply Zi|apply Wp.step);case h=>((try simp(disch:=omega)only[↓reduceIte,Za,↓X0,X1,Nat.reduceEqDiff,Int.reduceEq,Nat.reduceAdd,Nat.reduceSub,X2,Ze,Nat.reduceLeDiff,Df.cells,hc]);with_reducible first|done|exact rfl|exact bT|exact bF))|apply Zf|apply Zj|with_reducible apply Zk|simp only[↓X3]|with_reducible apply Zb))
 exact Wp.pure ⟨by simp only; omega,(by intros;first|with_reducible rfl|simp(disch:=omega)only[Ze,Zh]),rfl⟩
theorem k52 {n:Nat} {H:Hp} {v:Value} {l:List Df} (hv:Li eDef n H v l) (hl:l.length≤1048576) (k:Nat) (cap:List Value) (p:Df→Bool) (hp:∀ x∈l,∀ H' n',n≤n'→(∀ i,i < n→H' i=H i)→Rt Try.prog k (.agg ⟨x.cells⟩ :: cap) H' n' (.bool (p x))):Rt Try.prog 52 [v,.func (.func k) #[] ⟨cap⟩] H n (.int .i64 (fiInt (l.findIdx? p))):=by
 apply Rt.mk
 rw [c52]; unfold S52
 (repeat(first|((with_reducible first|apply Wp.gs|apply Wp.cs|apply Zc|apply Zg|apply Zd|apply Zi|apply Wp.step);case h=>((try simp(disch:=omega)only[↓reduceIte,Za,↓X0,X1,Nat.reduceEqDiff,Int.reduceEq,Nat.reduceAdd,Nat.reduceSub,hv.len]);with_reducible first|done|exact rfl|exact bT|exact bF))|apply Zf|apply Zj|with_reducible apply Zk|simp only[↓X3]|with_reducible apply Zb))
 refine Wp.bind (Loop_rule (fun d t H' n'=>∃ j:Nat,j+d=l.length∧n≤n'∧(∀ i,i < n→H' i=H i)∧t 0=v∧t 1=.func (.func k) #[] ⟨cap⟩∧t 7=.int .i64 l.length∧t 8=.int .i64 j∧∀ q (hq:q < l.length),q < j→p l[q]=false) (fun o=>n≤o.n∧(∀ i,i < n→o.H i=H i)∧((o.e=.exit 0∧l.findIdx? p=none)∨(o.e=.ret∧∃ j:Nat,o.t 4=.int .i64 j∧l.findIdx? p=some j))) ?_ l.length _ H _ ⟨0,by omega,by omega,fun _ _=>rfl,by simp [Zl,Zq],by simp [Zl,Zq],by simp [Zl],by simp [Zl],by omega⟩) ?_
 ·rintro d t H' n' ⟨j,hj,hn,s0,e0,e1,e7,e8,hno⟩
  unfold S52L0
  by_cases hlt:j < l.length
  ·have hlti:(j:Int) < l.length:=by omega
   have hw:=wj (j:=j) (len:=l.length) hlt (by omega)
   have g:=(hv.mv (Nat.le_refl _) s0).dAll (i:=(j:Int)) (by omega) hlti
   rw [gi_nat hlt] at g
   ((repeat(first|((with_reducible first|apply Wp.gs|apply Wp.cs|apply Zc|apply Zg|apply Zd|apply Zi|apply Wp.step);case h=>((try simp(disch:=omega)only[↓reduceIte,Za,↓X0,X1,Nat.reduceEqDiff,Int.reduceEq,Nat.reduceAdd,Nat.reduceSub,e0,e1,e7,e8,hlti,g,calleeP_fn]);with_reducible first|done|exact rfl|exact bT|exact bF))|apply Zf|apply Zj|with_reducible apply Zk|simp only[↓X3]|with_reducible apply Zb));try(with_reducible apply Zm;case h=>((try simp(disch:=omega)only[X1,Nat.reduceEqDiff,e0,e1,e7,e8,hlti,g,calleeP_fn]);with_reducible exact rfl)))
   refine Wp.rt (hp l[j] (List.getElem_mem hlt) H' (n'+9) (by omega) s0) ?_
   intro H1 n1 q1 s1
   by_cases hpj:p l[j]=true
   ·(repeat(first|((with_reducible first|apply Wp.gs|apply Wp.cs|apply Zc|apply Zg|apply Zd|apply Zi|apply Wp.step);case h=>((try simp(disch:=omega)only[↓reduceIte,Za,↓X0,X1,Nat.reduceEqDiff,Int.reduceEq,Nat.reduceAdd,Nat.reduceSub,hpj]);with_reducible first|done|exact rfl|exact bT|exact bF))|apply Zf|apply Zj|with_reducible apply Zk|simp only[↓X3]|with_reducible apply Zb))
    exact Wp.pure (Nxt.ret ⟨by simp only; omega,(by intros;first|with_reducible rfl|simp(disch:=omega)only[Ze,Zh,s1,s0]),.inr ⟨rfl,j,by simp [Zl,e8],fi_some hlt hpj hno⟩⟩)
   ·have hpj':p l[j]=false:=by simpa using hpj
    (repeat(first|((with_reducible first|apply Wp.gs|apply Wp.cs|apply Zc|apply Zg|apply Zd|apply Zi|apply Wp.step);case h=>((try simp(disch:=omega)only[↓reduceIte,Za,↓X0,X1,Nat.reduceEqDiff,Int.reduceEq,Nat.reduceAdd,Nat.reduceSub,hpj',e8,hw]);with_reducible first|done|exact rfl|exact bT|exact bF))|apply Zf|apply Zj|with_reducible apply Zk|simp only[↓X3]|with_reducible apply Zb))
    refine Wp.pure (Nxt.go (d - 1) (by omega) ⟨j+1,by omega,by omega,(by intros;first|with_reducible rfl|simp(disch:=omega)only[Ze,Zh,s1,s0]),by simp [Zl,e0],by simp [Zl,e1],by simp [Zl,e7],by simp [Zl],fun q hq hqj=>?_⟩)
    by_cases hqe:q=j
    ·subst hqe; exact hpj'
    ·exact hno q hq (by omega)
  ·have hlti:¬ (j:Int) < l.length:=by omega
   (repeat(first|((with_reducible first|apply Wp.gs|apply Wp.cs|apply Zc|apply Zg|apply Zd|apply Zi|apply Wp.step);case h=>((try simp(disch:=omega)only[↓reduceIte,Za,↓X0,X1,Nat.reduceEqDiff,Int.reduceEq,Nat.reduceAdd,Nat.reduceSub,e7,e8,hlti]);with_reducible first|done|exact rfl|exact bT|exact bF))|apply Zf|apply Zj|with_reducible apply Zk|simp only[↓X3]|with_reducible apply Zb))
   exact Wp.pure (Nxt.exit ⟨by simp only; omega,s0,.inl ⟨rfl,fi_none fun q hq=>hno q hq (by omega)⟩⟩)
 ·rintro ⟨oe,ot,oH,on⟩ ⟨f1,f2,f3⟩
  simp only at f1 f2 f3
  rcases f3 with ⟨rfl,f4⟩ | ⟨rfl,j,f4,f5⟩
  ·simp(disch:=omega)only[↓reduceIte,Za,↓X0,X1,Nat.reduceEqDiff,Int.reduceEq,Nat.reduceAdd,Nat.reduceSub]
   exact Wp.pure ⟨by simp only; omega,f2,by simp only [f4,fiInt]⟩
  ·simp(disch:=omega)only[↓reduceIte,Za,↓X0,X1,Nat.reduceEqDiff,Int.reduceEq,Nat.reduceAdd,Nat.reduceSub,f4]
   exact Wp.pure ⟨by simp only; omega,f2,by simp only [f5,fiInt]⟩
theorem k11 {n:Nat} {H:Hp} {v vl vd:Value} {ld:List Df} (hvd:Li eDef n H vd ld) (hl:ld.length≤1048576) (s:ByteArray):Rt Try.prog 11 [.agg ⟨[v,vl,vd]⟩,.string s] H n (.int .i64 (defOf ld s)):=by
 apply Rt.mk
 rw [c11]; unfold S11
 ((repeat(first|((with_reducible first|apply Wp.gs|apply Wp.cs|apply Zc|apply Zg|apply Zd|apply Zi|apply Wp.step);case h=>((try simp(disch:=omega)only[↓reduceIte,Za,↓X0,X1,Nat.reduceEqDiff,Int.reduceEq,Nat.reduceAdd,Nat.reduceSub,X2,Ze,Nat.reduceLeDiff,ptrV]);with_reducible first|done|exact rfl|exact bT|exact bF))|apply Zf|apply Zj|with_reducible apply Zk|simp only[↓X3]|with_reducible apply Zb));try(with_reducible apply Zm;case h=>((try simp(disch:=omega)only[X1,Nat.reduceEqDiff,ptrV]);with_reducible exact rfl)))
 refine Wp.rt (k52 (hvd.mv (by omega) (by intros;first|with_reducible rfl|simp(disch:=omega)only[Ze,Zh])) hl _ _ (fun d=>decide (d.s=s)) ?_) ?_
 ·intro x hx H' n' hn' hs'
  exact k53 x s (by simp (disch:=omega) only [hs',Zh]) (by omega)
 intro H1 n1 q1 s1
 (repeat(first|((with_reducible first|apply Wp.gs|apply Wp.cs|apply Zc|apply Zg|apply Zd|apply Zi|apply Wp.step);case h=>((try simp(disch:=omega)only[↓reduceIte,Za,↓X0,X1,Nat.reduceEqDiff,Int.reduceEq,Nat.reduceAdd,Nat.reduceSub]);with_reducible first|done|exact rfl|exact bT|exact bF))|apply Zf|apply Zj|with_reducible apply Zk|simp only[↓X3]|with_reducible apply Zb))
 exact Wp.pure ⟨by simp only; omega,(by intros;first|with_reducible rfl|simp(disch:=omega)only[Ze,Zh,s1]),rfl⟩
theorem k15 {n:Nat} {H:Hp} {v vl vd:Value} {ld:List Df} (hvd:Li eDef n H vd ld) (hl:ld.length≤1048576) (s:ByteArray):Rt Try.prog 15 [.agg ⟨[v,vl,vd]⟩,.string s] H n (.int .i64 (defOf ld s)):=by
 apply Rt.mk
 rw [c15]; unfold S15 defOf
 ((repeat(first|((with_reducible first|apply Wp.gs|apply Wp.cs|apply Zc|apply Zg|apply Zd|apply Zi|apply Wp.step);case h=>((try simp(disch:=omega)only[↓reduceIte,Za,↓X0,X1,Nat.reduceEqDiff,Int.reduceEq,Nat.reduceAdd,Nat.reduceSub,X2,Ze,Nat.reduceLeDiff]);with_reducible first|done|exact rfl|exact bT|exact bF))|apply Zf|apply Zj|with_reducible apply Zk|simp only[↓X3]|with_reducible apply Zb));try(with_reducible apply Zm;case h=>((try simp(disch:=omega)only[X1,Nat.reduceEqDiff]);with_reducible exact rfl)))
 generalize hp:(fun d:Df=>decide (d.s=s))=p
 have hpp:∀ d,p d=decide (d.s=s):=fun d=>by rw [← hp]
 refine Wp.bind (Loop_rule (fun d t H' n'=>∃ j:Nat,j+d=ld.length∧n+1≤n'∧H'=H.set n (some (.row [v,vl,vd] 0 true))∧t 1=.string s∧t 2=ptr n 0∧t 5=.int .i64 j∧∀ q (hq:q < ld.length),q < j→p ld[q]=false) (fun o=>n+1≤o.n∧o.H=H.set n (some (.row [v,vl,vd] 0 true))∧((o.e=.exit 0∧ld.findIdx? p=none)∨(o.e=.ret∧∃ j:Nat,o.t 4=.int .i64 j∧ld.findIdx? p=some j))) ?_ ld.length _ _ _ ⟨0,by omega,by omega,rfl,by simp [Zl,Zq],by simp [Zl],by simp [Zl],by omega⟩) ?_
 ·rintro d t H' n' ⟨j,hj,hn,rfl,e1,e2,e5,hno⟩
  unfold S15L0
  have hlen:=(hvd.mv (H':=H.set n (some (.row [v,vl,vd] 0 true))) (Nat.le_refl _) (by intros;first|with_reducible rfl|simp(disch:=omega)only[Ze,Zh])).len
  by_cases hlt:j < ld.length
  ·have hlti:(j:Int) < ld.length:=by omega
   have hw:=wj (j:=j) (len:=ld.length) hlt (by omega)
   have g:=(hvd.mv (H':=H.set n (some (.row [v,vl,vd] 0 true))) (Nat.le_refl _) (by intros;first|with_reducible rfl|simp(disch:=omega)only[Ze,Zh])).dAll (i:=(j:Int)) (by omega) hlti
   rw [gi_nat hlt] at g
   by_cases hpj:ld[j].s=s
   ·(repeat(first|((with_reducible first|apply Wp.gs|apply Wp.cs|apply Zc|apply Zg|apply Zd|apply Zi|apply Wp.step);case h=>((try simp(disch:=omega)only[↓reduceIte,Za,↓X0,X1,Nat.reduceEqDiff,Int.reduceEq,Nat.reduceAdd,Nat.reduceSub,X2,Ze,Nat.reduceLeDiff,e1,e2,e5,hlen,hlti,g,hpj]);with_reducible first|done|exact rfl|exact bT|exact bF))|apply Zf|apply Zj|with_reducible apply Zk|simp only[↓X3]|with_reducible apply Zb))
    exact Wp.pure (Nxt.ret ⟨by simp only; omega,rfl,.inr ⟨rfl,j,by simp [Zl,e5],fi_some hlt (by rw [hpp]; simpa using hpj) hno⟩⟩)
   ·(repeat(first|((with_reducible first|apply Wp.gs|apply Wp.cs|apply Zc|apply Zg|apply Zd|apply Zi|apply Wp.step);case h=>((try simp(disch:=omega)only[↓reduceIte,Za,↓X0,X1,Nat.reduceEqDiff,Int.reduceEq,Nat.reduceAdd,Nat.reduceSub,X2,Ze,Nat.reduceLeDiff,e1,e2,e5,hlen,hlti,g,hpj,hw]);with_reducible first|done|exact rfl|exact bT|exact bF))|apply Zf|apply Zj|with_reducible apply Zk|simp only[↓X3]|with_reducible apply Zb))
    refine Wp.pure (Nxt.go (d - 1) (by omega) ⟨j+1,by omega,by omega,rfl,by simp [Zl,e1],by simp [Zl,e2],by simp [Zl],fun q hq hqj=>?_⟩)
    by_cases hqe:q=j
    ·subst hqe; rw [hpp]; simpa using hpj
    ·exact hno q hq (by omega)
  ·have hlti:¬ (j:Int) < ld.length:=by omega
   (repeat(first|((with_reducible first|apply Wp.gs|apply Wp.cs|apply Zc|apply Zg|apply Zd|apply Zi|apply Wp.step);case h=>((try simp(disch:=omega)only[↓reduceIte,Za,↓X0,X1,Nat.reduceEqDiff,Int.reduceEq,Nat.reduceAdd,Nat.reduceSub,X2,Ze,Nat.reduceLeDiff,e2,e5,hlen,hlti]);with_reducible first|done|exact rfl|exact bT|exact bF))|apply Zf|apply Zj|with_reducible apply Zk|simp only[↓X3]|with_reducible apply Zb))
   exact Wp.pure (Nxt.exit ⟨by simp only; omega,rfl,.inl ⟨rfl,fi_none fun q hq=>hno q hq (by omega)⟩⟩)
 ·rintro ⟨oe,ot,oH,on⟩ ⟨f1,rfl,f3⟩
  simp only at f1 f3
  rcases f3 with ⟨rfl,f4⟩ | ⟨rfl,j,f4,f5⟩
  ·(repeat(first|((with_reducible first|apply Wp.gs|apply Wp.cs|apply Zc|apply Zg|apply Zd|apply Zi|apply Wp.step);case h=>((try simp(disch:=omega)only[↓reduceIte,Za,↓X0,X1,Nat.reduceEqDiff,Int.reduceEq,Nat.reduceAdd,Nat.reduceSub]);with_reducible first|done|exact rfl|exact bT|exact bF))|apply Zf|apply Zj|with_reducible apply Zk|simp only[↓X3]|with_reducible apply Zb))
   exact Wp.pure ⟨by simp only; omega,(by intros;first|with_reducible rfl|simp(disch:=omega)only[Ze,Zh]),by simp only [f4,fiInt]⟩
  ·(repeat(first|((with_reducible first|apply Wp.gs|apply Wp.cs|apply Zc|apply Zg|apply Zd|apply Zi|apply Wp.step);case h=>((try simp(disch:=omega)only[↓reduceIte,Za,↓X0,X1,Nat.reduceEqDiff,Int.reduceEq,Nat.reduceAdd,Nat.reduceSub,f4]);with_reducible first|done|exact rfl|exact bT|exact bF))|apply Zf|apply Zj|with_reducible apply Zk|simp only[↓X3]|with_reducible apply Zb))
   exact Wp.pure ⟨by simp only; omega,(by intros;first|with_reducible rfl|simp(disch:=omega)only[Ze,Zh]),by simp only [f5,fiInt]; exact f4⟩
end Go.Proofs.Ytbgkimkbngocjaa.Ax
