/- What the law needs: laws of the abstract machine, and contracts of functions. -/
import Derived.Test.YtbgkimkbngocjaaM2
import Derived.Test.YtbgkimkbngocjaaM3
import Derived.Test.YtbgkimkbngocjaaM5
import Derived.Test.YtbgkimkbngocjaaM4
set_option linter.unusedVariables false
set_option linter.unusedSimpArgs false
set_option maxHeartbeats 4000000
namespace Go.Proofs.Ytbgkimkbngocjaa.Ax
open Go
theorem ByteArray.of_nums {a b:ByteArray} (h:Zt a=Zt b):a=b:=by
 have h2:a.data.toList=b.data.toList:=by
  unfold Zt at h
  exact (List.map_inj_right (fun x y hxy=>UInt8.toNat_inj.1 (by omega))).1 h
 cases a; cases b
 simpa using h2
theorem nums_str {l:List Int} (h:∀ x∈l,0≤x∧x < 256):Zt (strOf l)=l:=by
 simp only [Zt,strOf,List.map_map]
 conv=>rhs; rw [← List.map_id l]
 apply List.map_congr_left
 intro x hx
 have:=h x hx
 simp only [Function.comp,id,UInt8.toNat_ofNat']
 omega
theorem str_nums (s:ByteArray):strOf (Zt s)=s:=by
 apply ByteArray.of_nums
 apply nums_str
 intro x hx
 simp only [Zt,List.mem_map] at hx
 obtain ⟨b,_,rfl⟩:=hx
 have:=b.toNat_lt
 omega
theorem nums_app (a b:ByteArray):Zt (a++b)=Zt a++Zt b:=by simp [Zt]
theorem str_app (a b:List Int):strOf (a++b)=strOf a++strOf b:=by
 simp [strOf,ByteArray.ext_iff]
def digs (n:Nat):List Int:=if n < 10 then [48+(n:Int)] else digs (n / 10)++[48+((n % 10:Nat):Int)]
termination_by n
decreasing_by omega
theorem digs_lt {n:Nat} (h:n < 10):digs n=[48+(n:Int)]:=by rw [digs,if_pos h]
theorem digs_ge {n:Nat} (h:¬ n < 10):digs n=digs (n / 10)++[48+((n % 10:Nat):Int)]:=by rw [digs,if_neg h]
theorem digs_len:∀ (k n:Nat),n < 10 ^ (k+1)→(digs n).length≤k+1
 | 0,n,h=>by rw [digs_lt (by simpa using h)]; simp
 | k+1,n,h=>by
  by_cases h1:n < 10
  ·rw [digs_lt h1]; simp
  ·rw [digs_ge h1,List.length_append]
   have:=digs_len k (n / 10) (by rw [Nat.pow_succ] at h; omega)
   simp; omega
theorem digs_rng:∀ (n:Nat),∀ x∈digs n,48≤x∧x≤57:=by
 intro n
 induction n using Nat.strongRecOn with
 | ind n ih =>
  intro x hx
  by_cases h1:n < 10
  ·rw [digs_lt h1] at hx; simp at hx; omega
  ·rw [digs_ge h1] at hx
   rcases List.mem_append.1 hx with h | h
   ·exact ih (n / 10) (by omega) x h
   ·simp at h; omega
def decOf (x:Int):List Int:=if x < 0 then 45 :: digs x.natAbs else digs x.natAbs
theorem decOf_neg {x:Int} (h:x < 0):decOf x=45 :: digs x.natAbs:=by unfold decOf; rw [if_pos h]
theorem decOf_nat {x:Int} (h:¬ x < 0):decOf x=digs x.natAbs:=by unfold decOf; rw [if_neg h]
theorem decOf_rng (x:Int):∀ y∈decOf x,45≤y∧y≤57:=by
 intro y hy
 unfold decOf at hy
 split at hy
 ·rcases List.mem_cons.1 hy with h | h
  ·omega
  ·have:=digs_rng _ y h; omega
 ·have:=digs_rng _ y hy; omega
def Cut (o t o':List Int):Prop:=(o.length+t.length≤400→o'=o++t)∧(400 < o.length+t.length→400 < o'.length)
theorem Cut.refl (o:List Int):Cut o [] o:=⟨fun _=>by simp,fun h=>by simpa using h⟩
theorem Cut.app (o t:List Int):Cut o t (o++t):=⟨fun _=>rfl,fun h=>by simpa using h⟩
theorem Cut.full {o t o':List Int} (h:400 < o.length) (h2:o.length≤o'.length):Cut o t o':=⟨fun h3=>by omega,fun _=>by omega⟩
theorem Cut.seq {o t o1 u o2:List Int} (h1:Cut o t o1) (h2:Cut o1 u o2):Cut o (t++u) o2:=by
 refine ⟨fun h=>?_,fun h=>?_⟩
 ·rw [List.length_append] at h
  have e1:=h1.1 (by omega)
  have e2:=h2.1 (by rw [e1,List.length_append]; omega)
  rw [e2,e1,List.append_assoc]
 ·rw [List.length_append] at h
  by_cases h3:o.length+t.length≤400
  ·have e1:=h1.1 h3
   exact h2.2 (by rw [e1,List.length_append]; omega)
  ·have e1:=h1.2 (by omega)
   exact h2.2 (by omega)
theorem Cut.add {o t o1:List Int} (h1:Cut o t o1) (u:List Int):Cut o (t++u) (o1++u):=h1.seq (Cut.app _ _)
theorem nt_div (m:Nat):((m:Int)).tdiv 10=((m / 10:Nat):Int):=by rw [Int.tdiv_eq_ediv_of_nonneg (by omega)]; omega
theorem nt_mod (m:Nat):((m:Int)).tmod 10=((m % 10:Nat):Int):=by rw [Int.tmod_eq_emod_of_nonneg (by omega)]; omega
theorem digs_sz {m:Nat} (h:m≤1000000000000):(strOf (digs m)).size≤13:=by
 rw [strOf_size]; exact digs_len 12 m (by omega)
def digs0 (m:Nat):List Int:=if m=0 then [] else digs m
theorem digs0_step {m:Nat} (h:0 < m):digs0 m=digs0 (m / 10)++[48+((m % 10:Nat):Int)]:=by
 unfold digs0
 rw [if_neg (by omega)]
 by_cases h1:m < 10
 ·rw [digs_lt h1,if_pos (by omega)]; simp; omega
 ·rw [digs_ge h1,if_neg (by omega)]
theorem digs0_len {m:Nat} (h:m≤1000000000000):(digs0 m).length≤13:=by
 unfold digs0; split
 ·simp
 ·exact digs_len 12 m (by omega)
theorem kN120 (m:Nat) (hm:m≤1000000000000) (H:Hp) (n:Nat):Rt Try.prog 120 [.int .i64 (m:Int)] H n (.string (strOf (digs m))):=by
 apply Rt.mk
 rw [c120]; unfold S120
 have c0:¬ (m:Int) < 0:=by omega
 by_cases h:m=0
 ·subst h
  (repeat(first|((with_reducible first|apply Wp.gs|apply Wp.cs|apply Zc|apply Zg|apply Zd|apply Zi|apply Wp.step);case h=>((try simp(disch:=omega)only[↓reduceIte,Za,↓X0,X1,Nat.reduceEqDiff,Int.reduceEq,Nat.reduceAdd,Nat.reduceSub,X2,Ze,Nat.reduceLeDiff,show ¬ ((0:Nat):Int) < 0 by decide,show ((0:Nat):Int)=0 from rfl]);with_reducible first|done|exact rfl|exact bT|exact bF))|apply Zf|apply Zj|with_reducible apply Zk|simp only[↓X3]|with_reducible apply Zb))
  exact Wp.pure ⟨by simp only; omega,(by intros;first|with_reducible rfl|simp(disch:=omega)only[Ze,Zh]),by rw [digs_lt (by omega)]; rfl⟩
 ·have c1:¬ (m:Int)=0:=by omega
  (repeat(first|((with_reducible first|apply Wp.gs|apply Wp.cs|apply Zc|apply Zg|apply Zd|apply Zi|apply Wp.step);case h=>((try simp(disch:=omega)only[↓reduceIte,Za,↓X0,X1,Nat.reduceEqDiff,Int.reduceEq,Nat.reduceAdd,Nat.reduceSub,X2,Ze,Nat.reduceLeDiff,c0,c1]);with_reducible first|done|exact rfl|exact bT|exact bF))|apply Zf|apply Zj|with_reducible apply Zk|simp only[↓X3]|with_reducible apply Zb))
  refine Wp.bind (Loop_rule (fun d T H' n'=>∃ (q:Nat) (o:List Int),q=d∧n≤n'∧(∀ i,i < n→H' i=H i)∧T 0=.int .i64 (q:Int)∧q≤1000000000000∧o.length≤13∧T 3=.string (strOf o)∧digs0 m=digs0 q++o) (fun o=>n≤o.n∧(∀ i,i < n→o.H i=H i)∧o.e=.exit 0∧o.t 3=.string (strOf (digs m))) ?_ m _ _ _ ⟨m,[],rfl,by omega,(by intros;first|with_reducible rfl|simp(disch:=omega)only[Ze,Zh]),by simp [Zl,Zq],hm,by simp,by simp [Zl]; rfl,by simp⟩) ?_
  ·rintro d T H' n' ⟨q,o,rfl,hn,s1,e0,hq,ho,e3,heq⟩
   unfold S120L0
   by_cases hq0:q=0
   ·subst hq0
    (repeat(first|((with_reducible first|apply Wp.gs|apply Wp.cs|apply Zc|apply Zg|apply Zd|apply Zi|apply Wp.step);case h=>((try simp(disch:=omega)only[↓reduceIte,Za,↓X0,X1,Nat.reduceEqDiff,Int.reduceEq,Nat.reduceAdd,Nat.reduceSub,e0,show ¬ (0:Int) < ((0:Nat):Int) by decide]);with_reducible first|done|exact rfl|exact bT|exact bF))|apply Zf|apply Zj|with_reducible apply Zk|simp only[↓X3]|with_reducible apply Zb))
    refine Wp.pure (Nxt.exit ⟨by simp only; omega,s1,rfl,?_⟩)
    have:digs m=o:=by
     unfold digs0 at heq; rw [if_neg h,if_pos rfl,List.nil_append] at heq; exact heq
    simp [Zl,e3,this]
   ·have hq1:(0:Int) < (q:Int):=by omega
    have hw1:IntKind.i64.wrap (48+((q % 10:Nat):Int))=48+((q % 10:Nat):Int):=w64 (by omega)
    have hw2:IntKind.u8.wrap (48+((q % 10:Nat):Int))=48+((q % 10:Nat):Int):=IntWalk.u8_in _ (by omega)
    have hw3:IntKind.i64.wrap (((q / 10:Nat):Int))=((q / 10:Nat):Int):=w64 (by omega)
    have ha:=s_add (a:=strOf [48+((q % 10:Nat):Int)]) (b:=strOf o) (by rw [strOf1_size,strOf_size]; omega)
    ((repeat(first|((with_reducible first|apply Wp.gs|apply Wp.cs|apply Zc|apply Zg|apply Zd|apply Zi|apply Wp.step);case h=>((try simp(disch:=omega)only[↓reduceIte,Za,↓X0,X1,Nat.reduceEqDiff,Int.reduceEq,Nat.reduceAdd,Nat.reduceSub,e0,e3,hq1,nt_mod,nt_div,hw1,hw2,hw3,bsl_b,conv_b,ha]);with_reducible first|done|exact rfl|exact bT|exact bF))|apply Zf|apply Zj|with_reducible apply Zk|simp only[↓X3]|with_reducible apply Zb));try(with_reducible apply Zm;case h=>((try simp(disch:=omega)only[X1,Nat.reduceEqDiff,e0,e3,hq1,nt_mod,nt_div,hw1,hw2,hw3,bsl_b,conv_b,ha]);with_reducible exact rfl)))
    have hst:=digs0_step (m:=q) (by omega)
    rw [hst,List.append_assoc] at heq
    have hl:=congrArg List.length heq
    have hl2:=digs0_len hm
    rw [List.length_append] at hl
    refine Wp.pure (Nxt.go (q / 10) (by omega) ⟨q / 10,[48+((q % 10:Nat):Int)]++o,rfl,by omega,(by intros;first|with_reducible rfl|simp(disch:=omega)only[Ze,Zh,s1]),by simp [Zl],by omega,by omega,by simp [Zl]; rw [show (48+((q:Int) % 10)) :: o=[48+((q:Int) % 10)]++o from rfl,str_app],heq⟩)
  ·rintro ⟨oe,ot,oH,on⟩ ⟨f1,f2,rfl,f4⟩
   simp only at f1 f2 f4
   (repeat(first|((with_reducible first|apply Wp.gs|apply Wp.cs|apply Zc|apply Zg|apply Zd|apply Zi|apply Wp.step);case h=>((try simp(disch:=omega)only[↓reduceIte,Za,↓X0,X1,Nat.reduceEqDiff,Int.reduceEq,Nat.reduceAdd,Nat.reduceSub,f4]);with_reducible first|done|exact rfl|exact bT|exact bF))|apply Zf|apply Zj|with_reducible apply Zk|simp only[↓X3]|with_reducible apply Zb))
   exact Wp.pure ⟨by simp only; omega,f2,f4⟩
end Go.Proofs.Ytbgkimkbngocjaa.Ax
set_option linter.unusedVariables false
set_option linter.unusedSimpArgs false
set_option maxHeartbeats 4000000
namespace Go.Proofs.Ytbgkimkbngocjaa.Ax
open Go
def digB (a:Int):Bool:=decide (48≤a∧a≤57)
def wordB (a:Int):Bool:=nameByte a || digB a || decide (a=35)
theorem k108 (a:Int) (H:Hp) (n:Nat):Rt Try.prog 108 [.int .u8 a] H n (.bool (digB a)):=by
 apply Rt.mk
 rw [c108]; unfold S108 digB
 by_cases h1:48≤a
 ·(repeat(first|((with_reducible first|apply Wp.gs|apply Wp.cs|apply Zc|apply Zg|apply Zd|apply Zi|apply Wp.step);case h=>((try simp(disch:=omega)only[↓reduceIte,Za,↓X0,X1,Nat.reduceEqDiff,Int.reduceEq,Nat.reduceAdd,Nat.reduceSub,h1]);with_reducible first|done|exact rfl|exact bT|exact bF))|apply Zf|apply Zj|with_reducible apply Zk|simp only[↓X3]|with_reducible apply Zb))
  exact Wp.pure ⟨by simp only; omega,(by intros;first|with_reducible rfl|simp(disch:=omega)only[Ze,Zh]),by simp [h1]⟩
 ·(repeat(first|((with_reducible first|apply Wp.gs|apply Wp.cs|apply Zc|apply Zg|apply Zd|apply Zi|apply Wp.step);case h=>((try simp(disch:=omega)only[↓reduceIte,Za,↓X0,X1,Nat.reduceEqDiff,Int.reduceEq,Nat.reduceAdd,Nat.reduceSub,h1]);with_reducible first|done|exact rfl|exact bT|exact bF))|apply Zf|apply Zj|with_reducible apply Zk|simp only[↓X3]|with_reducible apply Zb))
  exact Wp.pure ⟨by simp only; omega,(by intros;first|with_reducible rfl|simp(disch:=omega)only[Ze,Zh]),by simp [h1]⟩
theorem k81 (a:Int) (H:Hp) (n:Nat):Rt Try.prog 81 [.int .u8 a] H n (.bool (wordB a)):=by
 apply Rt.mk
 rw [c81]; unfold S81 wordB
 by_cases h1:nameByte a=true
 ·(repeat(first|((with_reducible first|apply Wp.gs|apply Wp.cs|apply Zc|apply Zg|apply Zd|apply Zi|apply Wp.step);case h=>((try simp(disch:=omega)only[↓reduceIte,Za,↓X0,X1,Nat.reduceEqDiff,Int.reduceEq,Nat.reduceAdd,Nat.reduceSub,k100,h1]);with_reducible first|done|exact rfl|exact bT|exact bF))|apply Zf|apply Zj|with_reducible apply Zk|simp only[↓X3]|with_reducible apply Zb))
  exact Wp.pure ⟨by simp only; omega,(by intros;first|with_reducible rfl|simp(disch:=omega)only[Ze,Zh]),by simp [h1]⟩
 ·have h1':nameByte a=false:=by simpa using h1
  ((repeat(first|((with_reducible first|apply Wp.gs|apply Wp.cs|apply Zc|apply Zg|apply Zd|apply Zi|apply Wp.step);case h=>((try simp(disch:=omega)only[↓reduceIte,Za,↓X0,X1,Nat.reduceEqDiff,Int.reduceEq,Nat.reduceAdd,Nat.reduceSub,k100,h1']);with_reducible first|done|exact rfl|exact bT|exact bF))|apply Zf|apply Zj|with_reducible apply Zk|simp only[↓X3]|with_reducible apply Zb));try(with_reducible apply Zm;case h=>((try simp(disch:=omega)only[X1,Nat.reduceEqDiff,k100,h1']);with_reducible exact rfl)))
  refine Wp.rt (k108 a _ _) ?_
  intro H1 n1 q1 s1
  by_cases h2:digB a=true
  ·(repeat(first|((with_reducible first|apply Wp.gs|apply Wp.cs|apply Zc|apply Zg|apply Zd|apply Zi|apply Wp.step);case h=>((try simp(disch:=omega)only[↓reduceIte,Za,↓X0,X1,Nat.reduceEqDiff,Int.reduceEq,Nat.reduceAdd,Nat.reduceSub,h2]);with_reducible first|done|exact rfl|exact bT|exact bF))|apply Zf|apply Zj|with_reducible apply Zk|simp only[↓X3]|with_reducible apply Zb))
   exact Wp.pure ⟨by simp only; omega,(by intros;first|with_reducible rfl|simp(disch:=omega)only[Ze,Zh,s1]),by simp [h1',h2]⟩
  ·have h2':digB a=false:=by simpa using h2
   (repeat(first|((with_reducible first|apply Wp.gs|apply Wp.cs|apply Zc|apply Zg|apply Zd|apply Zi|apply Wp.step);case h=>((try simp(disch:=omega)only[↓reduceIte,Za,↓X0,X1,Nat.reduceEqDiff,Int.reduceEq,Nat.reduceAdd,Nat.reduceSub,h2']);with_reducible first|done|exact rfl|exact bT|exact bF))|apply Zf|apply Zj|with_reducible apply Zk|simp only[↓X3]|with_reducible apply Zb))
   exact Wp.pure ⟨by simp only; omega,(by intros;first|with_reducible rfl|simp(disch:=omega)only[Ze,Zh,s1]),by simp [h1',h2']⟩
theorem kB120 (x:Int) (hx : -1000000000000≤x∧x≤1000000000000) (H:Hp) (n:Nat):Rt Try.prog 120 [.int .i64 x] H n (.string (strOf (decOf x))):=by
 by_cases h:x < 0
 ·rw [decOf_neg h]
  apply Rt.mk
  rw [c120]; unfold S120
  have hw:IntKind.i64.wrap (0 - x)=((x.natAbs:Nat):Int):=by rw [w64 (by omega)]; omega
  have hz:=digs_sz (m:=x.natAbs) (by omega)
  have ha:=s_add (a:=⟨#[45]⟩) (b:=strOf (digs x.natAbs)) (by show 1+_≤_; omega)
  ((repeat(first|((with_reducible first|apply Wp.gs|apply Wp.cs|apply Zc|apply Zg|apply Zd|apply Zi|apply Wp.step);case h=>((try simp(disch:=omega)only[↓reduceIte,Za,↓X0,X1,Nat.reduceEqDiff,Int.reduceEq,Nat.reduceAdd,Nat.reduceSub,X2,Ze,Nat.reduceLeDiff,h,hw]);with_reducible first|done|exact rfl|exact bT|exact bF))|apply Zf|apply Zj|with_reducible apply Zk|simp only[↓X3]|with_reducible apply Zb));try(with_reducible apply Zm;case h=>((try simp(disch:=omega)only[X1,Nat.reduceEqDiff,h,hw]);with_reducible exact rfl)))
  refine Wp.rt (kN120 x.natAbs (by omega) _ _) ?_
  intro H1 n1 q1 s1
  (repeat(first|((with_reducible first|apply Wp.gs|apply Wp.cs|apply Zc|apply Zg|apply Zd|apply Zi|apply Wp.step);case h=>((try simp(disch:=omega)only[↓reduceIte,Za,↓X0,X1,Nat.reduceEqDiff,Int.reduceEq,Nat.reduceAdd,Nat.reduceSub,X2,Ze,Nat.reduceLeDiff,ha]);with_reducible first|done|exact rfl|exact bT|exact bF))|apply Zf|apply Zj|with_reducible apply Zk|simp only[↓X3]|with_reducible apply Zb))
  exact Wp.pure ⟨by simp only; omega,(by intros;first|with_reducible rfl|simp(disch:=omega)only[Ze,Zh,s1]),by rw [show (45 :: digs x.natAbs)=[45]++digs x.natAbs from rfl,str_app]; rfl⟩
 ·rw [decOf_nat h]
  have:=kN120 x.natAbs (by omega) H n
  rw [show (x.natAbs:Int)=x by omega] at this
  exact this
def numL (x:Int) (l:List Int):Int:=l.foldl (fun x d=>10 * x+d - 48) x
theorem numL_rng:∀ (l:List Int) (k:Nat),(∀ d∈l,digB d=true)→l.length≤k→k≤10→∀ x:Int,0≤x→x < 10 ^ (10 - k)→0≤numL x l∧numL x l < 10 ^ (10 - k+l.length)
 | [],k,_,_,_,x,h0,h1=>⟨h0,h1⟩
 | d :: l,k,hd,hl,hk,x,h0,h1=>by
  have h2:48≤d∧d≤57:=by simpa [digB] using hd d List.mem_cons_self
  have hkl:l.length+1≤k:=hl
  have e:(10:Int) ^ (10 - (k - 1))=10 * 10 ^ (10 - k):=by
   rw [show 10 - (k - 1)=(10 - k)+1 by omega,Int.pow_succ]; omega
  have:=numL_rng l (k - 1) (fun y hy=>hd y (List.mem_cons_of_mem _ hy)) (by omega) (by omega) (10 * x+d - 48) (by omega) (by rw [e]; omega)
  rw [show 10 - (k - 1)+l.length=10 - k+(l.length+1) by omega] at this
  exact this
theorem numL_lt {l:List Int} (hd:∀ d∈l,digB d=true) (hl:l.length≤10):0≤numL 0 l∧numL 0 l < 10000000000:=by
 have h1:=numL_rng l l.length hd (Nat.le_refl _) hl 0 (by omega) (by
  have:(0:Int) < 10 ^ (10 - l.length):=Int.pow_pos (by omega)
  exact this)
 rw [show 10 - l.length+l.length=10 by omega] at h1
 exact ⟨h1.1,by have:=h1.2; simpa using this⟩
theorem numL_snoc (x:Int) (l:List Int) (d:Int):numL x (l++[d])=10 * numL x l+d - 48:=by simp [numL,List.foldl_append]
def sgnB (w:List Int):List Int:=if 1 < w.length∧w.headD 0=45 then w.tail else w
def numM (w:List Int):Int × Bool :=
 if 10 < (sgnB w).length∨(sgnB w).length=0 then (0,false)
 else if (sgnB w).all digB=true then
  ((if (sgnB w).length=w.length then numL 0 (sgnB w) else -numL 0 (sgnB w)),decide (decOf (if (sgnB w).length=w.length then numL 0 (sgnB w) else -numL 0 (sgnB w))=w ∧ -1000000000≤(if (sgnB w).length=w.length then numL 0 (sgnB w) else -numL 0 (sgnB w))∧(if (sgnB w).length=w.length then numL 0 (sgnB w) else -numL 0 (sgnB w))≤1000000000))
 else (0,false)
theorem str_dec {x:Int} {w:ByteArray}:strOf (decOf x)=w↔decOf x=Zt w:=by
 constructor
 ·rintro rfl
  rw [nums_str]
  intro y hy
  have:=decOf_rng x y hy
  omega
 ·intro h
  rw [h,str_nums]
theorem l109 (s:ByteArray) (hs:s.size≤10):∀ t H n,t 4=.string s→t 5=.int .i64 0→t 6=.int .i64 0→∀ w,t 0=.string w→t 2=.int .i64 0→t 3=.bool false →
  Wp (Yf (S109L0 (Call Try.prog) Yf) t H n) (fun o=>n≤o.n∧(∀ i,i < n→o.H i=H i)∧((o.e=.exit 0∧(Zt s).all digB=true∧o.t 0=.string w∧o.t 4=.string s∧o.t 5=.int .i64 (numL 0 (Zt s)))∨(o.e=.ret∧(Zt s).all digB=false∧o.t 2=.int .i64 0∧o.t 3=.bool false))):=by
 intro t H n e4 e5 e6 w e0 e2 e3
 refine Loop_rule (fun d T H' n'=>∃ j:Nat,j+d=s.size∧n≤n'∧(∀ i,i < n→H' i=H i)∧T 0=.string w∧T 2=.int .i64 0∧T 3=.bool false∧T 4=.string s∧T 5=.int .i64 (numL 0 ((Zt s).take j))∧T 6=.int .i64 (j:Int)∧((Zt s).take j).all digB=true) _ ?_ s.size t H n ⟨0,by omega,by omega,fun _ _=>rfl,e0,e2,e3,e4,by simpa [numL] using e5,by simpa using e6,by simp⟩
 rintro d T H' n' ⟨j,hj,hn,s0,e0,e2,e3,e4,e5,e6,hall⟩
 unfold S109L0
 have hlen:=numsOf_length s
 by_cases hlt:j < s.size
 ·have hlti:(j:Int) < s.size:=by omega
  have hix:=idx_nums (k:=.i64) hlt
  have htk:=take_next (l:=Zt s) (j:=j) (by omega)
  ((repeat(first|((with_reducible first|apply Wp.gs|apply Wp.cs|apply Zc|apply Zg|apply Zd|apply Zi|apply Wp.step);case h=>((try simp(disch:=omega)only[↓reduceIte,Za,↓X0,X1,Nat.reduceEqDiff,Int.reduceEq,Nat.reduceAdd,Nat.reduceSub,e0,e4,e5,e6,hlti,hix]);with_reducible first|done|exact rfl|exact bT|exact bF))|apply Zf|apply Zj|with_reducible apply Zk|simp only[↓X3]|with_reducible apply Zb));try(with_reducible apply Zm;case h=>((try simp(disch:=omega)only[X1,Nat.reduceEqDiff,e0,e4,e5,e6,hlti,hix]);with_reducible exact rfl)))
  refine Wp.rt (k108 _ _ _) ?_
  intro H1 n1 q1 s1
  by_cases hd:digB ((Zt s)[j]'(by omega))=true
  ·have hr:=numL_lt (l:=(Zt s).take j) (by intro d hd; exact List.all_eq_true.1 hall d hd) (by rw [List.length_take]; omega)
   have hb:48≤(Zt s)[j]'(by omega)∧(Zt s)[j]'(by omega)≤57:=by simpa [digB] using hd
   have w1:IntKind.i64.wrap (10 * numL 0 ((Zt s).take j))=10 * numL 0 ((Zt s).take j):=w64 (by omega)
   have w2:IntKind.i64.wrap (10 * numL 0 ((Zt s).take j)+(Zt s)[j]'(by omega))=10 * numL 0 ((Zt s).take j)+(Zt s)[j]'(by omega):=w64 (by omega)
   have w3:IntKind.i64.wrap (10 * numL 0 ((Zt s).take j)+(Zt s)[j]'(by omega) - 48)=10 * numL 0 ((Zt s).take j)+(Zt s)[j]'(by omega) - 48:=w64 (by omega)
   have w4:IntKind.i64.wrap ((Zt s)[j]'(by omega))=(Zt s)[j]'(by omega):=w64 (by omega)
   have w5:=wn (j:=j) (by omega)
   (repeat(first|((with_reducible first|apply Wp.gs|apply Wp.cs|apply Zc|apply Zg|apply Zd|apply Zi|apply Wp.step);case h=>((try simp(disch:=omega)only[↓reduceIte,Za,↓X0,X1,Nat.reduceEqDiff,Int.reduceEq,Nat.reduceAdd,Nat.reduceSub,hd,e0,e4,e5,e6,hix,w1,w2,w3,w4,w5]);with_reducible first|done|exact rfl|exact bT|exact bF))|apply Zf|apply Zj|with_reducible apply Zk|simp only[↓X3]|with_reducible apply Zb))
   refine Wp.pure (Nxt.go (d - 1) (by omega) ⟨j+1,by omega,by omega,(by intros;first|with_reducible rfl|simp(disch:=omega)only[Ze,Zh,s1,s0]),by simp [Zl,e0],by simp [Zl,e2],by simp [Zl,e3],by simp [Zl,e4],?_,by simp [Zl],?_⟩)
   ·rw [htk,numL_snoc]; simp [Zl]
   ·rw [htk,List.all_append,hall]; simp [hd]
  ·have hd':digB ((Zt s)[j]'(by omega))=false:=by simpa using hd
   (repeat(first|((with_reducible first|apply Wp.gs|apply Wp.cs|apply Zc|apply Zg|apply Zd|apply Zi|apply Wp.step);case h=>((try simp(disch:=omega)only[↓reduceIte,Za,↓X0,X1,Nat.reduceEqDiff,Int.reduceEq,Nat.reduceAdd,Nat.reduceSub,hd']);with_reducible first|done|exact rfl|exact bT|exact bF))|apply Zf|apply Zj|with_reducible apply Zk|simp only[↓X3]|with_reducible apply Zb))
   refine Wp.pure (Nxt.ret ⟨by simp only; omega,(by intros;first|with_reducible rfl|simp(disch:=omega)only[Ze,Zh,s1,s0]),.inr ⟨rfl,?_,by simp [Zl],by simp [Zl]⟩⟩)
   rw [List.all_eq_false]
   exact ⟨_,List.getElem_mem _,hd⟩
 ·have hlti:¬ (j:Int) < s.size:=by omega
  rw [List.take_of_length_le (by omega)] at e5 hall
  (repeat(first|((with_reducible first|apply Wp.gs|apply Wp.cs|apply Zc|apply Zg|apply Zd|apply Zi|apply Wp.step);case h=>((try simp(disch:=omega)only[↓reduceIte,Za,↓X0,X1,Nat.reduceEqDiff,Int.reduceEq,Nat.reduceAdd,Nat.reduceSub,e4,e6,hlti]);with_reducible first|done|exact rfl|exact bT|exact bF))|apply Zf|apply Zj|with_reducible apply Zk|simp only[↓X3]|with_reducible apply Zb))
  exact Wp.pure (Nxt.exit ⟨by simp only; omega,s0,.inl ⟨rfl,hall,by simp [Zl,e0],by simp [Zl,e4],by simp [Zl,e5]⟩⟩)
theorem ext_nums (w:ByteArray) (a b:Nat):Zt (w.extract a b)=((Zt w).drop a).take (b - a):=by
 simp only [Zt,ByteArray.data_extract,Array.toList_extract,List.extract_eq_take_drop,List.map_take,List.map_drop]
theorem ext1_nums {w:ByteArray}:Zt (w.extract 1 w.size)=(Zt w).tail:=by
 rw [ext_nums,List.take_of_length_le (by rw [List.length_drop,numsOf_length]; omega),List.drop_one]
theorem hd_nums {l:List Int} (h:0 < l.length):l[0]=l.headD 0:=by
 cases l with
 | nil=>simp at h
 | cons a l=>rfl
theorem numM_no {w:List Int} (h:10 < (sgnB w).length∨(sgnB w).length=0):numM w=(0,false):=by unfold numM; rw [if_pos h]
theorem numM_nd {w:List Int} (h:(sgnB w).all digB=false):numM w=(0,false):=by unfold numM; rw [h]; split <;> simp
theorem numM_eq {w:List Int} (h:¬ (10 < (sgnB w).length∨(sgnB w).length=0)) (h2:(sgnB w).all digB=true) {x:Int} (hx:x=if (sgnB w).length=w.length then numL 0 (sgnB w) else -numL 0 (sgnB w)):numM w=(x,decide (decOf x=w ∧ -1000000000≤x∧x≤1000000000)):=by unfold numM; rw [if_neg h,if_pos h2,← hx]
theorem k109 (w:ByteArray) (hw:w.size≤1048576) (H:Hp) (n:Nat):Rt Try.prog 109 [.string w] H n (.tuple ⟨[.int .i64 (numM (Zt w)).1,.bool (numM (Zt w)).2]⟩):=by
 apply Rt.mk
 rw [c109]; unfold S109
 have hlen:=numsOf_length w
 by_cases c1:1 < w.size
 ·have c1i:(1:Int) < w.size:=by omega
  have hix:idxS (.string w) (.int .i64 0)=some (.int .u8 ((Zt w).headD 0)):=by
   have:=idx_nums (k:=.i64) (s:=w) (j:=0) (by omega)
   rw [hd_nums] at this
   exact this
  by_cases c2:(Zt w).headD 0=45
  ·obtain ⟨s,hse⟩:∃ s,s=w.extract 1 w.size:=⟨_,rfl⟩
   have hs:sgnB (Zt w)=Zt s:=by unfold sgnB; rw [if_pos ⟨by omega,c2⟩,hse,ext1_nums]
   have hsv:sliceV 0 (.string w) (some (.int .i64 1)) none=some (.string s):=by rw [hse]; simp [sliceV,bnd,show 1≤w.size by omega]
   have hse0:=True.intro
   have hsl:=numsOf_length s
   by_cases h10:10 < s.size
   ·have h10i:(10:Int) < s.size:=by omega
    (repeat(first|((with_reducible first|apply Wp.gs|apply Wp.cs|apply Zc|apply Zg|apply Zd|apply Zi|apply Wp.step);case h=>((try simp(disch:=omega)only[↓reduceIte,Za,↓X0,X1,Nat.reduceEqDiff,Int.reduceEq,Nat.reduceAdd,Nat.reduceSub,X2,Ze,Nat.reduceLeDiff,c1i,hix,c2,hsv,h10i]);with_reducible first|done|exact rfl|exact bT|exact bF))|apply Zf|apply Zj|with_reducible apply Zk|simp only[↓X3]|with_reducible apply Zb))
    exact Wp.pure ⟨by simp only; omega,(by intros;first|with_reducible rfl|simp(disch:=omega)only[Ze,Zh]),by rw [numM_no (.inl (by rw [hs]; omega))]⟩
   have h10i:¬ (10:Int) < s.size:=by omega
   by_cases h0:s.size=0
   ·have h0i:(s.size:Int)=0:=by omega
    have h10j:¬ (10:Int) < 0:=by omega
    (repeat(first|((with_reducible first|apply Wp.gs|apply Wp.cs|apply Zc|apply Zg|apply Zd|apply Zi|apply Wp.step);case h=>((try simp(disch:=omega)only[↓reduceIte,Za,↓X0,X1,Nat.reduceEqDiff,Int.reduceEq,Nat.reduceAdd,Nat.reduceSub,X2,Ze,Nat.reduceLeDiff,c1i,hix,c2,hsv,h10i,h0i,h10j]);with_reducible first|done|exact rfl|exact bT|exact bF))|apply Zf|apply Zj|with_reducible apply Zk|simp only[↓X3]|with_reducible apply Zb))
    exact Wp.pure ⟨by simp only; omega,(by intros;first|with_reducible rfl|simp(disch:=omega)only[Ze,Zh]),by rw [numM_no (.inr (by rw [hs]; omega))]⟩
   have h0i:¬ (s.size:Int)=0:=by omega
   (repeat(first|((with_reducible first|apply Wp.gs|apply Wp.cs|apply Zc|apply Zg|apply Zd|apply Zi|apply Wp.step);case h=>((try simp(disch:=omega)only[↓reduceIte,Za,↓X0,X1,Nat.reduceEqDiff,Int.reduceEq,Nat.reduceAdd,Nat.reduceSub,X2,Ze,Nat.reduceLeDiff,c1i,hix,c2,hsv,h10i,h0i]);with_reducible first|done|exact rfl|exact bT|exact bF))|apply Zf|apply Zj|with_reducible apply Zk|simp only[↓X3]|with_reducible apply Zb))
   refine Wp.bind (l109 s (by omega) _ _ _ (by simp [Zl,Zq,hse0]) (by simp [Zl,Zq]) (by simp [Zl,Zq]) w (by simp [Zl,Zq]) (by simp [Zl,Zq]) (by simp [Zl,Zq])) ?_
   rintro ⟨oe,ot,oH,on⟩ ⟨f1,f2,f3⟩
   simp only at f1 f2 f3
   rcases f3 with ⟨rfl,ha,g0,g4,g5⟩ | ⟨rfl,ha,g2,g3⟩
   ·have hr:=numL_lt (l:=Zt s) (by intro d hd; exact List.all_eq_true.1 ha d hd) (by omega)
    have hnm:=numM_eq (w:=Zt w) (by rw [hs]; omega) (by rw [hs]; exact ha) rfl
    rw [hs] at hnm
    by_cases hne:(s.size:Int)=w.size
    ·have hne':(Zt s).length=(Zt w).length:=by omega
     rw [if_pos hne'] at hnm
     rw [hnm]
     ((repeat(first|((with_reducible first|apply Wp.gs|apply Wp.cs|apply Zc|apply Zg|apply Zd|apply Zi|apply Wp.step);case h=>((try simp(disch:=omega)only[↓reduceIte,Za,↓X0,X1,Nat.reduceEqDiff,Int.reduceEq,Nat.reduceAdd,Nat.reduceSub,g0,g4,g5,hne]);with_reducible first|done|exact rfl|exact bT|exact bF))|apply Zf|apply Zj|with_reducible apply Zk|simp only[↓X3]|with_reducible apply Zb));try(with_reducible apply Zm;case h=>((try simp(disch:=omega)only[X1,Nat.reduceEqDiff,g0,g4,g5,hne]);with_reducible exact rfl)))
     refine Wp.rt (kB120 _ (by omega) _ _) ?_
     intro H1 n1 q1 s1
     generalize numL 0 (Zt s)=x at *
     by_cases hq:strOf (decOf x)=w
     ·have hq':=str_dec.1 hq
      ((repeat(first|((with_reducible first|apply Wp.gs|apply Wp.cs|apply Zc|apply Zg|apply Zd|apply Zi|apply Wp.step);case h=>((try simp(disch:=omega)only[↓reduceIte,Za,↓X0,X1,Nat.reduceEqDiff,Int.reduceEq,Nat.reduceAdd,Nat.reduceSub,X2,Ze,Nat.reduceLeDiff,g0,g5,hq]);with_reducible first|done|exact rfl|exact bT|exact bF))|apply Zf|apply Zj|with_reducible apply Zk|simp only[↓X3]|with_reducible apply Zb));try(with_reducible apply Zm;case h=>((try simp(disch:=omega)only[X1,Nat.reduceEqDiff,g0,g5,hq]);with_reducible exact rfl)))
      ((repeat(first|((with_reducible first|apply Wp.gs|apply Wp.cs|apply Zc|apply Zg|apply Zd|apply Zi|apply Wp.step);case h=>((try simp(disch:=omega)only[↓reduceIte,Za,↓X0,X1,Nat.reduceEqDiff,Int.reduceEq,Nat.reduceAdd,Nat.reduceSub,g5,k61]);with_reducible first|done|exact rfl|exact bT|exact bF))|apply Zf|apply Zj|with_reducible apply Zk|simp only[↓X3]|with_reducible apply Zb));try(with_reducible apply Zm;case h=>((try simp(disch:=omega)only[X1,Nat.reduceEqDiff,g5,k61]);with_reducible exact rfl)))
      simp(disch:=omega)only[↓reduceIte,Za,↓X0,X1,Nat.reduceEqDiff,Int.reduceEq,Nat.reduceAdd,Nat.reduceSub]
      exact Wp.pure ⟨by simp only; omega,(by intros;first|with_reducible rfl|simp(disch:=omega)only[Ze,Zh,s1,f2]),by simp only [hq',true_and]⟩
     ·have hq':¬ decOf x=Zt w:=fun h=>hq (str_dec.2 h)
      ((repeat(first|((with_reducible first|apply Wp.gs|apply Wp.cs|apply Zc|apply Zg|apply Zd|apply Zi|apply Wp.step);case h=>((try simp(disch:=omega)only[↓reduceIte,Za,↓X0,X1,Nat.reduceEqDiff,Int.reduceEq,Nat.reduceAdd,Nat.reduceSub,X2,Ze,Nat.reduceLeDiff,g0,g5,hq]);with_reducible first|done|exact rfl|exact bT|exact bF))|apply Zf|apply Zj|with_reducible apply Zk|simp only[↓X3]|with_reducible apply Zb));try(with_reducible apply Zm;case h=>((try simp(disch:=omega)only[X1,Nat.reduceEqDiff,g0,g5,hq]);with_reducible exact rfl)))
      simp(disch:=omega)only[↓reduceIte,Za,↓X0,X1,Nat.reduceEqDiff,Int.reduceEq,Nat.reduceAdd,Nat.reduceSub]
      exact Wp.pure ⟨by simp only; omega,(by intros;first|with_reducible rfl|simp(disch:=omega)only[Ze,Zh,s1,f2]),by simp only [hq',false_and]; rfl⟩
    ·have hne':¬ (Zt s).length=(Zt w).length:=by omega
     rw [if_neg hne'] at hnm
     rw [hnm]
     have hw0:IntKind.i64.wrap (0 - numL 0 (Zt s)) = -numL 0 (Zt s):=by rw [w64 (by omega)]; omega
     ((repeat(first|((with_reducible first|apply Wp.gs|apply Wp.cs|apply Zc|apply Zg|apply Zd|apply Zi|apply Wp.step);case h=>((try simp(disch:=omega)only[↓reduceIte,Za,↓X0,X1,Nat.reduceEqDiff,Int.reduceEq,Nat.reduceAdd,Nat.reduceSub,g0,g4,g5,hne,hw0]);with_reducible first|done|exact rfl|exact bT|exact bF))|apply Zf|apply Zj|with_reducible apply Zk|simp only[↓X3]|with_reducible apply Zb));try(with_reducible apply Zm;case h=>((try simp(disch:=omega)only[X1,Nat.reduceEqDiff,g0,g4,g5,hne,hw0]);with_reducible exact rfl)))
     refine Wp.rt (kB120 _ (by omega) _ _) ?_
     intro H1 n1 q1 s1
     generalize -numL 0 (Zt s)=x at *
     by_cases hq:strOf (decOf x)=w
     ·have hq':=str_dec.1 hq
      ((repeat(first|((with_reducible first|apply Wp.gs|apply Wp.cs|apply Zc|apply Zg|apply Zd|apply Zi|apply Wp.step);case h=>((try simp(disch:=omega)only[↓reduceIte,Za,↓X0,X1,Nat.reduceEqDiff,Int.reduceEq,Nat.reduceAdd,Nat.reduceSub,X2,Ze,Nat.reduceLeDiff,g0,g5,hq]);with_reducible first|done|exact rfl|exact bT|exact bF))|apply Zf|apply Zj|with_reducible apply Zk|simp only[↓X3]|with_reducible apply Zb));try(with_reducible apply Zm;case h=>((try simp(disch:=omega)only[X1,Nat.reduceEqDiff,g0,g5,hq]);with_reducible exact rfl)))
      ((repeat(first|((with_reducible first|apply Wp.gs|apply Wp.cs|apply Zc|apply Zg|apply Zd|apply Zi|apply Wp.step);case h=>((try simp(disch:=omega)only[↓reduceIte,Za,↓X0,X1,Nat.reduceEqDiff,Int.reduceEq,Nat.reduceAdd,Nat.reduceSub,g5,k61]);with_reducible first|done|exact rfl|exact bT|exact bF))|apply Zf|apply Zj|with_reducible apply Zk|simp only[↓X3]|with_reducible apply Zb));try(with_reducible apply Zm;case h=>((try simp(disch:=omega)only[X1,Nat.reduceEqDiff,g5,k61]);with_reducible exact rfl)))
      simp(disch:=omega)only[↓reduceIte,Za,↓X0,X1,Nat.reduceEqDiff,Int.reduceEq,Nat.reduceAdd,Nat.reduceSub]
      exact Wp.pure ⟨by simp only; omega,(by intros;first|with_reducible rfl|simp(disch:=omega)only[Ze,Zh,s1,f2]),by simp only [hq',true_and]⟩
     ·have hq':¬ decOf x=Zt w:=fun h=>hq (str_dec.2 h)
      ((repeat(first|((with_reducible first|apply Wp.gs|apply Wp.cs|apply Zc|apply Zg|apply Zd|apply Zi|apply Wp.step);case h=>((try simp(disch:=omega)only[↓reduceIte,Za,↓X0,X1,Nat.reduceEqDiff,Int.reduceEq,Nat.reduceAdd,Nat.reduceSub,X2,Ze,Nat.reduceLeDiff,g0,g5,hq]);with_reducible first|done|exact rfl|exact bT|exact bF))|apply Zf|apply Zj|with_reducible apply Zk|simp only[↓X3]|with_reducible apply Zb));try(with_reducible apply Zm;case h=>((try simp(disch:=omega)only[X1,Nat.reduceEqDiff,g0,g5,hq]);with_reducible exact rfl)))
      simp(disch:=omega)only[↓reduceIte,Za,↓X0,X1,Nat.reduceEqDiff,Int.reduceEq,Nat.reduceAdd,Nat.reduceSub]
      exact Wp.pure ⟨by simp only; omega,(by intros;first|with_reducible rfl|simp(disch:=omega)only[Ze,Zh,s1,f2]),by simp only [hq',false_and]; rfl⟩
   ·rw [numM_nd (w:=Zt w) (by rw [hs]; exact ha)]
    simp(disch:=omega)only[↓reduceIte,Za,↓X0,X1,Nat.reduceEqDiff,Int.reduceEq,Nat.reduceAdd,Nat.reduceSub,g2,g3]
    exact Wp.pure ⟨by simp only; omega,(by intros;first|with_reducible rfl|simp(disch:=omega)only[Ze,Zh,f2]),rfl⟩
  ·have hs:sgnB (Zt w)=Zt w:=by unfold sgnB; rw [if_neg (fun h=>c2 h.2)]
   have hsv:=c1i
   have hse0:=True.intro
   have hsl:=numsOf_length w
   by_cases h10:10 < w.size
   ·have h10i:(10:Int) < w.size:=by omega
    (repeat(first|((with_reducible first|apply Wp.gs|apply Wp.cs|apply Zc|apply Zg|apply Zd|apply Zi|apply Wp.step);case h=>((try simp(disch:=omega)only[↓reduceIte,Za,↓X0,X1,Nat.reduceEqDiff,Int.reduceEq,Nat.reduceAdd,Nat.reduceSub,X2,Ze,Nat.reduceLeDiff,c1i,hix,c2,hsv,h10i]);with_reducible first|done|exact rfl|exact bT|exact bF))|apply Zf|apply Zj|with_reducible apply Zk|simp only[↓X3]|with_reducible apply Zb))
    exact Wp.pure ⟨by simp only; omega,(by intros;first|with_reducible rfl|simp(disch:=omega)only[Ze,Zh]),by rw [numM_no (.inl (by rw [hs]; omega))]⟩
   have h10i:¬ (10:Int) < w.size:=by omega
   by_cases h0:w.size=0
   ·rcases Nat.lt_or_ge 1 w.size with hc | hc
    ·exfalso; omega
    have h0i:(w.size:Int)=0:=by omega
    have h1j:¬ (1:Int) < 0:=by decide
    have h10j:¬ (10:Int) < 0:=by decide
    (repeat(first|((with_reducible first|apply Wp.gs|apply Wp.cs|apply Zc|apply Zg|apply Zd|apply Zi|apply Wp.step);case h=>((try simp(disch:=omega)only[↓reduceIte,Za,↓X0,X1,Nat.reduceEqDiff,Int.reduceEq,Nat.reduceAdd,Nat.reduceSub,X2,Ze,Nat.reduceLeDiff,h0i,h1j,h10j]);with_reducible first|done|exact rfl|exact bT|exact bF))|apply Zf|apply Zj|with_reducible apply Zk|simp only[↓X3]|with_reducible apply Zb))
    exact Wp.pure ⟨by simp only; omega,(by intros;first|with_reducible rfl|simp(disch:=omega)only[Ze,Zh]),by rw [numM_no (.inr (by rw [hs]; omega))]⟩
   have h0i:¬ (w.size:Int)=0:=by omega
   (repeat(first|((with_reducible first|apply Wp.gs|apply Wp.cs|apply Zc|apply Zg|apply Zd|apply Zi|apply Wp.step);case h=>((try simp(disch:=omega)only[↓reduceIte,Za,↓X0,X1,Nat.reduceEqDiff,Int.reduceEq,Nat.reduceAdd,Nat.reduceSub,X2,Ze,Nat.reduceLeDiff,c1i,hix,c2,hsv,h10i,h0i]);with_reducible first|done|exact rfl|exact bT|exact bF))|apply Zf|apply Zj|with_reducible apply Zk|simp only[↓X3]|with_reducible apply Zb))
   refine Wp.bind (l109 w (by omega) _ _ _ (by simp [Zl,Zq,hse0]) (by simp [Zl,Zq]) (by simp [Zl,Zq]) w (by simp [Zl,Zq]) (by simp [Zl,Zq]) (by simp [Zl,Zq])) ?_
   rintro ⟨oe,ot,oH,on⟩ ⟨f1,f2,f3⟩
   simp only at f1 f2 f3
   rcases f3 with ⟨rfl,ha,g0,g4,g5⟩ | ⟨rfl,ha,g2,g3⟩
   ·have hr:=numL_lt (l:=Zt w) (by intro d hd; exact List.all_eq_true.1 ha d hd) (by omega)
    have hnm:=numM_eq (w:=Zt w) (by rw [hs]; omega) (by rw [hs]; exact ha) rfl
    rw [hs] at hnm
    by_cases hne:(w.size:Int)=w.size
    ·have hne':(Zt w).length=(Zt w).length:=by omega
     rw [if_pos hne'] at hnm
     rw [hnm]
     ((repeat(first|((with_reducible first|apply Wp.gs|apply Wp.cs|apply Zc|apply Zg|apply Zd|apply Zi|apply Wp.step);case h=>((try simp(disch:=omega)only[↓reduceIte,Za,↓X0,X1,Nat.reduceEqDiff,Int.reduceEq,Nat.reduceAdd,Nat.reduceSub,g0,g4,g5,hne]);with_reducible first|done|exact rfl|exact bT|exact bF))|apply Zf|apply Zj|with_reducible apply Zk|simp only[↓X3]|with_reducible apply Zb));try(with_reducible apply Zm;case h=>((try simp(disch:=omega)only[X1,Nat.reduceEqDiff,g0,g4,g5,hne]);with_reducible exact rfl)))
     refine Wp.rt (kB120 _ (by omega) _ _) ?_
     intro H1 n1 q1 s1
     generalize numL 0 (Zt w)=x at *
     by_cases hq:strOf (decOf x)=w
     ·have hq':=str_dec.1 hq
      ((repeat(first|((with_reducible first|apply Wp.gs|apply Wp.cs|apply Zc|apply Zg|apply Zd|apply Zi|apply Wp.step);case h=>((try simp(disch:=omega)only[↓reduceIte,Za,↓X0,X1,Nat.reduceEqDiff,Int.reduceEq,Nat.reduceAdd,Nat.reduceSub,X2,Ze,Nat.reduceLeDiff,g0,g5,hq]);with_reducible first|done|exact rfl|exact bT|exact bF))|apply Zf|apply Zj|with_reducible apply Zk|simp only[↓X3]|with_reducible apply Zb));try(with_reducible apply Zm;case h=>((try simp(disch:=omega)only[X1,Nat.reduceEqDiff,g0,g5,hq]);with_reducible exact rfl)))
      ((repeat(first|((with_reducible first|apply Wp.gs|apply Wp.cs|apply Zc|apply Zg|apply Zd|apply Zi|apply Wp.step);case h=>((try simp(disch:=omega)only[↓reduceIte,Za,↓X0,X1,Nat.reduceEqDiff,Int.reduceEq,Nat.reduceAdd,Nat.reduceSub,g5,k61]);with_reducible first|done|exact rfl|exact bT|exact bF))|apply Zf|apply Zj|with_reducible apply Zk|simp only[↓X3]|with_reducible apply Zb));try(with_reducible apply Zm;case h=>((try simp(disch:=omega)only[X1,Nat.reduceEqDiff,g5,k61]);with_reducible exact rfl)))
      simp(disch:=omega)only[↓reduceIte,Za,↓X0,X1,Nat.reduceEqDiff,Int.reduceEq,Nat.reduceAdd,Nat.reduceSub]
      exact Wp.pure ⟨by simp only; omega,(by intros;first|with_reducible rfl|simp(disch:=omega)only[Ze,Zh,s1,f2]),by simp only [hq',true_and]⟩
     ·have hq':¬ decOf x=Zt w:=fun h=>hq (str_dec.2 h)
      ((repeat(first|((with_reducible first|apply Wp.gs|apply Wp.cs|apply Zc|apply Zg|apply Zd|apply Zi|apply Wp.step);case h=>((try simp(disch:=omega)only[↓reduceIte,Za,↓X0,X1,Nat.reduceEqDiff,Int.reduceEq,Nat.reduceAdd,Nat.reduceSub,X2,Ze,Nat.reduceLeDiff,g0,g5,hq]);with_reducible first|done|exact rfl|exact bT|exact bF))|apply Zf|apply Zj|with_reducible apply Zk|simp only[↓X3]|with_reducible apply Zb));try(with_reducible apply Zm;case h=>((try simp(disch:=omega)only[X1,Nat.reduceEqDiff,g0,g5,hq]);with_reducible exact rfl)))
      simp(disch:=omega)only[↓reduceIte,Za,↓X0,X1,Nat.reduceEqDiff,Int.reduceEq,Nat.reduceAdd,Nat.reduceSub]
      exact Wp.pure ⟨by simp only; omega,(by intros;first|with_reducible rfl|simp(disch:=omega)only[Ze,Zh,s1,f2]),by simp only [hq',false_and]; rfl⟩
    ·exact absurd rfl hne
   ·rw [numM_nd (w:=Zt w) (by rw [hs]; exact ha)]
    simp(disch:=omega)only[↓reduceIte,Za,↓X0,X1,Nat.reduceEqDiff,Int.reduceEq,Nat.reduceAdd,Nat.reduceSub,g2,g3]
    exact Wp.pure ⟨by simp only; omega,(by intros;first|with_reducible rfl|simp(disch:=omega)only[Ze,Zh,f2]),rfl⟩
 ·have c1i:¬ (1:Int) < w.size:=by omega
  have hs:sgnB (Zt w)=Zt w:=by unfold sgnB; rw [if_neg (fun h=>c1 (by omega))]
  have hsv:=c1i
  have hix:=c1i
  have c2:=c1i
  have hse0:=True.intro
  have hsl:=numsOf_length w
  by_cases h10:10 < w.size
  ·have h10i:(10:Int) < w.size:=by omega
   (repeat(first|((with_reducible first|apply Wp.gs|apply Wp.cs|apply Zc|apply Zg|apply Zd|apply Zi|apply Wp.step);case h=>((try simp(disch:=omega)only[↓reduceIte,Za,↓X0,X1,Nat.reduceEqDiff,Int.reduceEq,Nat.reduceAdd,Nat.reduceSub,X2,Ze,Nat.reduceLeDiff,c1i,hix,c2,hsv,h10i]);with_reducible first|done|exact rfl|exact bT|exact bF))|apply Zf|apply Zj|with_reducible apply Zk|simp only[↓X3]|with_reducible apply Zb))
   exact Wp.pure ⟨by simp only; omega,(by intros;first|with_reducible rfl|simp(disch:=omega)only[Ze,Zh]),by rw [numM_no (.inl (by rw [hs]; omega))]⟩
  have h10i:¬ (10:Int) < w.size:=by omega
  by_cases h0:w.size=0
  ·rcases Nat.lt_or_ge 1 w.size with hc | hc
   ·exfalso; omega
   have h0i:(w.size:Int)=0:=by omega
   have h1j:¬ (1:Int) < 0:=by decide
   have h10j:¬ (10:Int) < 0:=by decide
   (repeat(first|((with_reducible first|apply Wp.gs|apply Wp.cs|apply Zc|apply Zg|apply Zd|apply Zi|apply Wp.step);case h=>((try simp(disch:=omega)only[↓reduceIte,Za,↓X0,X1,Nat.reduceEqDiff,Int.reduceEq,Nat.reduceAdd,Nat.reduceSub,X2,Ze,Nat.reduceLeDiff,h0i,h1j,h10j]);with_reducible first|done|exact rfl|exact bT|exact bF))|apply Zf|apply Zj|with_reducible apply Zk|simp only[↓X3]|with_reducible apply Zb))
   exact Wp.pure ⟨by simp only; omega,(by intros;first|with_reducible rfl|simp(disch:=omega)only[Ze,Zh]),by rw [numM_no (.inr (by rw [hs]; omega))]⟩
  have h0i:¬ (w.size:Int)=0:=by omega
  (repeat(first|((with_reducible first|apply Wp.gs|apply Wp.cs|apply Zc|apply Zg|apply Zd|apply Zi|apply Wp.step);case h=>((try simp(disch:=omega)only[↓reduceIte,Za,↓X0,X1,Nat.reduceEqDiff,Int.reduceEq,Nat.reduceAdd,Nat.reduceSub,X2,Ze,Nat.reduceLeDiff,c1i,hix,c2,hsv,h10i,h0i]);with_reducible first|done|exact rfl|exact bT|exact bF))|apply Zf|apply Zj|with_reducible apply Zk|simp only[↓X3]|with_reducible apply Zb))
  refine Wp.bind (l109 w (by omega) _ _ _ (by simp [Zl,Zq,hse0]) (by simp [Zl,Zq]) (by simp [Zl,Zq]) w (by simp [Zl,Zq]) (by simp [Zl,Zq]) (by simp [Zl,Zq])) ?_
  rintro ⟨oe,ot,oH,on⟩ ⟨f1,f2,f3⟩
  simp only at f1 f2 f3
  rcases f3 with ⟨rfl,ha,g0,g4,g5⟩ | ⟨rfl,ha,g2,g3⟩
  ·have hr:=numL_lt (l:=Zt w) (by intro d hd; exact List.all_eq_true.1 ha d hd) (by omega)
   have hnm:=numM_eq (w:=Zt w) (by rw [hs]; omega) (by rw [hs]; exact ha) rfl
   rw [hs] at hnm
   by_cases hne:(w.size:Int)=w.size
   ·have hne':(Zt w).length=(Zt w).length:=by omega
    rw [if_pos hne'] at hnm
    rw [hnm]
    ((repeat(first|((with_reducible first|apply Wp.gs|apply Wp.cs|apply Zc|apply Zg|apply Zd|apply Zi|apply Wp.step);case h=>((try simp(disch:=omega)only[↓reduceIte,Za,↓X0,X1,Nat.reduceEqDiff,Int.reduceEq,Nat.reduceAdd,Nat.reduceSub,g0,g4,g5,hne]);with_reducible first|done|exact rfl|exact bT|exact bF))|apply Zf|apply Zj|with_reducible apply Zk|simp only[↓X3]|with_reducible apply Zb));try(with_reducible apply Zm;case h=>((try simp(disch:=omega)only[X1,Nat.reduceEqDiff,g0,g4,g5,hne]);with_reducible exact rfl)))
    refine Wp.rt (kB120 _ (by omega) _ _) ?_
    intro H1 n1 q1 s1
    generalize numL 0 (Zt w)=x at *
    by_cases hq:strOf (decOf x)=w
    ·have hq':=str_dec.1 hq
     ((repeat(first|((with_reducible first|apply Wp.gs|apply Wp.cs|apply Zc|apply Zg|apply Zd|apply Zi|apply Wp.step);case h=>((try simp(disch:=omega)only[↓reduceIte,Za,↓X0,X1,Nat.reduceEqDiff,Int.reduceEq,Nat.reduceAdd,Nat.reduceSub,X2,Ze,Nat.reduceLeDiff,g0,g5,hq]);with_reducible first|done|exact rfl|exact bT|exact bF))|apply Zf|apply Zj|with_reducible apply Zk|simp only[↓X3]|with_reducible apply Zb));try(with_reducible apply Zm;case h=>((try simp(disch:=omega)only[X1,Nat.reduceEqDiff,g0,g5,hq]);with_reducible exact rfl)))
     ((repeat(first|((with_reducible first|apply Wp.gs|apply Wp.cs|apply Zc|apply Zg|apply Zd|apply Zi|apply Wp.step);case h=>((try simp(disch:=omega)only[↓reduceIte,Za,↓X0,X1,Nat.reduceEqDiff,Int.reduceEq,Nat.reduceAdd,Nat.reduceSub,g5,k61]);with_reducible first|done|exact rfl|exact bT|exact bF))|apply Zf|apply Zj|with_reducible apply Zk|simp only[↓X3]|with_reducible apply Zb));try(with_reducible apply Zm;case h=>((try simp(disch:=omega)only[X1,Nat.reduceEqDiff,g5,k61]);with_reducible exact rfl)))
     simp(disch:=omega)only[↓reduceIte,Za,↓X0,X1,Nat.reduceEqDiff,Int.reduceEq,Nat.reduceAdd,Nat.reduceSub]
     exact Wp.pure ⟨by simp only; omega,(by intros;first|with_reducible rfl|simp(disch:=omega)only[Ze,Zh,s1,f2]),by simp only [hq',true_and]⟩
    ·have hq':¬ decOf x=Zt w:=fun h=>hq (str_dec.2 h)
     ((repeat(first|((with_reducible first|apply Wp.gs|apply Wp.cs|apply Zc|apply Zg|apply Zd|apply Zi|apply Wp.step);case h=>((try simp(disch:=omega)only[↓reduceIte,Za,↓X0,X1,Nat.reduceEqDiff,Int.reduceEq,Nat.reduceAdd,Nat.reduceSub,X2,Ze,Nat.reduceLeDiff,g0,g5,hq]);with_reducible first|done|exact rfl|exact bT|exact bF))|apply Zf|apply Zj|with_reducible apply Zk|simp only[↓X3]|with_reducible apply Zb));try(with_reducible apply Zm;case h=>((try simp(disch:=omega)only[X1,Nat.reduceEqDiff,g0,g5,hq]);with_reducible exact rfl)))
     simp(disch:=omega)only[↓reduceIte,Za,↓X0,X1,Nat.reduceEqDiff,Int.reduceEq,Nat.reduceAdd,Nat.reduceSub]
     exact Wp.pure ⟨by simp only; omega,(by intros;first|with_reducible rfl|simp(disch:=omega)only[Ze,Zh,s1,f2]),by simp only [hq',false_and]; rfl⟩
   ·exact absurd rfl hne
  ·rw [numM_nd (w:=Zt w) (by rw [hs]; exact ha)]
   simp(disch:=omega)only[↓reduceIte,Za,↓X0,X1,Nat.reduceEqDiff,Int.reduceEq,Nat.reduceAdd,Nat.reduceSub,g2,g3]
   exact Wp.pure ⟨by simp only; omega,(by intros;first|with_reducible rfl|simp(disch:=omega)only[Ze,Zh,f2]),rfl⟩
end Go.Proofs.Ytbgkimkbngocjaa.Ax
set_option linter.unusedVariables false
set_option linter.unusedSimpArgs false
set_option maxHeartbeats 4000000
namespace Go.Proofs.Ytbgkimkbngocjaa.Ax
open Go
def wTrue:ByteArray:=⟨#[35,116]⟩
def wFalse:ByteArray:=⟨#[35,102]⟩
def wordN (w:ByteArray):Nd × Bool :=
 if w=wTrue then (⟨2,1,⟨#[]⟩,0,0⟩,true)
 else if w=wFalse then (⟨2,0,⟨#[]⟩,0,0⟩,true)
 else if (numM (Zt w)).2=true then (⟨3,(numM (Zt w)).1,⟨#[]⟩,0,0⟩,true)
 else (⟨4,0,w,0,0⟩,nameOk w)
theorem k82 (w:ByteArray) (hw:w.size≤1048576) (H:Hp) (n:Nat):Rt Try.prog 82 [.string w] H n (.tuple ⟨[.agg ⟨(wordN w).1.cells⟩,.bool (wordN w).2]⟩):=by
 apply Rt.mk
 rw [c82]; unfold S82 wordN
 rw [show (⟨#[35,116]⟩:ByteArray)=wTrue from rfl,show (⟨#[35,102]⟩:ByteArray)=wFalse from rfl]
 by_cases h1:w=wTrue
 ·(repeat(first|((with_reducible first|apply Wp.gs|apply Wp.cs|apply Zc|apply Zg|apply Zd|apply Zi|apply Wp.step);case h=>((try simp(disch:=omega)only[↓reduceIte,Za,↓X0,X1,Nat.reduceEqDiff,Int.reduceEq,Nat.reduceAdd,Nat.reduceSub,X2,Ze,Nat.reduceLeDiff,h1]);with_reducible first|done|exact rfl|exact bT|exact bF))|apply Zf|apply Zj|with_reducible apply Zk|simp only[↓X3]|with_reducible apply Zb))
  exact Wp.pure ⟨by simp only; omega,(by intros;first|with_reducible rfl|simp(disch:=omega)only[Ze,Zh]),by simp only [h1,if_true]; rfl⟩
 by_cases h2:w=wFalse
 ·(repeat(first|((with_reducible first|apply Wp.gs|apply Wp.cs|apply Zc|apply Zg|apply Zd|apply Zi|apply Wp.step);case h=>((try simp(disch:=omega)only[↓reduceIte,Za,↓X0,X1,Nat.reduceEqDiff,Int.reduceEq,Nat.reduceAdd,Nat.reduceSub,X2,Ze,Nat.reduceLeDiff,h1,h2,show ¬ wFalse=wTrue by decide]);with_reducible first|done|exact rfl|exact bT|exact bF))|apply Zf|apply Zj|with_reducible apply Zk|simp only[↓X3]|with_reducible apply Zb))
  exact Wp.pure ⟨by simp only; omega,(by intros;first|with_reducible rfl|simp(disch:=omega)only[Ze,Zh]),by simp only [h2,show ¬ wFalse=wTrue by decide,if_true,if_false]; rfl⟩
 ((repeat(first|((with_reducible first|apply Wp.gs|apply Wp.cs|apply Zc|apply Zg|apply Zd|apply Zi|apply Wp.step);case h=>((try simp(disch:=omega)only[↓reduceIte,Za,↓X0,X1,Nat.reduceEqDiff,Int.reduceEq,Nat.reduceAdd,Nat.reduceSub,X2,Ze,Nat.reduceLeDiff,h1,h2]);with_reducible first|done|exact rfl|exact bT|exact bF))|apply Zf|apply Zj|with_reducible apply Zk|simp only[↓X3]|with_reducible apply Zb));try(with_reducible apply Zm;case h=>((try simp(disch:=omega)only[X1,Nat.reduceEqDiff,h1,h2]);with_reducible exact rfl)))
 refine Wp.rt (k109 w hw _ _) ?_
 intro H1 n1 q1 s1
 rw [if_neg h1,if_neg h2]
 by_cases h3:(numM (Zt w)).2=true
 ·(repeat(first|((with_reducible first|apply Wp.gs|apply Wp.cs|apply Zc|apply Zg|apply Zd|apply Zi|apply Wp.step);case h=>((try simp(disch:=omega)only[↓reduceIte,Za,↓X0,X1,Nat.reduceEqDiff,Int.reduceEq,Nat.reduceAdd,Nat.reduceSub,X2,Ze,Nat.reduceLeDiff,h3,s1]);with_reducible first|done|exact rfl|exact bT|exact bF))|apply Zf|apply Zj|with_reducible apply Zk|simp only[↓X3]|with_reducible apply Zb))
  exact Wp.pure ⟨by simp only; omega,(by intros;first|with_reducible rfl|simp(disch:=omega)only[Ze,Zh,s1]),by rw [if_pos h3]; rfl⟩
 ·have h3':(numM (Zt w)).2=false:=by simpa using h3
  ((repeat(first|((with_reducible first|apply Wp.gs|apply Wp.cs|apply Zc|apply Zg|apply Zd|apply Zi|apply Wp.step);case h=>((try simp(disch:=omega)only[↓reduceIte,Za,↓X0,X1,Nat.reduceEqDiff,Int.reduceEq,Nat.reduceAdd,Nat.reduceSub,X2,Ze,Nat.reduceLeDiff,h3',s1]);with_reducible first|done|exact rfl|exact bT|exact bF))|apply Zf|apply Zj|with_reducible apply Zk|simp only[↓X3]|with_reducible apply Zb));try(with_reducible apply Zm;case h=>((try simp(disch:=omega)only[X1,Nat.reduceEqDiff,h3',s1]);with_reducible exact rfl)))
  refine Wp.rt (sNameOk w hw _ _) ?_
  intro H2 n2 q2 s2
  (repeat(first|((with_reducible first|apply Wp.gs|apply Wp.cs|apply Zc|apply Zg|apply Zd|apply Zi|apply Wp.step);case h=>((try simp(disch:=omega)only[↓reduceIte,Za,↓X0,X1,Nat.reduceEqDiff,Int.reduceEq,Nat.reduceAdd,Nat.reduceSub,X2,Ze,Nat.reduceLeDiff,s1,s2]);with_reducible first|done|exact rfl|exact bT|exact bF))|apply Zf|apply Zj|with_reducible apply Zk|simp only[↓X3]|with_reducible apply Zb))
  exact Wp.pure ⟨by simp only; omega,(by intros;first|with_reducible rfl|simp(disch:=omega)only[Ze,Zh,s1,s2]),by rw [if_neg h3]; rfl⟩
end Go.Proofs.Ytbgkimkbngocjaa.Ax
set_option linter.unusedVariables false
set_option linter.unusedSimpArgs false
set_option maxHeartbeats 4000000
namespace Go.Proofs.Ytbgkimkbngocjaa.Ax
open Go
structure RS where
 at_:Nat
 stk:List (Int × List Int)
 out:List Nd
def wlen (bs:List Int) (j:Nat):Nat:=((bs.drop j).takeWhile wordB).length
theorem wlen_yes {bs:List Int} {j:Nat} (h:j < bs.length) (hb:wordB bs[j]=true):wlen bs j=wlen bs (j+1)+1:=by
 unfold wlen
 rw [List.drop_eq_getElem_cons h,List.takeWhile_cons_of_pos hb,List.length_cons]
theorem wlen_no {bs:List Int} {j:Nat} (h:j < bs.length) (hb:¬ wordB bs[j]=true):wlen bs j=0:=by
 unfold wlen
 rw [List.drop_eq_getElem_cons h,List.takeWhile_cons_of_neg hb]; rfl
theorem wlen_end {bs:List Int} {j:Nat} (h:bs.length≤j):wlen bs j=0:=by
 unfold wlen
 rw [List.drop_eq_nil_of_le h]; rfl
theorem wlen_le (bs:List Int) (j:Nat):wlen bs j≤bs.length - j:=by
 unfold wlen
 have:=List.Sublist.length_le (List.takeWhile_sublist wordB (l:=bs.drop j))
 rw [List.length_drop] at this
 exact this
def rdStep (w:ByteArray) (s:RS):Except (Int × Int) RS :=
 let b:=(Zt w).getD s.at_ 0
 if b=32 then .ok ⟨s.at_+1,s.stk,s.out⟩
 else if b=40 then .ok ⟨s.at_+1,((s.at_:Int),[]) :: s.stk,s.out⟩
 else if b=41 then
  match s.stk with
  | f :: g :: r=>.ok ⟨s.at_+1,(g.1,g.2++[(s.out.length:Int)+f.2.length]) :: r,s.out++lNodes s.out.length f.2⟩
  | _=>.error (5,s.at_)
 else if wordB b=true then
  if (wordN (w.extract s.at_ (s.at_+wlen (Zt w) s.at_))).2=true then
   match s.stk with
   | f :: r=>.ok ⟨s.at_+wlen (Zt w) s.at_,(f.1,f.2++[(s.out.length:Int)]) :: r,s.out++[(wordN (w.extract s.at_ (s.at_+wlen (Zt w) s.at_))).1]⟩
   | _=>.error (0,0)
  else .error (3,s.at_)
 else .error (2,s.at_)
def rdRun (w:ByteArray):Nat→RS→Except (Int × Int) RS
 | 0,s=>.ok s
 | k+1,s=>if s.at_ < w.size then (match rdStep w s with
  | .ok s'=>rdRun w k s'
  | .error r=>.error r) else .ok s
def rs0:RS:=⟨0,[(0,[])],[]⟩
theorem rdRun_end {w:ByteArray} {k:Nat} {s:RS} (h:¬ s.at_ < w.size):rdRun w k s=.ok s:=by
 cases k with
 | zero=>rfl
 | succ k=>rw [rdRun,if_neg h]
theorem rdRun_ok {w:ByteArray} {k:Nat} {s s':RS} (h:s.at_ < w.size) (h2:rdStep w s=.ok s'):rdRun w (k+1) s=rdRun w k s':=by rw [rdRun,if_pos h,h2]
theorem rdRun_err {w:ByteArray} {k:Nat} {s:RS} {r:Int × Int} (h:s.at_ < w.size) (h2:rdStep w s=.error r):rdRun w (k+1) s=.error r:=by rw [rdRun,if_pos h,h2]
structure RFr where
 p:Int
 xs:List Int
 v:Value
 id:Nat
def RFr.m (f:RFr):Int × List Int:=(f.p,f.xs)
def frc (f:RFr):List Value:=[.int .i64 f.p,f.v]
def rows (G:List RFr):List Value:=G.reverse.flatMap frc
theorem rows_cons (f:RFr) (G:List RFr):rows (f :: G)=rows G++[.int .i64 f.p,f.v]:=by simp [rows,frc]
theorem rows_len:∀ G:List RFr,(rows G).length=G.length * 2
 | []=>rfl
 | f :: G=>by rw [rows_cons,List.length_append,rows_len G]; simp; omega
theorem mid_ld {H:Hp} {oid k:Nat} {A R:List Value} {x y:Value} {e:Nat} (h:H oid=some (.row (A++(x :: y :: R)) e true)) (hA:A.length=k * 2) (f:Nat) (hf:f=0∨f=1):ld false 1 (ptr oid (k * 2+f)) H=some (if f=0 then x else y):=by
 rw [ld_r,h,rowGet_row,← hA]
 rcases hf with rfl | rfl
 ·simp
 ·simp [List.getElem?_append_right]
theorem mid_st {H:Hp} {oid k:Nat} {A R:List Value} {x y y':Value} {e:Nat} (h:H oid=some (.row (A++(x :: y :: R)) e true)) (hA:A.length=k * 2) (hy:cell1 y'=true):st false 1 (ptr oid (k * 2+1)) y' H=some (H.set oid (some (.row (A++(x :: y' :: R)) e true))):=by
 rw [st_c hy,stv_box h,← hA,setAt_right,if_pos (by simp; omega)]
 rfl
theorem slice_pre (i k m:Nat) (hm:0 < m) (hk:m≤k):sliceV 2 (sl i 0 k) none (some (.int .i64 (m:Int)))=some (sl i 0 m):=by
 simp [sliceV,bnd,hk,Nat.ne_of_lt hm]
theorem Wp.papp {oid id1 id2 k:Nat} {H:Hp} {cs:List Value} {a b:Value} {β:Type} {g:Value × Hp→Option β} {Q:β→Prop} (h:H oid=some (.row cs 2 true)) (hk:k * 2≤cs.length) (hne:oid≠id1) (hb:k≤1000)
  (kk:∀ H',H' id2=some (.row (cs.take (k * 2)++[a,b]) 2 true)→(∀ i,i≠oid→i≠id1→i≠id2→H' i=H i)→Wp (g (sl id2 0 (k+1),H')) Q):Wp ((app id2 2 32 (sl oid 0 k) (sl id1 0 1) (H.set id1 (some (.row [a,b] 2 true)))).bind g) Q:=by
 have e:app id2 2 32 (sl oid 0 k) (sl id1 0 1) (H.set id1 (some (.row [a,b] 2 true)))=some (sl id2 0 (k+1),((H.set id1 (some (.row [a,b] 2 true))).set oid none).set id2 (some (.row (cs.take (k * 2)++[a,b]) 2 true))):=by
  simp (disch:=omega) [app,src,Zh,Ze,h,hk]
  omega
 rw [e]
 exact kk _ (Zh _ _ _) (fun i h1 h2 h3=>by rw [Ze _ _ h3,Ze _ _ h1,Ze _ _ h2])
structure RdI (H0:Hp) (c:Nat) (s:RS) (f:RFr) (G:List RFr) (oid pid:Nat) (J:List Value) (u:Value) (H:Hp) (n:Nat):Prop where
 es:s.stk=(f :: G).map RFr.m
 row:H oid=some (.row (rows G++(.int .i64 f.p :: f.v :: J)) 2 true)
 fr:∀ g∈f :: G,At eInt g.id H g.v g.xs∧c < g.id∧g.id < n∧g.id≠oid∧g.id≠pid
 nd:((f :: G).map RFr.id).Nodup
 pc:PC c 0 pid n H [u] 0 u s.out
 o1:c < oid
 o2:oid < n
 o3:oid≠pid
 p1:c < pid
 low:∀ i,i < c→H i=H0 i
structure RdT (w:ByteArray) (n0 c k oid a:Nat) (T:Tm):Prop where
 t1:T 1=.string w
 t2:T 2=ptr n0 0
 t4:T 4=ptr (n0+1) 0
 t8:T 8=sl (n0+5) 0 0
 t9:T 9=ptr c 0
 t10:T 10=sl oid 0 (k+1)
 t11:T 11=.int .i64 (a:Int)
theorem RdI.up {H0:Hp} {c:Nat} {s s':RS} {f:RFr} {G:List RFr} {oid pid:Nat} {J:List Value} {u:Value} {H:Hp} {n m:Nat} (h:RdI H0 c s f G oid pid J u H n) (hm:n≤m) (hs:s'.stk=s.stk) (ho:s'.out=s.out):RdI H0 c s' f G oid pid J u H m :=
 ⟨by rw [hs]; exact h.es,h.row,fun g hg=>⟨(h.fr g hg).1,(h.fr g hg).2.1,by have:=(h.fr g hg).2.2.1; omega,(h.fr g hg).2.2.2⟩,h.nd,by rw [ho]; exact h.pc.mv hm rfl rfl,h.o1,by have:=h.o2; omega,h.o3,h.p1,h.low⟩
structure RdB (w:ByteArray) (s:RS):Prop where
 b0:s.at_≤w.size
 b1:s.out.length≤402 * s.at_
 b2:∀ f∈s.stk,f.2.length≤s.at_
 b3:s.stk.length≤s.at_+1
 b4:∀ x∈s.out,x.s.size≤400
theorem l371 (w:ByteArray) (hw:w.size≤400) {T0:Tm} {H0:Hp} {n0 j0:Nat} (h1:T0 1=.string w) (h11:T0 11=.int .i64 (j0:Int)) (hj:j0≤w.size):Wp (Yf (S37L1 (Call Try.prog) Yf) T0 H0 n0) (fun o=>n0≤o.n∧(∀ i,i < n0→o.H i=H0 i)∧o.e=.exit 4∧o.t 11=.int .i64 ((j0+wlen (Zt w) j0:Nat):Int)∧∀ k∈[1,2,4,8,9,10,12,15],o.t k=T0 k):=by
 have hlen:=numsOf_length w
 refine Loop_rule (fun d T H n=>∃ j:Nat,j+d=w.size∧j+wlen (Zt w) j=j0+wlen (Zt w) j0∧n0≤n∧(∀ i,i < n0→H i=H0 i)∧T 11=.int .i64 (j:Int)∧∀ k∈[1,2,4,8,9,10,12,15],T k=T0 k) _ ?_ (w.size - j0) T0 H0 n0 ⟨j0,by omega,rfl,by omega,fun _ _=>rfl,h11,fun _ _=>rfl⟩
 rintro d T H n ⟨j,hjd,hjw,hn,s0,e11,ek⟩
 unfold S37L1
 have e1:T 1=.string w:=by rw [ek 1 (by simp)]; exact h1
 by_cases hlt:j < w.size
 ·have hlti:(j:Int) < w.size:=by omega
  have hix:=idx_nums (k:=.i64) hlt
  by_cases hb:wordB ((Zt w)[j]'(by omega))=true
  ·have w1:=wn (j:=j) (by omega)
   ((repeat(first|((with_reducible first|apply Wp.gs|apply Wp.cs|apply Zc|apply Zg|apply Zd|apply Zi|apply Zn|apply Wp.step);case h=>((try simp(disch:=omega)only[↓reduceIte,Za,↓X0,X1,Nat.reduceEqDiff,Int.reduceEq,Nat.reduceAdd,Nat.reduceSub,e1,e11,hlti,hix]);with_reducible first|done|exact rfl|exact bT|exact bF))|apply Zf|apply Zj|with_reducible apply Zk|simp only[↓X3]|with_reducible apply Zb));try(with_reducible apply Zm;case h=>((try simp(disch:=omega)only[X1,Nat.reduceEqDiff,e1,e11,hlti,hix]);with_reducible exact rfl)))
   refine Wp.rt (k81 _ _ _) ?_
   intro H1 n1 q1 s1
   (repeat(first|((with_reducible first|apply Wp.gs|apply Wp.cs|apply Zc|apply Zg|apply Zd|apply Zi|apply Zn|apply Wp.step);case h=>((try simp(disch:=omega)only[↓reduceIte,Za,↓X0,X1,Nat.reduceEqDiff,Int.reduceEq,Nat.reduceAdd,Nat.reduceSub,hb,e11,w1]);with_reducible first|done|exact rfl|exact bT|exact bF))|apply Zf|apply Zj|with_reducible apply Zk|simp only[↓X3]|with_reducible apply Zb))
   refine Wp.pure (Nxt.go (d - 1) (by omega) ⟨j+1,by omega,?_,by omega,(by intros;first|with_reducible rfl|simp(disch:=omega)only[Ze,Zh,s1,s0]),by simp [Zl],?_⟩)
   ·rw [wlen_yes (by omega) hb] at hjw; omega
   ·intro k hk
    rw [← ek k hk]
    simp only [List.mem_cons,List.not_mem_nil,or_false] at hk
    rcases hk with rfl | rfl | rfl | rfl | rfl | rfl | rfl | rfl <;> simp [Zl]
  ·have hb':wordB ((Zt w)[j]'(by omega))=false:=by simpa using hb
   ((repeat(first|((with_reducible first|apply Wp.gs|apply Wp.cs|apply Zc|apply Zg|apply Zd|apply Zi|apply Zn|apply Wp.step);case h=>((try simp(disch:=omega)only[↓reduceIte,Za,↓X0,X1,Nat.reduceEqDiff,Int.reduceEq,Nat.reduceAdd,Nat.reduceSub,e1,e11,hlti,hix]);with_reducible first|done|exact rfl|exact bT|exact bF))|apply Zf|apply Zj|with_reducible apply Zk|simp only[↓X3]|with_reducible apply Zb));try(with_reducible apply Zm;case h=>((try simp(disch:=omega)only[X1,Nat.reduceEqDiff,e1,e11,hlti,hix]);with_reducible exact rfl)))
   refine Wp.rt (k81 _ _ _) ?_
   intro H1 n1 q1 s1
   (repeat(first|((with_reducible first|apply Wp.gs|apply Wp.cs|apply Zc|apply Zg|apply Zd|apply Zi|apply Zn|apply Wp.step);case h=>((try simp(disch:=omega)only[↓reduceIte,Za,↓X0,X1,Nat.reduceEqDiff,Int.reduceEq,Nat.reduceAdd,Nat.reduceSub,hb']);with_reducible first|done|exact rfl|exact bT|exact bF))|apply Zf|apply Zj|with_reducible apply Zk|simp only[↓X3]|with_reducible apply Zb))
   refine Wp.pure (Nxt.exit ⟨by simp only; omega,(by intros;first|with_reducible rfl|simp(disch:=omega)only[Ze,Zh,s1,s0]),rfl,?_,?_⟩)
   ·rw [wlen_no (by omega) hb] at hjw
    simp [Zl,e11]; omega
   ·intro k hk
    rw [← ek k hk]
    simp only [List.mem_cons,List.not_mem_nil,or_false] at hk
    rcases hk with rfl | rfl | rfl | rfl | rfl | rfl | rfl | rfl <;> simp [Zl]
 ·have hlti:¬ (j:Int) < w.size:=by omega
  (repeat(first|((with_reducible first|apply Wp.gs|apply Wp.cs|apply Zc|apply Zg|apply Zd|apply Zi|apply Zn|apply Wp.step);case h=>((try simp(disch:=omega)only[↓reduceIte,Za,↓X0,X1,Nat.reduceEqDiff,Int.reduceEq,Nat.reduceAdd,Nat.reduceSub,e1,e11,hlti]);with_reducible first|done|exact rfl|exact bT|exact bF))|apply Zf|apply Zj|with_reducible apply Zk|simp only[↓X3]|with_reducible apply Zb))
  refine Wp.pure (Nxt.exit ⟨by simp only; omega,s0,rfl,?_,?_⟩)
  ·rw [wlen_end (by omega)] at hjw
   simp [Zl,e11]; omega
  ·intro k hk
   rw [← ek k hk]
   simp only [List.mem_cons,List.not_mem_nil,or_false] at hk
   rcases hk with rfl | rfl | rfl | rfl | rfl | rfl | rfl | rfl <;> simp [Zl]
end Go.Proofs.Ytbgkimkbngocjaa.Ax
set_option linter.unusedVariables false
set_option linter.unusedSimpArgs false
set_option maxHeartbeats 4000000
namespace Go.Proofs.Ytbgkimkbngocjaa.Ax
open Go
theorem rd_sp {w:ByteArray} {s:RS} {b:Int} (h:(Zt w).getD s.at_ 0=b) (h1:b=32):rdStep w s=.ok ⟨s.at_+1,s.stk,s.out⟩:=by unfold rdStep; simp only [h,h1]; rfl
theorem rd_op {w:ByteArray} {s:RS} {b:Int} (h:(Zt w).getD s.at_ 0=b) (h1:b=40):rdStep w s=.ok ⟨s.at_+1,((s.at_:Int),[]) :: s.stk,s.out⟩:=by unfold rdStep; simp only [h,h1]; rfl
theorem rd_cl {w:ByteArray} {s:RS} {b:Int} (h:(Zt w).getD s.at_ 0=b) (h1:b=41) {f g:Int × List Int} {r:List (Int × List Int)} (hs:s.stk=f :: g :: r):rdStep w s=.ok ⟨s.at_+1,(g.1,g.2++[(s.out.length:Int)+f.2.length]) :: r,s.out++lNodes s.out.length f.2⟩:=by unfold rdStep; simp only [h,h1,hs]; rfl
theorem rd_cl1 {w:ByteArray} {s:RS} {b:Int} (h:(Zt w).getD s.at_ 0=b) (h1:b=41) {f:Int × List Int} (hs:s.stk=[f]):rdStep w s=.error (5,s.at_):=by unfold rdStep; simp only [h,h1,hs]; rfl
theorem rd_wd {w:ByteArray} {s:RS} {b:Int} (h:(Zt w).getD s.at_ 0=b) (h1:¬ b=32) (h2:¬ b=40) (h3:¬ b=41) (h4:wordB b=true) {e:Nat} (he:e=s.at_+wlen (Zt w) s.at_) (h5:(wordN (w.extract s.at_ e)).2=true) {f:Int × List Int} {r:List (Int × List Int)} (hs:s.stk=f :: r):rdStep w s=.ok ⟨e,(f.1,f.2++[(s.out.length:Int)]) :: r,s.out++[(wordN (w.extract s.at_ e)).1]⟩:=by
 subst he
 unfold rdStep; simp only [h,hs]; rw [if_neg h1,if_neg h2,if_neg h3,if_pos h4,if_pos h5]
theorem rd_wn {w:ByteArray} {s:RS} {b:Int} (h:(Zt w).getD s.at_ 0=b) (h1:¬ b=32) (h2:¬ b=40) (h3:¬ b=41) (h4:wordB b=true) {e:Nat} (he:e=s.at_+wlen (Zt w) s.at_) (h5:¬ (wordN (w.extract s.at_ e)).2=true):rdStep w s=.error (3,s.at_):=by
 subst he
 unfold rdStep; simp only [h]; rw [if_neg h1,if_neg h2,if_neg h3,if_pos h4,if_neg h5]
theorem rd_no {w:ByteArray} {s:RS} {b:Int} (h:(Zt w).getD s.at_ 0=b) (h1:¬ b=32) (h2:¬ b=40) (h3:¬ b=41) (h4:¬ wordB b=true):rdStep w s=.error (2,s.at_):=by
 unfold rdStep; simp only [h]; rw [if_neg h1,if_neg h2,if_neg h3,if_neg h4]
theorem bsl_f (id:Nat) (a b:Value) (H:Hp):bsl id 2 1 [.int .i64 0,nilS] [(0,2,.agg ⟨[a,b]⟩)] H=some (sl id 0 1,H.set id (some (.row [a,b] 2 true))):=by simp [bsl,fill,vcells,setAt]
theorem rows_take (f:RFr) (G:List RFr) (J:List Value) {k:Nat} (hk:k=G.length):(rows G++(.int .i64 f.p :: f.v :: J)).take ((k+1) * 2)=rows (f :: G):=by
 subst hk
 rw [rows_cons,List.take_append,List.take_of_length_le (by rw [rows_len]; omega),rows_len,show (G.length+1) * 2 - G.length * 2=2 by omega]
 rfl
theorem wordN_sz (w:ByteArray) (h:w.size≤400):(wordN w).1.s.size≤400:=by
 unfold wordN
 repeat' split
 ·exact Nat.zero_le _
 ·exact Nat.zero_le _
 ·exact Nat.zero_le _
 ·exact h
theorem ext_sz (w:ByteArray) (a b:Nat):(w.extract a b).size≤w.size:=by
 rw [ByteArray.size_extract]; omega
def RdRet (H0:Hp) (n0 c:Nat) (o:Out) (h a:Int):Prop:=o.e=.ret∧(∀ i,i < c→i≠n0+1→o.H i=H0 i)∧o.t 5=sl (n0+5) 0 0∧o.t 6=.int .i64 h∧o.t 7=.int .i64 a∧o.t 4=ptr (n0+1) 0∧∃ u id,c < id∧id < o.n∧At eNode id o.H u []∧o.H (n0+1)=some (.row [u] 0 true)
theorem RdRet.of {H0 H1:Hp} {n0 c m id:Nat} {T:Tm} {h a:Int} {u:Value} (e4:T 4=ptr (n0+1) 0) (e5:T 5=sl (n0+5) 0 0) (e6:T 6=.int .i64 h) (e7:T 7=.int .i64 a) (hl:∀ i,i < c→i≠n0+1→H1 i=H0 i) (h1:c < id) (h2:id < m) (h3:n0+1 < c) (hat:At eNode id H1 u []):RdRet H0 n0 c ⟨.ret,T,H1.set (n0+1) (some (.row [u] 0 true)),m⟩ h a :=
 ⟨rfl,fun i hi hn=>(Ze _ _ hn).trans (hl i hi hn),e5,e6,e7,e4,u,id,h1,h2,hat.mv (Ze _ _ (by omega)),Zh _ _ _⟩
def RdPost (w:ByteArray) (H0:Hp) (n0 c nb:Nat) (R:Except (Int × Int) RS) (o:Out):Prop:=nb≤o.n∧((∃ s f G oid pid J u,o.e=.exit 1∧R=.ok s∧RdB w s∧RdT w n0 c G.length oid s.at_ o.t∧RdI H0 c s f G oid pid J u o.H o.n)∨(∃ h a,R=.error (h,a)∧RdRet H0 n0 c o h a))
def RdInv (w:ByteArray) (H0:Hp) (n0 c nb:Nat) (R:Except (Int × Int) RS) (d:Nat) (T:Tm) (H:Hp) (n:Nat):Prop:=∃ s f G oid pid J u,w.size≤s.at_+d∧rdRun w d s=R∧RdB w s∧nb≤n∧RdT w n0 c G.length oid s.at_ T∧RdI H0 c s f G oid pid J u H n
theorem l37 (w:ByteArray) (hw:w.size≤400) {H0:Hp} {n0 c nb:Nat} {x0:Value} (hc:n0+5 < c) (hcb:c < nb) (hp0:H0 n0=some (.row [nilS] 0 true)) (hp1:H0 (n0+1)=some (.row [x0] 0 true)) {R:Except (Int × Int) RS}:∀ d T H n,RdInv w H0 n0 c nb R d T H n →
  Wp (Yf (S37L0 (Call Try.prog) Yf) T H n) (RdPost w H0 n0 c nb R):=by
 refine Loop_rule (RdInv w H0 n0 c nb R) (RdPost w H0 n0 c nb R) ?_
 rintro d T H n ⟨s,f,G,oid,pid,J,u,hd,hR,hB,hnb,hT,hI⟩
 unfold S37L0
 obtain ⟨t1,t2,t4,t8,t9,t10,t11⟩:=hT
 have hlen:=numsOf_length w
 by_cases hlt:s.at_ < w.size
 ·have hlti:(s.at_:Int) < w.size:=by omega
  obtain ⟨d',rfl⟩:∃ d',d=d'+1:=⟨d - 1,by omega⟩
  obtain ⟨b,hb⟩:∃ b,b=(Zt w)[s.at_]'(by omega):=⟨_,rfl⟩
  have hix:=idx_nums (k:=.i64) hlt
  rw [← hb] at hix
  have hgd:(Zt w).getD s.at_ 0=b:=by rw [hb]; simp [List.getD,List.getElem?_eq_getElem (show s.at_ < (Zt w).length by omega)]
  have hstk:G.length≤s.at_:=by have:=hB.b3; rw [hI.es] at this; simp at this; omega
  have hG:=sub1 (m:=G.length) (by omega)
  have wA:=wn (j:=s.at_) (by omega)
  have hb0:=hB.b0
  by_cases c32:b=32
  ·(repeat(first|((with_reducible first|apply Wp.gs|apply Wp.cs|apply Zc|apply Zg|apply Zd|apply Zi|apply Zn|apply Wp.step);case h=>((try simp(disch:=omega)only[↓reduceIte,Za,↓X0,X1,Nat.reduceEqDiff,Int.reduceEq,Nat.reduceAdd,Nat.reduceSub,t1,t10,t11,hlti,hix,hG,c32,wA]);with_reducible first|done|exact rfl|exact bT|exact bF))|apply Zf|apply Zj|with_reducible apply Zk|simp only[↓X3]|with_reducible apply Zb))
   refine Wp.pure (Nxt.go d' (by omega) ⟨⟨s.at_+1,s.stk,s.out⟩,f,G,oid,pid,J,u,by simp only; omega,by rw [← hR,rdRun_ok hlt (rd_sp hgd c32)],⟨by simp only; omega,by have:=hB.b1; simp only; omega,fun g hg=>by have:=hB.b2 g hg; simp only; omega,by have:=hB.b3; simp only; omega,hB.b4⟩,by omega,⟨by simp [Zl,t1],by simp [Zl,t2],by simp [Zl,t4],by simp [Zl,t8],by simp [Zl,t9],by simp [Zl,t10],by simp [Zl]⟩,hI.up (by omega) rfl rfl⟩)
  by_cases c40:b=40
  ·((repeat(first|((with_reducible first|apply Wp.gs|apply Wp.cs|apply Zc|apply Zg|apply Zd|apply Zi|apply Zn|apply Wp.step);case h=>((try simp(disch:=omega)only[↓reduceIte,Za,↓X0,X1,Nat.reduceEqDiff,Int.reduceEq,Nat.reduceAdd,Nat.reduceSub,X2,Ze,Nat.reduceLeDiff,t1,t10,t11,hlti,hix,hG,c32,c40,show ¬ (40:Int)=32 by decide,bsl_f]);with_reducible first|done|exact rfl|exact bT|exact bF))|apply Zf|apply Zj|with_reducible apply Zk|simp only[↓X3]|with_reducible apply Zb));try(with_reducible apply Zm;case h=>((try simp(disch:=omega)only[X1,Nat.reduceEqDiff,t1,t10,t11,hlti,hix,hG,c32,c40,show ¬ (40:Int)=32 by decide,bsl_f]);with_reducible exact rfl)))
   simp(disch:=omega)only[↓reduceIte,Za,↓X0,X1,Nat.reduceEqDiff,Int.reduceEq,Nat.reduceAdd,Nat.reduceSub,t10,t11]
   refine Wp.papp hI.row (by rw [List.length_append,rows_len,List.length_cons,List.length_cons]; omega) (by have:=hI.o2; omega) (by omega) ?_
   intro H1 r1 r2
   ((repeat(first|((with_reducible first|apply Wp.gs|apply Wp.cs|apply Zc|apply Zg|apply Zd|apply Zi|apply Zn|apply Wp.step);case h=>((try simp(disch:=omega)only[↓reduceIte,Za,↓X0,X1,Nat.reduceEqDiff,Int.reduceEq,Nat.reduceAdd,Nat.reduceSub,t11,wA]);with_reducible first|done|exact rfl|exact bT|exact bF))|apply Zf|apply Zj|with_reducible apply Zk|simp only[↓X3]|with_reducible apply Zb));try(with_reducible apply Zm;case h=>((try simp(disch:=omega)only[X1,Nat.reduceEqDiff,t11,wA]);with_reducible exact rfl)))
   rw [rows_take f G J rfl] at r1
   have ho2:=hI.o2
   refine Wp.pure (Nxt.go d' (by omega) ⟨⟨s.at_+1,((s.at_:Int),[]) :: s.stk,s.out⟩,⟨s.at_,[],nilS,n+24⟩,f :: G,n+22,pid,[],u,by simp only; omega,by rw [← hR,rdRun_ok hlt (rd_op hgd c40)],⟨by simp only; omega,by have:=hB.b1; simp only; omega,?_,by have:=hB.b3; simp only [List.length_cons]; omega,hB.b4⟩,by omega,⟨by simp [Zl,t1],by simp [Zl,t2],by simp [Zl,t4],by simp [Zl,t8],by simp [Zl,t9],by simp [Zl],by simp [Zl]; exact wA⟩,?_⟩)
   ·intro g hg
    rcases List.mem_cons.1 hg with rfl | hg
    ·exact Nat.zero_le _
    ·have:=hB.b2 g hg; simp only; omega
   ·have hp:=hI.pc.idn
    have hpc:=hI.pc.cn
    refine ⟨by simp [hI.es,RFr.m],r1,?_,?_,hI.pc.mv (by omega) (r2 c (by have:=hI.o1; omega) (by omega) (by omega)) (r2 pid (by have:=hI.o3; omega) (by omega) (by omega)),by first | omega | (simp only; omega),by first | omega | (simp only; omega),by first | omega | (simp only; omega),hI.p1,fun i hi=>by rw [r2 i (by have:=hI.o1; omega) (by omega) (by omega)]; exact hI.low i hi⟩
    ·intro g hg
     rcases List.mem_cons.1 hg with rfl | hg
     ·exact ⟨At.nil,by first | omega | (simp only; omega),by first | omega | (simp only; omega),by first | omega | (simp only; omega),by first | omega | (simp only; omega)⟩
     ·obtain ⟨a1,a2,a3,a4,a5⟩:=hI.fr g hg
      exact ⟨a1.mv (r2 _ a4 (by omega) (by omega)),a2,by first | omega | (simp only; omega),by first | omega | (simp only; omega),a5⟩
    ·rw [List.map_cons,List.nodup_cons]
     refine ⟨fun hm=>?_,hI.nd⟩
     obtain ⟨g,hg,hge⟩:=List.mem_map.1 hm
     have:=(hI.fr g hg).2.2.1
     simp only at hge; omega
  have hl0:=hI.low n0 (by omega)
  have hl1:=hI.low (n0+1) (by omega)
  rw [hp0] at hl0
  rw [hp1] at hl1
  have ho1:=hI.o1
  have ho2:=hI.o2
  have ho3:=hI.o3
  have hpid:=hI.pc.idn
  have hcn:=hI.pc.cn
  have hp1':=hI.p1
  by_cases c41:b=41
  ·by_cases hg0:G.length=0
   ·have hgi:(G.length:Int)=0:=by omega
    have hGn:G=[]:=List.length_eq_zero_iff.1 hg0
    have hes:=hI.es
    rw [hGn] at hes
    ((repeat(first|((with_reducible first|apply Wp.gs|apply Wp.cs|apply Zc|apply Zg|apply Zd|apply Zi|apply Zn|apply Wp.step);case h=>((try simp(disch:=omega)only[↓reduceIte,Za,↓X0,X1,Nat.reduceEqDiff,Int.reduceEq,Nat.reduceAdd,Nat.reduceSub,X2,Ze,Nat.reduceLeDiff,t1,t2,t10,t11,hlti,hix,hG,hgi,c41,show ¬ (41:Int)=32 by decide,show ¬ (41:Int)=40 by decide,hl0]);with_reducible first|done|exact rfl|exact bT|exact bF))|apply Zf|apply Zj|with_reducible apply Zk|simp only[↓X3]|with_reducible apply Zb));try(with_reducible apply Zm;case h=>((try simp(disch:=omega)only[X1,Nat.reduceEqDiff,t1,t2,t10,t11,hlti,hix,hG,hgi,c41,show ¬ (41:Int)=32 by decide,show ¬ (41:Int)=40 by decide,hl0]);with_reducible exact rfl)))
    refine Wp.rtn (k50 (l:=[]) (v:=nilS) Li.nil (by simp)) ?_
    rintro _ H1 n1 q1 s1 ⟨u',rfl,id,i1,i2,i3⟩
    (repeat(first|((with_reducible first|apply Wp.gs|apply Wp.cs|apply Zc|apply Zg|apply Zd|apply Zi|apply Zn|apply Wp.step);case h=>((try simp(disch:=omega)only[↓reduceIte,Za,↓X0,X1,Nat.reduceEqDiff,Int.reduceEq,Nat.reduceAdd,Nat.reduceSub,X2,Ze,Nat.reduceLeDiff,s1,hl1,t4,t8,t11]);with_reducible first|done|exact rfl|exact bT|exact bF))|apply Zf|apply Zj|with_reducible apply Zk|simp only[↓X3]|with_reducible apply Zb))
    refine Wp.pure (Nxt.ret ⟨by simp only; omega,.inr ⟨5,s.at_,by rw [← hR,rdRun_err hlt (rd_cl1 hgd c41 hes)],?_⟩⟩)
    exact RdRet.of (by simp [Zl,t4]) (by simp [Zl,t8]) (by simp [Zl]) (by simp [Zl,t11]) (fun i hi _=>by rw [s1 i (by omega)]; exact hI.low i hi) (id:=id) (by omega) i2 (by omega) i3
   ·obtain ⟨f2,G2,rfl⟩:∃ f2 G2,G=f2 :: G2:=by
     cases G with
     | nil=>exact absurd rfl hg0
     | cons a l=>exact ⟨a,l,rfl⟩
    have hgi:¬ ((f2 :: G2).length:Int)=0:=by simp only [List.length_cons]; omega
    obtain ⟨k,hk⟩:∃ k,k=G2.length:=⟨_,rfl⟩
    have hkl:(f2 :: G2).length=k+1:=by rw [List.length_cons,hk]
    rw [hkl] at t10 hG hgi hstk
    have hG2:=sub1 (m:=k) (by omega)
    have hrow:=hI.row
    obtain ⟨F1,F2,F3,F4,F5⟩:=hI.fr f List.mem_cons_self
    obtain ⟨E1,E2,E3,E4,E5⟩:=hI.fr f2 (List.mem_cons_of_mem _ List.mem_cons_self)
    have hx1:idxA 2 (sl oid 0 (k+1+1)) (.int .i64 ((k+1:Nat):Int))=some (ptr oid ((k+1) * 2)):=idx_sl (by omega)
    have hl1':ld false 1 (ptr oid ((k+1) * 2+1)) H=some f.v:=mid_ld hrow (by rw [rows_len,hkl]) 1 (.inr rfl)
    have hsl:=slice_pre oid (k+1+1) (k+1) (by omega) (by omega)
    have hx2:idxA 2 (sl oid 0 (k+1)) (.int .i64 (k:Int))=some (ptr oid (k * 2)):=idx_sl (by omega)
    have hrow2:rows (f2 :: G2)++(.int .i64 f.p :: f.v :: J)=rows G2++(.int .i64 f2.p :: f2.v :: (.int .i64 f.p :: f.v :: J)):=by rw [rows_cons,List.append_assoc]; rfl
    rw [hrow2] at hrow
    have hxs:=hB.b2 f.m (by rw [hI.es]; exact List.mem_map.2 ⟨f,List.mem_cons_self,rfl⟩)
    have hxs2:=hB.b2 f2.m (by rw [hI.es]; exact List.mem_map.2 ⟨f2,List.mem_cons_of_mem _ List.mem_cons_self,rfl⟩)
    have hb1:=hB.b1
    have hes:s.stk=f.m :: f2.m :: G2.map RFr.m:=hI.es
    simp only [RFr.m] at hxs hxs2
    ((repeat(first|((with_reducible first|apply Wp.gs|apply Wp.cs|apply Zc|apply Zg|apply Zd|apply Zi|apply Zn|apply Wp.step);case h=>((try simp(disch:=omega)only[↓reduceIte,Za,↓X0,X1,Nat.reduceEqDiff,Int.reduceEq,Nat.reduceAdd,Nat.reduceSub,t1,t2,t9,t10,t11,hlti,hix,hG,hG2,hgi,c41,show ¬ (41:Int)=32 by decide,show ¬ (41:Int)=40 by decide,hx1,hl1',wA]);with_reducible first|done|exact rfl|exact bT|exact bF))|apply Zf|apply Zj|with_reducible apply Zk|simp only[↓X3]|with_reducible apply Zb));try(with_reducible apply Zm;case h=>((try simp(disch:=omega)only[X1,Nat.reduceEqDiff,t1,t2,t9,t10,t11,hlti,hix,hG,hG2,hgi,c41,show ¬ (41:Int)=32 by decide,show ¬ (41:Int)=40 by decide,hx1,hl1',wA]);with_reducible exact rfl)))
    refine Wp.rta (k80 (hI.pc.mv (m:=n+30) (by omega) rfl rfl) ((F1.lst F3).mv (by omega) (by intros;first|with_reducible rfl|simp(disch:=omega)only[Ze,Zh])) (F1.off (by omega)) (F1.off (by omega)) (by omega)) ?_
    rintro _ H1 n1 q1 s1 ⟨rfl,u',pid',i1,i2⟩
    have hrow1:H1 oid=some (.row (rows G2++(.int .i64 f2.p :: f2.v :: (.int .i64 f.p :: f.v :: J))) 2 true):=by rw [s1 oid (by omega) (by omega) ho3]; exact hrow
    have hl2:ld false 1 (ptr oid (k * 2+1)) H1=some f2.v:=mid_ld hrow1 (by rw [rows_len,hk]) 1 (.inr rfl)
    ((repeat(first|((with_reducible first|apply Wp.gs|apply Wp.cs|apply Zc|apply Zg|apply Zd|apply Zi|apply Zn|apply Wp.step);case h=>((try simp(disch:=omega)only[↓reduceIte,Za,↓X0,X1,Nat.reduceEqDiff,Int.reduceEq,Nat.reduceAdd,Nat.reduceSub,t1,t10,t11,hsl,hG2,hx2,hl2,bsl_i,wA]);with_reducible first|done|exact rfl|exact bT|exact bF))|apply Zf|apply Zj|with_reducible apply Zk|simp only[↓X3]|with_reducible apply Zb));try(with_reducible apply Zm;case h=>((try simp(disch:=omega)only[X1,Nat.reduceEqDiff,t1,t10,t11,hsl,hG2,hx2,hl2,bsl_i,wA]);with_reducible exact rfl)))
    refine Wp.app1 (E:=eInt) _ (E1.mv (s1 _ (by omega) (by omega) E5)) (by omega) (by decide) (by omega) ?_
    intro H2 r1 r2
    have hp':=i2.idn
    have hrow3:H2 oid=some (.row (rows G2++(.int .i64 f2.p :: f2.v :: (.int .i64 f.p :: f.v :: J))) 2 true):=by rw [r2 oid (by omega) (by omega) (by omega)]; exact hrow1
    have hst:=mid_st (k:=k) (y':=sl (n1+15) 0 (f2.xs++[(s.out.length:Int)+f.xs.length]).length) hrow3 (by rw [rows_len,hk]) rfl
    (repeat(first|((with_reducible first|apply Wp.gs|apply Wp.cs|apply Zc|apply Zg|apply Zd|apply Zi|apply Zn|apply Wp.step);case h=>((try simp(disch:=omega)only[↓reduceIte,Za,↓X0,X1,Nat.reduceEqDiff,Int.reduceEq,Nat.reduceAdd,Nat.reduceSub,hx2,hst,t11,wA]);with_reducible first|done|exact rfl|exact bT|exact bF))|apply Zf|apply Zj|with_reducible apply Zk|simp only[↓X3]|with_reducible apply Zb))
    refine Wp.pure (Nxt.go d' (by omega) ⟨⟨s.at_+1,(f2.p,f2.xs++[(s.out.length:Int)+f.xs.length]) :: G2.map RFr.m,s.out++lNodes s.out.length f.xs⟩,⟨f2.p,f2.xs++[(s.out.length:Int)+f.xs.length],sl (n1+15) 0 (f2.xs++[(s.out.length:Int)+f.xs.length]).length,n1+15⟩,G2,oid,pid',.int .i64 f.p :: f.v :: J,u',by first | omega | (simp only; omega),by rw [← hR,rdRun_ok hlt (rd_cl hgd c41 hes)]; rfl,⟨by first | omega | (simp only; omega),?_,?_,?_,?_⟩,by first | omega | (simp only; omega),⟨by simp [Zl,t1],by simp [Zl,t2],by simp [Zl,t4],by simp [Zl,t8],by simp [Zl,t9],by simp [Zl,hk],by simp [Zl]⟩,?_⟩)
    ·simp only [List.length_append,lNodes_len]; omega
    ·intro g hg
     rcases List.mem_cons.1 hg with rfl | hg
     ·simp only [List.length_append,List.length_cons,List.length_nil]; omega
     ·have:=hB.b2 g (by rw [hes]; exact List.mem_cons_of_mem _ (List.mem_cons_of_mem _ hg)); simp only; omega
    ·have:=hB.b3
     rw [hes] at this
     simp only [List.length_cons] at this ⊢; omega
    ·intro x hx
     rcases List.mem_append.1 hx with h | h
     ·exact hB.b4 x h
     ·rw [lNodes_s h]; exact Nat.zero_le _
    ·have hnd:=hI.nd
     simp only [List.map_cons,List.nodup_cons,List.mem_cons,not_or] at hnd
     refine ⟨rfl,Zh _ _ _,?_,?_,?_,ho1,by first | omega | (simp only; omega),by omega,by omega,?_⟩
     ·intro g hg
      rcases List.mem_cons.1 hg with rfl | hg
      ·exact ⟨.inr ⟨rfl,(Ze _ _ (by first | omega | (simp only; omega))).trans r1⟩,by first | omega | (simp only; omega),by first | omega | (simp only; omega),by first | omega | (simp only; omega),by first | omega | (simp only; omega)⟩
      ·obtain ⟨a1,a2,a3,a4,a5⟩:=hI.fr g (List.mem_cons_of_mem _ (List.mem_cons_of_mem _ hg))
       have hgn:g.id≠f2.id:=fun h=>hnd.2.1 (List.mem_map.2 ⟨g,hg,h⟩)
       exact ⟨a1.mv ((Ze _ _ a4).trans ((r2 _ hgn (by omega) (by omega)).trans (s1 _ (by omega) (by omega) a5))),a2,by first | omega | (simp only; omega),a4,by omega⟩
     ·rw [List.map_cons,List.nodup_cons]
      refine ⟨fun hm=>?_,hnd.2.2⟩
      obtain ⟨g,hg,hge⟩:=List.mem_map.1 hm
      have:=(hI.fr g (List.mem_cons_of_mem _ (List.mem_cons_of_mem _ hg))).2.2.1
      simp only at hge; omega
     ·exact i2.mv (by first | omega | (simp only; omega)) ((Ze _ _ (by omega)).trans (r2 c (by omega) (by omega) (by omega))) ((Ze _ _ (by omega)).trans (r2 pid' (by omega) (by omega) (by omega)))
     ·intro i hi
      exact (Ze _ _ (by omega)).trans ((r2 i (by omega) (by omega) (by omega)).trans ((s1 i (by omega) (by omega) (by omega)).trans (hI.low i hi)))
  ·((repeat(first|((with_reducible first|apply Wp.gs|apply Wp.cs|apply Zc|apply Zg|apply Zd|apply Zi|apply Zn|apply Wp.step);case h=>((try simp(disch:=omega)only[↓reduceIte,Za,↓X0,X1,Nat.reduceEqDiff,Int.reduceEq,Nat.reduceAdd,Nat.reduceSub,X2,Ze,Nat.reduceLeDiff,t1,t10,t11,hlti,hix,hG,c32,c40,c41]);with_reducible first|done|exact rfl|exact bT|exact bF))|apply Zf|apply Zj|with_reducible apply Zk|simp only[↓X3]|with_reducible apply Zb));try(with_reducible apply Zm;case h=>((try simp(disch:=omega)only[X1,Nat.reduceEqDiff,t1,t10,t11,hlti,hix,hG,c32,c40,c41]);with_reducible exact rfl)))
   refine Wp.rt (k81 b _ _) ?_
   intro H1 n1 q1 s1
   by_cases hwb:wordB b=true
   ·(repeat(first|((with_reducible first|apply Wp.gs|apply Wp.cs|apply Zc|apply Zg|apply Zd|apply Zi|apply Zn|apply Wp.step);case h=>((try simp(disch:=omega)only[↓reduceIte,Za,↓X0,X1,Nat.reduceEqDiff,Int.reduceEq,Nat.reduceAdd,Nat.reduceSub,hwb]);with_reducible first|done|exact rfl|exact bT|exact bF))|apply Zf|apply Zj|with_reducible apply Zk|simp only[↓X3]|with_reducible apply Zb))
    refine Wp.bind (l371 w hw (j0:=s.at_) (by simp [Zl,t1]) (by simp [Zl,t11]) (by omega)) ?_
    rintro ⟨oe,oT,oH,on⟩ ⟨f1,f2,rfl,f4,f5⟩
    simp only at f1 f2 f4 f5
    have g1:oT 1=.string w:=by rw [f5 1 (by simp)]; simp [Zl,t1]
    have g2:oT 2=ptr n0 0:=by rw [f5 2 (by simp)]; simp [Zl,t2]
    have g4:oT 4=ptr (n0+1) 0:=by rw [f5 4 (by simp)]; simp [Zl,t4]
    have g8:oT 8=sl (n0+5) 0 0:=by rw [f5 8 (by simp)]; simp [Zl,t8]
    have g9:oT 9=ptr c 0:=by rw [f5 9 (by simp)]; simp [Zl,t9]
    have g10:oT 10=sl oid 0 (G.length+1):=by rw [f5 10 (by simp)]; simp [Zl,t10]
    have g12:oT 12=.int .i64 (G.length:Int):=by rw [f5 12 (by simp)]; simp [Zl]
    have g15:oT 15=.int .i64 (s.at_:Int):=by rw [f5 15 (by simp)]; simp [Zl,t11]
    have hwl:=wlen_le (Zt w) s.at_
    have hwy:=wlen_yes (bs:=Zt w) (j:=s.at_) (by omega) (by rw [← hb]; exact hwb)
    obtain ⟨e,he⟩:∃ e,e=s.at_+wlen (Zt w) s.at_:=⟨_,rfl⟩
    rw [← he] at f4
    have hsv:sliceV 0 (.string w) (some (.int .i64 (s.at_:Int))) (some (.int .i64 (e:Int)))=some (.string (w.extract s.at_ e)):=by
     simp [sliceV,bnd,show s.at_≤e by omega,show e≤w.size by omega]
    have hez:=ext_sz w s.at_ e
    ((repeat(first|((with_reducible first|apply Wp.gs|apply Wp.cs|apply Zc|apply Zg|apply Zd|apply Zi|apply Zn|apply Wp.step);case h=>((try simp(disch:=omega)only[↓reduceIte,Za,↓X0,X1,Nat.reduceEqDiff,Int.reduceEq,Nat.reduceAdd,Nat.reduceSub,g1,g15,f4,hsv]);with_reducible first|done|exact rfl|exact bT|exact bF))|apply Zf|apply Zj|with_reducible apply Zk|simp only[↓X3]|with_reducible apply Zb));try(with_reducible apply Zm;case h=>((try simp(disch:=omega)only[X1,Nat.reduceEqDiff,g1,g15,f4,hsv]);with_reducible exact rfl)))
    refine Wp.rt (k82 (w.extract s.at_ e) (by omega) _ _) ?_
    intro H2 n2 q2 s2
    by_cases h5:(wordN (w.extract s.at_ e)).2=true
    ·have hs3:∀ i,i < n→H2 i=H i:=fun i hi=>by rw [s2 i (by omega),f2 i (by omega),s1 i (by omega)]
     obtain ⟨cs,hcs⟩:∃ cs,cs=rows G++(.int .i64 f.p :: f.v :: J):=⟨_,rfl⟩
     have hrow:H2 oid=some (.row cs 2 true):=by rw [hs3 oid ho2,hI.row,hcs]
     have hget:cs[G.length * 2+1]?=some f.v:=by
      rw [hcs,List.getElem?_append_right (by rw [rows_len]; omega),rows_len,show G.length * 2+1 - G.length * 2=1 by omega]; rfl
     obtain ⟨F1,F2,F3,F4,F5⟩:=hI.fr f List.mem_cons_self
     have hx1:idxA 2 (sl oid 0 (G.length+1)) (.int .i64 (G.length:Int))=some (ptr oid (G.length * 2)):=idx_sl (by omega)
     have hxs:=hB.b2 f.m (by rw [hI.es]; exact List.mem_map.2 ⟨f,List.mem_cons_self,rfl⟩)
     have hb1:=hB.b1
     have hes:s.stk=f.m :: G.map RFr.m:=hI.es
     simp only [RFr.m] at hxs
     ((repeat(first|((with_reducible first|apply Wp.gs|apply Wp.cs|apply Zc|apply Zg|apply Zd|apply Zi|apply Zn|apply Wp.step);case h=>((try simp(disch:=omega)only[↓reduceIte,Za,↓X0,X1,Nat.reduceEqDiff,Int.reduceEq,Nat.reduceAdd,Nat.reduceSub,X2,Ze,Nat.reduceLeDiff,Nd.cells,h5,g9,g10,g12,hx1,hrow,hget]);with_reducible first|done|exact rfl|exact bT|exact bF))|apply Zf|apply Zj|with_reducible apply Zk|simp only[↓X3]|with_reducible apply Zb));try(with_reducible apply Zm;case h=>((try simp(disch:=omega)only[X1,Nat.reduceEqDiff,Nd.cells,h5,g9,g10,g12,hx1,hrow,hget]);with_reducible exact rfl)))
     refine Wp.rta (k41 (hI.pc.mv (m:=n2+16) (by omega) ((Ze _ _ (by omega)).trans (hs3 c (by omega))) ((Ze _ _ (by omega)).trans (hs3 pid (by omega)))) (by omega) (wordN (w.extract s.at_ e)).1) ?_
     rintro _ H3 n3 q3 s3 ⟨rfl,u',pid',i1,i2⟩
     have hrow3:H3 oid=some (.row cs 2 true):=by rw [s3 oid (by omega) (by omega) ho3,Ze _ _ (by omega)]; exact hrow
     ((repeat(first|((with_reducible first|apply Wp.gs|apply Wp.cs|apply Zc|apply Zg|apply Zd|apply Zi|apply Zn|apply Wp.step);case h=>((try simp(disch:=omega)only[↓reduceIte,Za,↓X0,X1,Nat.reduceEqDiff,Int.reduceEq,Nat.reduceAdd,Nat.reduceSub,X2,Ze,Nat.reduceLeDiff,g9,g10,g12,hx1,hrow3,hget,bsl_i]);with_reducible first|done|exact rfl|exact bT|exact bF))|apply Zf|apply Zj|with_reducible apply Zk|simp only[↓X3]|with_reducible apply Zb));try(with_reducible apply Zm;case h=>((try simp(disch:=omega)only[X1,Nat.reduceEqDiff,g9,g10,g12,hx1,hrow3,hget,bsl_i]);with_reducible exact rfl)))
     refine Wp.app1 (E:=eInt) _ (F1.mv ((s3 _ (by omega) (by omega) F5).trans ((Ze _ _ (by omega)).trans (hs3 _ F3)))) (by omega) (by decide) (by omega) ?_
     intro H4 r1 r2
     have hp':=i2.idn
     have hrow4:H4 oid=some (.row (rows G++(.int .i64 f.p :: f.v :: J)) 2 true):=by rw [r2 oid (by omega) (by omega) (by omega),hrow3,hcs]
     have hst:=mid_st (k:=G.length) (y':=sl (n2+12) 0 (f.xs++[(s.out.length:Int)]).length) hrow4 (by rw [rows_len]) rfl
     (repeat(first|((with_reducible first|apply Wp.gs|apply Wp.cs|apply Zc|apply Zg|apply Zd|apply Zi|apply Zn|apply Wp.step);case h=>((try simp(disch:=omega)only[↓reduceIte,Za,↓X0,X1,Nat.reduceEqDiff,Int.reduceEq,Nat.reduceAdd,Nat.reduceSub,g10,g12,hx1,hst]);with_reducible first|done|exact rfl|exact bT|exact bF))|apply Zf|apply Zj|with_reducible apply Zk|simp only[↓X3]|with_reducible apply Zb))
     refine Wp.pure (Nxt.go d' (by omega) ⟨⟨e,(f.p,f.xs++[(s.out.length:Int)]) :: G.map RFr.m,s.out++[(wordN (w.extract s.at_ e)).1]⟩,⟨f.p,f.xs++[(s.out.length:Int)],sl (n2+12) 0 (f.xs++[(s.out.length:Int)]).length,n2+12⟩,G,oid,pid',J,u',by first | omega | (simp only; omega),by rw [← hR,rdRun_ok hlt (rd_wd hgd c32 c40 c41 hwb he h5 hes)]; rfl,⟨by first | omega | (simp only; omega),?_,?_,?_,?_⟩,by first | omega | (simp only; omega),⟨by simp [Zl,g1],by simp [Zl,g2],by simp [Zl,g4],by simp [Zl,g8],by simp [Zl,g9],by simp [Zl,g10],by simp [Zl,f4]⟩,?_⟩)
     ·simp only [List.length_append,List.length_cons,List.length_nil]; omega
     ·intro g hg
      rcases List.mem_cons.1 hg with rfl | hg
      ·simp only [List.length_append,List.length_cons,List.length_nil]; omega
      ·have:=hB.b2 g (by rw [hes]; exact List.mem_cons_of_mem _ hg); simp only; omega
     ·have:=hB.b3
      rw [hes] at this
      simp only [List.length_cons] at this ⊢; omega
     ·intro x hx
      rcases List.mem_append.1 hx with h | h
      ·exact hB.b4 x h
      ·simp only [List.mem_cons,List.not_mem_nil,or_false] at h
       rw [h]; exact wordN_sz _ (by omega)
     ·have hnd:=hI.nd
      simp only [List.map_cons,List.nodup_cons] at hnd
      refine ⟨rfl,Zh _ _ _,?_,?_,?_,ho1,by first | omega | (simp only; omega),by omega,by omega,?_⟩
      ·intro g hg
       rcases List.mem_cons.1 hg with rfl | hg
       ·exact ⟨.inr ⟨rfl,(Ze _ _ (by first | omega | (simp only; omega))).trans r1⟩,by first | omega | (simp only; omega),by first | omega | (simp only; omega),by first | omega | (simp only; omega),by first | omega | (simp only; omega)⟩
       ·obtain ⟨a1,a2,a3,a4,a5⟩:=hI.fr g (List.mem_cons_of_mem _ hg)
        have hgn:g.id≠f.id:=fun h=>hnd.1 (List.mem_map.2 ⟨g,hg,h⟩)
        exact ⟨a1.mv ((Ze _ _ a4).trans ((r2 _ hgn (by omega) (by omega)).trans ((s3 _ (by omega) (by omega) a5).trans ((Ze _ _ (by omega)).trans (hs3 _ a3))))),a2,by first | omega | (simp only; omega),a4,by omega⟩
      ·rw [List.map_cons,List.nodup_cons]
       refine ⟨fun hm=>?_,hnd.2⟩
       obtain ⟨g,hg,hge⟩:=List.mem_map.1 hm
       have:=(hI.fr g (List.mem_cons_of_mem _ hg)).2.2.1
       simp only at hge; omega
      ·exact i2.mv (by first | omega | (simp only; omega)) ((Ze _ _ (by omega)).trans (r2 c (by omega) (by omega) (by omega))) ((Ze _ _ (by omega)).trans (r2 pid' (by omega) (by omega) (by omega)))
      ·intro i hi
       exact (Ze _ _ (by omega)).trans ((r2 i (by omega) (by omega) (by omega)).trans ((s3 i (by omega) (by omega) (by omega)).trans ((Ze _ _ (by omega)).trans ((hs3 i (by omega)).trans (hI.low i hi)))))
    ·have h5':(wordN (w.extract s.at_ e)).2=false:=by simpa using h5
     ((repeat(first|((with_reducible first|apply Wp.gs|apply Wp.cs|apply Zc|apply Zg|apply Zd|apply Zi|apply Zn|apply Wp.step);case h=>((try simp(disch:=omega)only[↓reduceIte,Za,↓X0,X1,Nat.reduceEqDiff,Int.reduceEq,Nat.reduceAdd,Nat.reduceSub,X2,Ze,Nat.reduceLeDiff,Nd.cells,h5',s2,f2,s1,hl0,g2]);with_reducible first|done|exact rfl|exact bT|exact bF))|apply Zf|apply Zj|with_reducible apply Zk|simp only[↓X3]|with_reducible apply Zb));try(with_reducible apply Zm;case h=>((try simp(disch:=omega)only[X1,Nat.reduceEqDiff,Nd.cells,h5',s2,f2,s1,hl0,g2]);with_reducible exact rfl)))
     refine Wp.rtn (k50 (l:=[]) (v:=nilS) Li.nil (by simp)) ?_
     rintro _ H3 n3 q3 s3 ⟨u',rfl,id,i1,i2,i3⟩
     (repeat(first|((with_reducible first|apply Wp.gs|apply Wp.cs|apply Zc|apply Zg|apply Zd|apply Zi|apply Zn|apply Wp.step);case h=>((try simp(disch:=omega)only[↓reduceIte,Za,↓X0,X1,Nat.reduceEqDiff,Int.reduceEq,Nat.reduceAdd,Nat.reduceSub,X2,Ze,Nat.reduceLeDiff,s3,s2,f2,s1,hl1,g4,g8,g15]);with_reducible first|done|exact rfl|exact bT|exact bF))|apply Zf|apply Zj|with_reducible apply Zk|simp only[↓X3]|with_reducible apply Zb))
     refine Wp.pure (Nxt.ret ⟨by simp only; omega,.inr ⟨3,s.at_,by rw [← hR,rdRun_err hlt (rd_wn hgd c32 c40 c41 hwb he h5)],?_⟩⟩)
     exact RdRet.of (by simp [Zl,g4]) (by simp [Zl,g8]) (by simp [Zl]) (by simp [Zl,g15]) (fun i hi _=>by rw [s3 i (by omega),Ze _ _ (by omega),s2 i (by omega),f2 i (by omega),s1 i (by omega)]; exact hI.low i hi) (id:=id) (by omega) i2 (by omega) i3
   ·have hwb':wordB b=false:=by simpa using hwb
    ((repeat(first|((with_reducible first|apply Wp.gs|apply Wp.cs|apply Zc|apply Zg|apply Zd|apply Zi|apply Zn|apply Wp.step);case h=>((try simp(disch:=omega)only[↓reduceIte,Za,↓X0,X1,Nat.reduceEqDiff,Int.reduceEq,Nat.reduceAdd,Nat.reduceSub,X2,Ze,Nat.reduceLeDiff,hwb',s1,hl0,t2]);with_reducible first|done|exact rfl|exact bT|exact bF))|apply Zf|apply Zj|with_reducible apply Zk|simp only[↓X3]|with_reducible apply Zb));try(with_reducible apply Zm;case h=>((try simp(disch:=omega)only[X1,Nat.reduceEqDiff,hwb',s1,hl0,t2]);with_reducible exact rfl)))
    refine Wp.rtn (k50 (l:=[]) (v:=nilS) Li.nil (by simp)) ?_
    rintro _ H3 n3 q3 s3 ⟨u',rfl,id,i1,i2,i3⟩
    (repeat(first|((with_reducible first|apply Wp.gs|apply Wp.cs|apply Zc|apply Zg|apply Zd|apply Zi|apply Zn|apply Wp.step);case h=>((try simp(disch:=omega)only[↓reduceIte,Za,↓X0,X1,Nat.reduceEqDiff,Int.reduceEq,Nat.reduceAdd,Nat.reduceSub,X2,Ze,Nat.reduceLeDiff,s3,s1,hl1,t4,t8,t11]);with_reducible first|done|exact rfl|exact bT|exact bF))|apply Zf|apply Zj|with_reducible apply Zk|simp only[↓X3]|with_reducible apply Zb))
    refine Wp.pure (Nxt.ret ⟨by simp only; omega,.inr ⟨2,s.at_,by rw [← hR,rdRun_err hlt (rd_no hgd c32 c40 c41 hwb)],?_⟩⟩)
    exact RdRet.of (by simp [Zl,t4]) (by simp [Zl,t8]) (by simp [Zl]) (by simp [Zl,t11]) (fun i hi _=>by rw [s3 i (by omega),s1 i (by omega)]; exact hI.low i hi) (id:=id) (by omega) i2 (by omega) i3
 ·have hlti:¬ (s.at_:Int) < w.size:=by omega
  (repeat(first|((with_reducible first|apply Wp.gs|apply Wp.cs|apply Zc|apply Zg|apply Zd|apply Zi|apply Zn|apply Wp.step);case h=>((try simp(disch:=omega)only[↓reduceIte,Za,↓X0,X1,Nat.reduceEqDiff,Int.reduceEq,Nat.reduceAdd,Nat.reduceSub,t1,t11,hlti]);with_reducible first|done|exact rfl|exact bT|exact bF))|apply Zf|apply Zj|with_reducible apply Zk|simp only[↓X3]|with_reducible apply Zb))
  refine Wp.pure (Nxt.exit ⟨by simp only; omega,.inl ⟨s,f,G,oid,pid,J,u,rfl,by rw [← hR,rdRun_end hlt],hB,⟨by simp [Zl,t1],by simp [Zl,t2],by simp [Zl,t4],by simp [Zl,t8],by simp [Zl,t9],by simp [Zl,t10],by simp [Zl,t11]⟩,hI.up (by simp only; omega) rfl rfl⟩⟩)
end Go.Proofs.Ytbgkimkbngocjaa.Ax
set_option linter.unusedVariables false
set_option linter.unusedSimpArgs false
set_option maxHeartbeats 4000000
namespace Go.Proofs.Ytbgkimkbngocjaa.Ax
open Go
def NewPL (lo n:Nat) (H:Hp) (u v:Value) (l:List Nd) (xs:List Int):Prop:=∃ i j,lo≤i∧i < n∧lo≤j∧j < n∧i≠j∧At eNode i H u l∧At eInt j H v xs
structure RdA where
 pool:List Nd
 list:List Int
 how:Int
 pos:Int
def rdFin (w:ByteArray) (s:RS):RdA :=
 match s.stk with
 | [f]=>if PoolOk s.out then ⟨s.out,f.2,0,w.size⟩ else ⟨[],[],6,0⟩
 | f :: _=>⟨[],[],4,f.1⟩
 | []=>⟨[],[],0,0⟩
def rdAns (w:ByteArray):RdA :=
 if 400 < w.size then ⟨[],[],1,0⟩
 else match rdRun w w.size rs0 with
  | .ok s=>rdFin w s
  | .error r=>⟨[],[],r.1,r.2⟩
theorem rdAns_big {w:ByteArray} (h:400 < w.size):rdAns w=⟨[],[],1,0⟩:=by unfold rdAns; rw [if_pos h]
theorem rdAns_err {w:ByteArray} (h:¬ 400 < w.size) {a b:Int} (h2:rdRun w w.size rs0=.error (a,b)):rdAns w=⟨[],[],a,b⟩:=by unfold rdAns; rw [if_neg h,h2]
theorem rdAns_ok {w:ByteArray} (h:¬ 400 < w.size) {s:RS} (h2:rdRun w w.size rs0=.ok s):rdAns w=rdFin w s:=by unfold rdAns; rw [if_neg h,h2]
theorem PoolOk_nil':PoolOk []:=⟨trivial,by decide⟩
theorem k37 (w:ByteArray) (H:Hp) (n:Nat):RtN Try.prog 37 [.agg ⟨[nilS]⟩,.string w] H n (fun r H' n'=>∃ u v,r=.tuple ⟨[.agg ⟨[u]⟩,v,.int .i64 (rdAns w).how,.int .i64 (rdAns w).pos]⟩∧NewPL n n' H' u v (rdAns w).pool (rdAns w).list∧PoolOk (rdAns w).pool∧(rdAns w).list.length≤400):=by
 apply RtN.mk
 rw [c37]; unfold S37
 ((repeat(first|((with_reducible first|apply Wp.gs|apply Wp.cs|apply Zc|apply Zg|apply Zd|apply Zi|apply Zn|apply Wp.step);case h=>((try simp(disch:=omega)only[↓reduceIte,Za,↓X0,X1,Nat.reduceEqDiff,Int.reduceEq,Nat.reduceAdd,Nat.reduceSub,X2,Ze,Nat.reduceLeDiff,bsl_zero]);with_reducible first|done|exact rfl|exact bT|exact bF))|apply Zf|apply Zj|with_reducible apply Zk|simp only[↓X3]|with_reducible apply Zb));try(with_reducible apply Zm;case h=>((try simp(disch:=omega)only[X1,Nat.reduceEqDiff,bsl_zero]);with_reducible exact rfl)))
 refine Wp.rt (k48 (l:=[]) Li.nil (by simp) (by simp)) ?_
 intro H1 n1 q1 s1
 by_cases hbig:400 < w.size
 ·have hb:(400:Int) < w.size:=by omega
  ((repeat(first|((with_reducible first|apply Wp.gs|apply Wp.cs|apply Zc|apply Zg|apply Zd|apply Zi|apply Zn|apply Wp.step);case h=>((try simp(disch:=omega)only[↓reduceIte,Za,↓X0,X1,Nat.reduceEqDiff,Int.reduceEq,Nat.reduceAdd,Nat.reduceSub,X2,Ze,Nat.reduceLeDiff,PoolOk_nil',hb,s1]);with_reducible first|done|exact rfl|exact bT|exact bF))|apply Zf|apply Zj|with_reducible apply Zk|simp only[↓X3]|with_reducible apply Zb));try(with_reducible apply Zm;case h=>((try simp(disch:=omega)only[X1,Nat.reduceEqDiff,PoolOk_nil',hb,s1]);with_reducible exact rfl)))
  refine Wp.rtn (k50 (l:=[]) (v:=nilS) Li.nil (by simp)) ?_
  rintro _ H2 n2 q2 s2 ⟨u,rfl,id,i1,i2,i3⟩
  ((repeat(first|((with_reducible first|apply Wp.gs|apply Wp.cs|apply Zc|apply Zg|apply Zd|apply Zi|apply Zn|apply Wp.step);case h=>((try simp(disch:=omega)only[↓reduceIte,Za,↓X0,X1,Nat.reduceEqDiff,Int.reduceEq,Nat.reduceAdd,Nat.reduceSub,X2,Ze,Nat.reduceLeDiff,s1,s2]);with_reducible first|done|exact rfl|exact bT|exact bF))|apply Zf|apply Zj|with_reducible apply Zk|simp only[↓X3]|with_reducible apply Zb));try(with_reducible apply Zm;case h=>((try simp(disch:=omega)only[X1,Nat.reduceEqDiff,s1,s2]);with_reducible exact rfl)))
  rw [rdAns_big hbig]
  exact Wp.pure ⟨by simp only; omega,(by intros;first|with_reducible rfl|simp(disch:=omega)only[Ze,Zh,s1,s2]),u,_,rfl,⟨id,n+5,by omega,by simp only; omega,by omega,by simp only; omega,by omega,i3.mv (Ze _ _ (by omega)),.inr ⟨rfl,by simp (disch:=omega) only [Ze,Zh,s1,s2]; rfl⟩⟩,PoolOk_nil',Nat.zero_le _⟩
 ·have hb:¬ (400:Int) < w.size:=by omega
  ((repeat(first|((with_reducible first|apply Wp.gs|apply Wp.cs|apply Zc|apply Zg|apply Zd|apply Zi|apply Zn|apply Wp.step);case h=>((try simp(disch:=omega)only[↓reduceIte,Za,↓X0,X1,Nat.reduceEqDiff,Int.reduceEq,Nat.reduceAdd,Nat.reduceSub,X2,Ze,Nat.reduceLeDiff,PoolOk_nil',hb,s1]);with_reducible first|done|exact rfl|exact bT|exact bF))|apply Zf|apply Zj|with_reducible apply Zk|simp only[↓X3]|with_reducible apply Zb));try(with_reducible apply Zm;case h=>((try simp(disch:=omega)only[X1,Nat.reduceEqDiff,PoolOk_nil',hb,s1]);with_reducible exact rfl)))
  refine Wp.rtn (k50 (l:=[]) (v:=nilS) Li.nil (by simp)) ?_
  rintro _ H2 n2 q2 s2 ⟨u,rfl,id,i1,i2,i3⟩
  ((repeat(first|((with_reducible first|apply Wp.gs|apply Wp.cs|apply Zc|apply Zg|apply Zd|apply Zi|apply Zn|apply Wp.step);case h=>((try simp(disch:=omega)only[↓reduceIte,Za,↓X0,X1,Nat.reduceEqDiff,Int.reduceEq,Nat.reduceAdd,Nat.reduceSub,X2,Ze,Nat.reduceLeDiff,s1,s2,bsl_f]);with_reducible first|done|exact rfl|exact bT|exact bF))|apply Zf|apply Zj|with_reducible apply Zk|simp only[↓X3]|with_reducible apply Zb));try(with_reducible apply Zm;case h=>((try simp(disch:=omega)only[X1,Nat.reduceEqDiff,s1,s2,bsl_f]);with_reducible exact rfl)))
  obtain ⟨M,hM⟩:∃ M,M=((H2.set (n1+6) (some (.row [u] 0 true))).set (n2+1) (some (.row [.int .i64 0,nilS] 2 true))):=⟨_,rfl⟩
  have m0:M n=some (.row [nilS] 0 true):=by rw [hM]; simp (disch:=omega) only [Ze,Zh,s1,s2]
  have m1:M (n+1)=some (.row [nilS] 0 true):=by rw [hM]; simp (disch:=omega) only [Ze,Zh,s1,s2]
  have m5:M (n+5)=some (.row [] 1 true):=by rw [hM]; simp (disch:=omega) only [Ze,Zh,s1,s2]
  have mlo:∀ i,i < n→M i=H i:=by intro i hi; rw [hM]; simp (disch:=omega) only [Ze,Zh,s1,s2]
  rw [← hM]
  refine Wp.bind (l37 w (by omega) (H0:=M) (n0:=n) (c:=n1+6) (nb:=n2+4) (x0:=nilS) (R:=rdRun w w.size rs0) (by omega) (by omega) m0 m1 w.size _ _ _ ⟨rs0,⟨0,[],nilS,n2+2⟩,[],n2+1,id,[],u,by omega,rfl,⟨Nat.zero_le _,Nat.zero_le _,?_,Nat.le_refl _,?_⟩,by omega,⟨by simp [Zl,Zq],by simp [Zl],by simp [Zl],by simp [Zl],by simp [Zl],by simp [Zl],by simp [Zl]; rfl⟩,⟨rfl,?_,?_,?_,⟨?_,rfl,?_,by omega,by omega,by omega⟩,by omega,by omega,by omega,by omega,fun _ _=>rfl⟩⟩) ?_
  ·intro f hf; simp [rs0] at hf; rw [hf]; exact Nat.le_refl _
  ·intro x hx; cases hx
  ·rw [hM]; exact Zh _ _ _
  ·intro g hg
   simp only [List.mem_cons,List.not_mem_nil,or_false] at hg
   subst hg
   exact ⟨At.nil,by simp only; omega,by simp only; omega,by simp only; omega,by simp only; omega⟩
  ·simp
  ·rw [hM]; exact (Ze _ _ (by omega)).trans (Zh _ _ _)
  ·exact i3.mv (by rw [hM]; exact (Ze _ _ (by omega)).trans (Ze _ _ (by omega)))
  ·rintro ⟨oe,oT,oH,on⟩ ⟨f1,f2⟩
   simp only at f1
   rcases f2 with ⟨s,f,G,oid,pid,J,u2,rfl,hR,hB,⟨t1,t2,t4,t8,t9,t10,t11⟩,hI⟩ | ⟨h,a,hR,rfl,e1,e5,e6,e7,e4,u2,id2,j1,j2,j3,j4⟩
   ·simp only at t1 t2 t4 t8 t9 t10 t11 hI
    rw [rdAns_ok hbig hR]
    have l0:=(hI.low n (by omega)).trans m0
    have l1:=(hI.low (n+1) (by omega)).trans m1
    have l5:=(hI.low (n+5) (by omega)).trans m5
    have llo:∀ i,i < n→oH i=H i:=fun i hi=>(hI.low i (by omega)).trans (mlo i hi)
    have hstk:G.length≤s.at_:=by have:=hB.b3; rw [hI.es] at this; simp at this; omega
    have hb0:=hB.b0
    have hG:=sub1 (m:=G.length) (by omega)
    have ho1:=hI.o1
    have ho2:=hI.o2
    have ho3:=hI.o3
    have hpid:=hI.pc.idn
    have hp1':=hI.p1
    by_cases hg0:G.length=0
    ·have hGn:G=[]:=List.length_eq_zero_iff.1 hg0
     subst hGn
     have hes:s.stk=[(f.p,f.xs)]:=hI.es
     obtain ⟨F1,F2,F3,F4,F5⟩:=hI.fr f List.mem_cons_self
     have hrow:oH oid=some (.row (.int .i64 f.p :: f.v :: J) 2 true):=hI.row
     have hcc:=hI.pc.hc
     have hat:=hI.pc.at_
     have hb1:=hB.b1
     have hxs:=hB.b2 (f.p,f.xs) (by rw [hes]; exact List.mem_cons_self)
     simp only at hxs
     have t10':oT 10=sl oid 0 1:=t10
     have c0:¬ (1:Int) < ((1:Nat):Int):=by decide
     have hx1:idxA 2 (sl oid 0 1) (.int .i64 0)=some (ptr oid 0):=rfl
     ((repeat(first|((with_reducible first|apply Wp.gs|apply Wp.cs|apply Zc|apply Zg|apply Zd|apply Zi|apply Zn|apply Wp.step);case h=>((try simp(disch:=omega)only[↓reduceIte,Za,↓X0,X1,Nat.reduceEqDiff,Int.reduceEq,Nat.reduceAdd,Nat.reduceSub,X2,Ze,Nat.reduceLeDiff,t9,t10',c0,hcc]);with_reducible first|done|exact rfl|exact bT|exact bF))|apply Zf|apply Zj|with_reducible apply Zk|simp only[↓X3]|with_reducible apply Zb));try(with_reducible apply Zm;case h=>((try simp(disch:=omega)only[X1,Nat.reduceEqDiff,t9,t10',c0,hcc]);with_reducible exact rfl)))
     refine Wp.rt (k48 ((hat.lst hpid).mv (by omega) (by intros;first|with_reducible rfl|simp(disch:=omega)only[Ze,Zh])) (fun x hx=>by have:=hB.b4 x hx; omega) (by omega)) ?_
     intro H3 n3 q3 s3
     by_cases hok:PoolOk s.out
     ·have hfin:rdFin w s=⟨s.out,f.xs,0,w.size⟩:=by unfold rdFin; rw [hes]; simp only; rw [if_pos hok]
      rw [hfin]
      ((repeat(first|((with_reducible first|apply Wp.gs|apply Wp.cs|apply Zc|apply Zg|apply Zd|apply Zi|apply Zn|apply Wp.step);case h=>((try simp(disch:=omega)only[↓reduceIte,Za,↓X0,X1,Nat.reduceEqDiff,Int.reduceEq,Nat.reduceAdd,Nat.reduceSub,X2,Ze,Nat.reduceLeDiff,hok,t9,t10',hx1,hcc,s3,bsl_zero,hrow]);with_reducible first|done|exact rfl|exact bT|exact bF))|apply Zf|apply Zj|with_reducible apply Zk|simp only[↓X3]|with_reducible apply Zb));try(with_reducible apply Zm;case h=>((try simp(disch:=omega)only[X1,Nat.reduceEqDiff,hok,t9,t10',hx1,hcc,s3,bsl_zero,hrow]);with_reducible exact rfl)))
      simp(disch:=omega)only[↓reduceIte,Za,↓X0,X1,Nat.reduceEqDiff,Int.reduceEq,Nat.reduceAdd,Nat.reduceSub]
      refine Wp.appL (E:=eInt) (l:=[]) (id:=n3+1) (n:=on) (.inr ⟨rfl,Zh _ _ _⟩) ((F1.lst F3).mv (Nat.le_refl _) (by intros;first|with_reducible rfl|simp(disch:=omega)only[Ze,Zh,s3])) (by decide) (by simp only [List.length_nil]; omega) ?_
      intro v' H4 a1 a2
      have hnt:notTup v'=true:=by rcases a1 with ⟨rfl,_⟩ | ⟨rfl,_⟩ <;> rfl
      (repeat(first|((with_reducible first|apply Wp.gs|apply Wp.cs|apply Zc|apply Zg|apply Zd|apply Zi|apply Zn|apply Wp.step);case h=>((try simp(disch:=omega)only[↓reduceIte,Za,↓X0,X1,Nat.reduceEqDiff,Int.reduceEq,Nat.reduceAdd,Nat.reduceSub,X2,Ze,Nat.reduceLeDiff,t9,t1,t4,a2,hcc,s3,l1,hnt]);with_reducible first|done|exact rfl|exact bT|exact bF))|apply Zf|apply Zj|with_reducible apply Zk|simp only[↓X3]|with_reducible apply Zb))
      exact Wp.pure ⟨by simp only; omega,(by intros;first|with_reducible rfl|simp(disch:=omega)only[Ze,Zh,a2,s3,llo]),u2,v',rfl,⟨pid,n3+6,by omega,by simp only; omega,by omega,by simp only; omega,by omega,hat.mv (by simp (disch:=omega) only [Ze,a2,s3]),by simpa using a1.mv (Ze _ _ (by omega))⟩,hok,by omega⟩
     ·have hfin:rdFin w s=⟨[],[],6,0⟩:=by unfold rdFin; rw [hes]; simp only; rw [if_neg hok]
      rw [hfin]
      ((repeat(first|((with_reducible first|apply Wp.gs|apply Wp.cs|apply Zc|apply Zg|apply Zd|apply Zi|apply Zn|apply Wp.step);case h=>((try simp(disch:=omega)only[↓reduceIte,Za,↓X0,X1,Nat.reduceEqDiff,Int.reduceEq,Nat.reduceAdd,Nat.reduceSub,X2,Ze,Nat.reduceLeDiff,hok,t2,l0,s3]);with_reducible first|done|exact rfl|exact bT|exact bF))|apply Zf|apply Zj|with_reducible apply Zk|simp only[↓X3]|with_reducible apply Zb));try(with_reducible apply Zm;case h=>((try simp(disch:=omega)only[X1,Nat.reduceEqDiff,hok,t2,l0,s3]);with_reducible exact rfl)))
      refine Wp.rtn (k50 (l:=[]) (v:=nilS) Li.nil (by simp)) ?_
      rintro _ H4 n4 q4 s4 ⟨u4,rfl,id4,j1,j2,j3⟩
      (repeat(first|((with_reducible first|apply Wp.gs|apply Wp.cs|apply Zc|apply Zg|apply Zd|apply Zi|apply Zn|apply Wp.step);case h=>((try simp(disch:=omega)only[↓reduceIte,Za,↓X0,X1,Nat.reduceEqDiff,Int.reduceEq,Nat.reduceAdd,Nat.reduceSub,X2,Ze,Nat.reduceLeDiff,s3,s4,l1,t4,t8]);with_reducible first|done|exact rfl|exact bT|exact bF))|apply Zf|apply Zj|with_reducible apply Zk|simp only[↓X3]|with_reducible apply Zb))
      exact Wp.pure ⟨by simp only; omega,(by intros;first|with_reducible rfl|simp(disch:=omega)only[Ze,Zh,s4,s3,llo]),u4,_,rfl,⟨id4,n+5,by omega,by simp only; omega,by omega,by simp only; omega,by omega,j3.mv (Ze _ _ (by omega)),.inr ⟨t8,by simp (disch:=omega) only [Ze,Zh,s3,s4,l5]; rfl⟩⟩,PoolOk_nil',Nat.zero_le _⟩
    ·have hfin:rdFin w s=⟨[],[],4,f.p⟩:=by
      cases G with
      | nil=>exact absurd rfl hg0
      | cons g G =>
       have hes:s.stk=f.m :: g.m :: G.map RFr.m:=hI.es
       unfold rdFin; rw [hes]; rfl
     rw [hfin]
     have c1:(1:Int) < ((G.length+1:Nat):Int):=by omega
     obtain ⟨cs,hcs⟩:∃ cs,cs=rows G++(.int .i64 f.p :: f.v :: J):=⟨_,rfl⟩
     have hrow:oH oid=some (.row cs 2 true):=by rw [hI.row,hcs]
     have hget:cs[G.length * 2]?=some (.int .i64 f.p):=by
      rw [hcs,List.getElem?_append_right (by rw [rows_len]; omega),rows_len,show G.length * 2 - G.length * 2=0 by omega]; rfl
     have hx1:idxA 2 (sl oid 0 (G.length+1)) (.int .i64 (G.length:Int))=some (ptr oid (G.length * 2)):=idx_sl (by omega)
     ((repeat(first|((with_reducible first|apply Wp.gs|apply Wp.cs|apply Zc|apply Zg|apply Zd|apply Zi|apply Zn|apply Wp.step);case h=>((try simp(disch:=omega)only[↓reduceIte,Za,↓X0,X1,Nat.reduceEqDiff,Int.reduceEq,Nat.reduceAdd,Nat.reduceSub,X2,Ze,Nat.reduceLeDiff,t2,t10,c1,l0]);with_reducible first|done|exact rfl|exact bT|exact bF))|apply Zf|apply Zj|with_reducible apply Zk|simp only[↓X3]|with_reducible apply Zb));try(with_reducible apply Zm;case h=>((try simp(disch:=omega)only[X1,Nat.reduceEqDiff,t2,t10,c1,l0]);with_reducible exact rfl)))
     refine Wp.rtn (k50 (l:=[]) (v:=nilS) Li.nil (by simp)) ?_
     rintro _ H4 n4 q4 s4 ⟨u4,rfl,id4,j1,j2,j3⟩
     (repeat(first|((with_reducible first|apply Wp.gs|apply Wp.cs|apply Zc|apply Zg|apply Zd|apply Zi|apply Zn|apply Wp.step);case h=>((try simp(disch:=omega)only[↓reduceIte,Za,↓X0,X1,Nat.reduceEqDiff,Int.reduceEq,Nat.reduceAdd,Nat.reduceSub,X2,Ze,Nat.reduceLeDiff,s4,t10,hG,hx1,hrow,hget,l1,t4,t8]);with_reducible first|done|exact rfl|exact bT|exact bF))|apply Zf|apply Zj|with_reducible apply Zk|simp only[↓X3]|with_reducible apply Zb))
     exact Wp.pure ⟨by simp only; omega,(by intros;first|with_reducible rfl|simp(disch:=omega)only[Ze,Zh,s4,llo]),u4,_,rfl,⟨id4,n+5,by omega,by simp only; omega,by omega,by simp only; omega,by omega,j3.mv (Ze _ _ (by omega)),.inr ⟨t8,by simp (disch:=omega) only [Ze,Zh,s4,l5]; rfl⟩⟩,PoolOk_nil',Nat.zero_le _⟩
   ·simp only at e1 e5 e6 e7 e4 j2 j3 j4
    rw [rdAns_err hbig hR]
    simp(disch:=omega)only[↓reduceIte,Za,↓X0,X1,Nat.reduceEqDiff,Int.reduceEq,Nat.reduceAdd,Nat.reduceSub,e4,e5,e6,e7]
    (repeat(first|((with_reducible first|apply Wp.gs|apply Wp.cs|apply Zc|apply Zg|apply Zd|apply Zi|apply Zn|apply Wp.step);case h=>((try simp(disch:=omega)only[↓reduceIte,Za,↓X0,X1,Nat.reduceEqDiff,Int.reduceEq,Nat.reduceAdd,Nat.reduceSub,X2,Ze,Nat.reduceLeDiff,j4,e4,e5,e6,e7]);with_reducible first|done|exact rfl|exact bT|exact bF))|apply Zf|apply Zj|with_reducible apply Zk|simp only[↓X3]|with_reducible apply Zb))
    refine Wp.pure ⟨by simp only; omega,fun i hi=>?_,u2,_,rfl,⟨id2,n+5,by omega,j2,by omega,by simp only; omega,by omega,j3,.inr ⟨rfl,?_⟩⟩,PoolOk_nil',Nat.zero_le _⟩
    ·show oH i=H i
     rw [e1 i (by omega) (by omega)]; exact mlo i hi
    ·show oH (n+5)=_
     rw [e1 (n+5) (by omega) (by omega)]; exact m5
end Go.Proofs.Ytbgkimkbngocjaa.Ax
set_option linter.unusedVariables false
set_option linter.unusedSimpArgs false
set_option maxHeartbeats 4000000
namespace Go.Proofs.Ytbgkimkbngocjaa.Ax
open Go
def strsOk:Nat→List (Nat × Nat × Value)→Bool
 | _,[]=>true
 | k,(o,z,.string _) :: r=>o == k && (z == 1 && strsOk (k+1) r)
 | _,_ :: _=>false
def strsOf:List (Nat × Nat × Value)→List ByteArray
 | []=>[]
 | (_,_,.string s) :: r=>s :: strsOf r
 | _ :: r=>strsOf r
theorem strs_fill:∀ (parts:List (Nat × Nat × Value)) (A:List Value),strsOk A.length parts=true→fill (A++List.replicate parts.length (.string ⟨#[]⟩)) parts=some (A++(strsOf parts).flatMap eStr.cells)
 | [],A,_=>by simp [fill,strsOf]
 | (o,z,.string s) :: r,A,h=>by
  simp only [strsOk,Bool.and_eq_true,beq_iff_eq] at h
  obtain ⟨rfl,rfl,h⟩:=h
  have ih:=strs_fill r (A++[.string s]) (by simpa using h)
  have e:setAt (A++List.replicate (r.length+1) (.string ⟨#[]⟩)) A.length [.string s]=(A++[.string s])++List.replicate r.length (.string ⟨#[]⟩):=by
   have:=setAt_right A (List.replicate (r.length+1) (.string ⟨#[]⟩)) [.string s] 0
   refine this.trans ?_
   rw [List.replicate_succ,List.append_assoc]
   rfl
  rw [fill,List.length_cons,show vcells (.string s)=some [.string s] from rfl,Option.bind_some,if_pos (by simp),e,ih]
  simp [strsOf,eStr]
theorem Wp.bslS (P:ByteArray→Bool) {id cnt:Nat} {parts:List (Nat × Nat × Value)} {H:Hp} {β:Type} {g:Value × Hp→Option β} {Q:β→Prop} (h1:strsOk 0 parts=true) (hc:parts.length=cnt) (hcn:cnt≤1000) (hP:(strsOf parts).all P=true) (hne:strsOf parts≠[])
  (k:∀ (xs:List ByteArray) (H':Hp),xs≠[]→(∀ x∈xs,P x=true)→(∀ i,i≠id→H' i=H i)→At eStr id H' (sl id 0 cnt) xs→Wp (g (sl id 0 cnt,H')) Q):Wp ((bsl id 1 cnt [.string ⟨#[]⟩] parts H).bind g) Q:=by
 have hf:=strs_fill parts [] h1
 rw [List.nil_append,List.nil_append,hc] at hf
 have hlen:∀ (k:Nat) (p:List (Nat × Nat × Value)),strsOk k p=true→(strsOf p).length=p.length:=by
  intro k p
  induction p generalizing k with
  | nil=>intro _; rfl
  | cons a r ih =>
   intro h
   obtain ⟨o,z,v⟩:=a
   cases v <;> simp [strsOk] at h
   simp [strsOf,ih (k+1) h.2.2]
 have hl:=hlen 0 parts h1
 obtain ⟨e1,e2⟩:=bsl_new eStr (id:=id) (cnt:=cnt) (zero:=[.string ⟨#[]⟩]) (parts:=parts) (H:=H) (strsOf parts) ⟨by show cnt * 1≤_; omega,rfl⟩ (by omega) (by rw [show (List.replicate cnt [Value.string ⟨#[]⟩]).flatten=List.replicate cnt (Value.string ⟨#[]⟩) from by simp]; exact hf)
 rw [show (bsl id 1 cnt [.string ⟨#[]⟩] parts H)=_ from e1]
 exact k (strsOf parts) _ hne (fun x hx=>List.all_eq_true.1 hP x hx) (fun i hi=>Ze _ _ hi) e2
def tx0 (x:ByteArray):Bool:=decide (1≤x.size) && decide ((Zt x).headD 32≠32)
def sz12 (x:ByteArray):Bool:=decide (x.size≤12)
def tx12 (x:ByteArray):Bool:=tx0 x && decide (x.size≤12)
def tx400 (x:ByteArray):Bool:=tx0 x && decide (x.size≤400)
theorem tx0_app {a:ByteArray} (b:ByteArray) (h:tx0 a=true):tx0 (a++b)=true:=by
 simp only [tx0,Bool.and_eq_true,decide_eq_true_eq,ne_eq] at h ⊢
 obtain ⟨h1,h2⟩:=h
 refine ⟨by rw [ByteArray.size_append]; omega,?_⟩
 rw [nums_app]
 cases hc:Zt a with
 | nil=>have:=numsOf_length a; rw [hc] at this; simp at this; omega
 | cons y l=>rw [hc] at h2; simpa using h2
theorem Wp.saddL {x:Array UInt8} {b:ByteArray} {β:Type} {g:Value→Option β} {Q:β→Prop} (hx:tx12 ⟨x⟩=true) (hb:b.size≤100000) (k:∀ c,c.size≤12+b.size→tx0 c=true→Wp (g (.string c)) Q):Wp ((Zr .plain .add (.string ⟨x⟩) (.string b)).bind g) Q:=by
 simp only [tx12,Bool.and_eq_true,decide_eq_true_eq] at hx
 rw [s_add (by omega)]
 exact k _ (by rw [ByteArray.size_append]; omega) (tx0_app _ hx.1)
theorem Wp.saddR {x:Array UInt8} {a:ByteArray} {β:Type} {g:Value→Option β} {Q:β→Prop} (hx:decide (ByteArray.size ⟨x⟩≤12)=true) (ha:tx0 a=true) (hb:a.size≤100000) (k:∀ c,c.size≤a.size+12→tx0 c=true→Wp (g (.string c)) Q):Wp ((Zr .plain .add (.string a) (.string ⟨x⟩)).bind g) Q:=by
 simp only [decide_eq_true_eq] at hx
 rw [s_add (by omega)]
 exact k _ (by rw [ByteArray.size_append]; omega) (tx0_app _ ha)
theorem Wp.saddV {a b:ByteArray} {β:Type} {g:Value→Option β} {Q:β→Prop} (ha:tx0 a=true) (h1:a.size≤100000) (h2:b.size≤100000) (k:∀ c,c.size≤a.size+b.size→tx0 c=true→Wp (g (.string c)) Q):Wp ((Zr .plain .add (.string a) (.string b)).bind g) Q:=by
 rw [s_add (by omega)]
 exact k _ (by rw [ByteArray.size_append]; omega) (tx0_app _ ha)
theorem k77 (H:Hp) (n:Nat):RtN Try.prog 77 [] H n (fun r H' n'=>∃ xs:List ByteArray,xs≠[]∧(∀ x∈xs,tx400 x=true)∧New eStr n n' H' r xs):=by
 apply RtN.mk
 rw [c77]; unfold S77
 refine Wp.bslS tx400 (by decide +kernel) (by decide +kernel) (by decide) (by decide +kernel) (by simp [strsOf]) ?_
 intro xs H1 h1 h2 s1 h3
 (repeat(first|((with_reducible first|apply Wp.gs|apply Wp.cs|apply Zc|apply Zg|apply Zd|apply Zi|apply Wp.step);case h=>((try simp(disch:=omega)only[↓reduceIte,Za,↓X0,X1,Nat.reduceEqDiff,Int.reduceEq,Nat.reduceAdd,Nat.reduceSub]);with_reducible first|done|exact rfl|exact bT|exact bF))|apply Zf|apply Zj|with_reducible apply Zk|simp only[↓X3]|with_reducible apply Zb))
 exact Wp.pure ⟨by simp only; omega,fun i hi=>s1 i (by omega),xs,h1,h2,n+1,by omega,by simp only; omega,h3⟩
end Go.Proofs.Ytbgkimkbngocjaa.Ax
set_option linter.unusedVariables false
set_option linter.unusedSimpArgs false
namespace Go.Proofs.Ytbgkimkbngocjaa.Ax
open Go
def chain (l:List Nd):Nat→Int→List Int × Bool
 | 0,_=>([],false)
 | f+1,v=>if (gi l v).k=5 then ((gi l v).a :: (chain l f (gi l v).b).1,(chain l f (gi l v).b).2) else ([],decide ((gi l v).k=1))
theorem chain_fuel {l:List Nd} (hp:PoolOk l):∀ (f g:Nat) (v:Int),0≤v→v < l.length→v < f→v < g→chain l f v=chain l g v
 | 0,_,v,h0,_,hf,_=>by omega
 | _,0,v,h0,_,_,hg=>by omega
 | f+1,g+1,v,h0,h1,hf,hg=>by
  unfold chain
  by_cases hk:(gi l v).k=5
  ·have:=(hp.at h0 h1).pair hk
   rw [if_pos hk,if_pos hk,chain_fuel hp f g _ this.2.1 (by omega) (by omega) (by omega)]
  ·rw [if_neg hk,if_neg hk]
def Zv (l:List Nd) (v:Int):List Int × Bool:=chain l (v.toNat+1) v
theorem chainOf_eq {l:List Nd} (hp:PoolOk l) {v:Int} (h0:0≤v) (h1:v < l.length):Zv l v=if (gi l v).k=5 then ((gi l v).a :: (Zv l (gi l v).b).1,(Zv l (gi l v).b).2) else ([],decide ((gi l v).k=1)):=by
 unfold Zv
 rw [chain]
 by_cases hk:(gi l v).k=5
 ·have:=(hp.at h0 h1).pair hk
  rw [if_pos hk,if_pos hk,chain_fuel hp v.toNat ((gi l v).b.toNat+1) _ this.2.1 (by omega) (by omega) (by omega)]
 ·rw [if_neg hk,if_neg hk]
theorem chain_len (l:List Nd):∀ (f:Nat) (v:Int),(chain l f v).1.length≤f
 | 0,v=>by simp [chain]
 | f+1,v=>by
  unfold chain
  split
  ·simp only [List.length_cons]; have:=chain_len l f (gi l v).b; omega
  ·simp
theorem chainOf_len {l:List Nd} {v:Int} (h0:0≤v) (h1:v < l.length):(Zv l v).1.length≤l.length:=by
 have:=chain_len l (v.toNat+1) v
 unfold Zv; omega
theorem l94 {n0 b:Nat} {H0:Hp} {v:Value} {l:List Nd} {cs:List Value} {e:Nat} {rw_:Bool} (hv:Li eNode n0 H0 v l) (hp:PoolOk l) (hbn:b < n0) (hb:H0 b=some (.row cs e rw_)) (ho:cs[0]?=some v) (w:Int) (h0:0≤w) (h1:w < l.length):∀ t H n id,n0≤n→Same n0 H0 H→n0≤id→id < n→t 2=ptr b 0→t 1=.int .i64 w→t 6=sl id 0 0→H id=some (.row [] 1 true) →
  Wp (Yf (S94L0 (Call Try.prog) Yf) t H n) (fun out=>n≤out.n∧Same n0 H0 out.H∧out.e=.exit 0∧out.t 2=ptr b 0∧∃ (u:Int) (id:Nat),0≤u∧u < l.length∧out.t 1=.int .i64 u∧(Zv l w).2=decide ((gi l u).k=1)∧n0≤id∧id < out.n∧At eInt id out.H (out.t 6) (Zv l w).1):=by
 intro t H n id hn0 hsm0 hid hidn e0 e1 e6 hH
 have hl:=hp.2
 refine Loop_rule (fun d T H' n'=>∃ (u:Int) (id:Nat) (acc:List Int),0≤u∧u < l.length∧d=u.toNat∧n≤n'∧Same n0 H0 H'∧T 2=ptr b 0∧T 1=.int .i64 u∧n0≤id∧id < n'∧At eInt id H' (T 6) acc∧(acc++(Zv l u).1=(Zv l w).1)∧(Zv l u).2=(Zv l w).2) _ ?_ w.toNat t H n ⟨w,id,[],h0,h1,rfl,by omega,hsm0,e0,e1,hid,hidn,by rw [e6]; exact .inr ⟨rfl,hH⟩,by simp,rfl⟩
 rintro d T H' n' ⟨u,id,acc,hu0,hu1,hd,hn,hsm,e0,e1,hid,hidn,hat,hc1,hc2⟩
 unfold S94L0
 have hv':=hv.keep hsm (Nat.le_refl _)
 have hb':H' b=some (.row cs e rw_):=by rw [hsm b hbn]; exact hb
 have g:=hv'.nAll hu0 hu1
 have hce:=chainOf_eq hp hu0 hu1
 by_cases hk:(gi l u).k=5
 ·have hpr:=(hp.at hu0 hu1).pair hk
  rw [if_pos hk] at hce
  rw [hce] at hc1 hc2
  simp only at hc1 hc2
  have hlen:acc.length≤3000:=by
   have hle:=congrArg List.length hc1
   rw [List.length_append] at hle
   have:=chainOf_len h0 h1
   omega
  obtain ⟨H3,f1,f2,f3⟩:=app_one (id1:=n'+14) (id2:=n'+15) (bytes:=8) (gi l u).a hat (by omega) (by decide) (by omega)
  have hsm3:Same n0 H0 H3:=fun i hi=>by rw [f3 i (by omega) (by omega) (by omega),hsm i hi]
  have g3:=(hv.keep hsm3 (Nat.le_refl _)).nAll hu0 hu1
  have hb3:H3 b=some (.row cs e rw_):=by rw [hsm3 b hbn]; exact hb
  (repeat(first|((with_reducible first|apply Wp.gs|apply Wp.cs|apply Zc|apply Zg|apply Zd|apply Zi|apply Wp.step);case h=>((try simp(disch:=omega)only[↓reduceIte,Za,↓X0,X1,Nat.reduceEqDiff,Int.reduceEq,Nat.reduceAdd,Nat.reduceSub,e0,e1,Nat.add_zero,ld_r,hb',rowGet_row,ho,g,hk,bsl_one eInt (gi l u).a (n'+14) [.int .i64 0] (.int .i64 (gi l u).a) H' rfl rfl (by decide),f1,hb3,g3]);with_reducible first|done|exact rfl|exact bT|exact bF))|apply Zf|apply Zj|with_reducible apply Zk|simp only[↓X3]|with_reducible apply Zb))
  exact Wp.pure (Nxt.go (gi l u).b.toNat (by omega) ⟨(gi l u).b,n'+15,acc++[(gi l u).a],hpr.2.1,by omega,rfl,by omega,hsm3,by simp [Zl,e0],by simp [Zl],by omega,by omega,by simp only [Zl]; exact .inr ⟨rfl,f2⟩,by rw [List.append_assoc]; exact hc1,hc2⟩)
 ·rw [if_neg hk] at hce
  rw [hce] at hc1 hc2
  (repeat(first|((with_reducible first|apply Wp.gs|apply Wp.cs|apply Zc|apply Zg|apply Zd|apply Zi|apply Wp.step);case h=>((try simp(disch:=omega)only[↓reduceIte,Za,↓X0,X1,Nat.reduceEqDiff,Int.reduceEq,Nat.reduceAdd,Nat.reduceSub,e0,e1,Nat.add_zero,ld_r,hb',rowGet_row,ho,g,hk]);with_reducible first|done|exact rfl|exact bT|exact bF))|apply Zf|apply Zj|with_reducible apply Zk|simp only[↓X3]|with_reducible apply Zb))
  refine Wp.pure (Nxt.exit ⟨Nat.le_trans hn (Nat.le_add_right _ _),hsm,rfl,by simp [Zl,e0],u,id,hu0,hu1,by simp [Zl,e1],hc2.symm,hid,Nat.lt_of_lt_of_le hidn (Nat.le_add_right _ _),?_⟩)
  rw [← hc1,List.append_nil]
  simpa [Zl] using hat
def listOf (l:List Nd) (w:Int):List Int × Bool:=if (Zv l w).2=true then ((Zv l w).1,true) else ([],false)
theorem k94 {n:Nat} {H:Hp} {v:Value} {l:List Nd} (hv:Li eNode n H v l) (hp:PoolOk l) (w:Int) (h0:0≤w) (h1:w < l.length):RtN Try.prog 94 [.agg ⟨[v]⟩,.int .i64 w] H n (fun r H' n'=>∃ u,r=.tuple ⟨[u,.bool (listOf l w).2]⟩∧New eInt n n' H' u (listOf l w).1):=by
 apply RtN.of
 rw [c94]; unfold S94
 have s1:Same n H (H.set n (some (.row [v] 0 true))):=by (repeat (first | exact Same.refl _ _ | refine Same.set ?_ (by omega) _))
 (repeat(first|((with_reducible first|apply Wp.gs|apply Wp.cs|apply Zc|apply Zg|apply Zd|apply Zi|apply Wp.step);case h=>((try simp(disch:=omega)only[↓reduceIte,Za,↓X0,X1,Nat.reduceEqDiff,Int.reduceEq,Nat.reduceAdd,Nat.reduceSub,X2,Ze,Nat.reduceLeDiff,bsl_zero]);with_reducible first|done|exact rfl|exact bT|exact bF))|apply Zf|apply Zj|with_reducible apply Zk|simp only[↓X3]|with_reducible apply Zb))
 refine Wp.bind (l94 (n0:=n+1) (b:=n) (H0:=H.set n (some (.row [v] 0 true))) ((hv.keep s1 (Nat.le_refl _)).up (by omega)) hp (by omega) (Zh _ _ _) rfl w h0 h1 _ _ _ (n+3) (by omega) ((Same.refl _ _).set (by omega) _) (by omega) (by omega) (by simp [Zl]) (by simp [Zl,Zq]) (by simp [Zl]) (Zh _ _ _)) ?_
 rintro ⟨oe,ot,oH,on⟩ ⟨f2,f3,f4,f5,u,id,f6,f7,f8,f9,f10,f11,f12⟩
 simp only at f2 f3 f4 f5 f6 f7 f8 f9 f10 f11 f12
 have g:=((hv.keep s1 (Nat.le_refl _)).keep (f3.less (show n≤n+1 by omega)) (Nat.le_refl _)).nAll f6 f7
 have hb':oH n=some (.row [v] 0 true):=by rw [f3 n (by omega)]; exact Zh _ _ _
 have hnt:notTup (ot 6)=true:=by rcases f12 with ⟨h,_⟩ | ⟨h,_⟩ <;> rw [h] <;> rfl
 have s3:Same n H oH:=s1.trans (f3.less (show n≤n+1 by omega)) (Nat.le_refl _)
 unfold listOf
 by_cases hk:(gi l u).k=1
 ·rw [decide_eq_true hk] at f9
  ((repeat(first|((with_reducible first|apply Wp.gs|apply Wp.cs|apply Zc|apply Zg|apply Zd|apply Zi|apply Wp.step);case h=>((try simp(disch:=omega)only[↓reduceIte,Za,↓X0,X1,Nat.reduceEqDiff,Int.reduceEq,Nat.reduceAdd,Nat.reduceSub,X2,Ze,Nat.reduceLeDiff,f5,f8,hb',g,hk,hnt]);with_reducible first|done|exact rfl|exact bT|exact bF))|apply Zf|apply Zj|with_reducible apply Zk|simp only[↓X3]|with_reducible apply Zb));try(with_reducible apply Zm;case h=>((try simp(disch:=omega)only[X1,Nat.reduceEqDiff,f5,f8,hb',g,hk,hnt]);with_reducible exact rfl)))
  rw [f9]
  exact Wp.pure ⟨by simp only; omega,s3,ot 6,rfl,id,by omega,by simp only; omega,f12⟩
 ·rw [decide_eq_false hk] at f9
  ((repeat(first|((with_reducible first|apply Wp.gs|apply Wp.cs|apply Zc|apply Zg|apply Zd|apply Zi|apply Wp.step);case h=>((try simp(disch:=omega)only[↓reduceIte,Za,↓X0,X1,Nat.reduceEqDiff,Int.reduceEq,Nat.reduceAdd,Nat.reduceSub,X2,Ze,Nat.reduceLeDiff,f5,f8,hb',g,hk,bsl_zero]);with_reducible first|done|exact rfl|exact bT|exact bF))|apply Zf|apply Zj|with_reducible apply Zk|simp only[↓X3]|with_reducible apply Zb));try(with_reducible apply Zm;case h=>((try simp(disch:=omega)only[X1,Nat.reduceEqDiff,f5,f8,hb',g,hk,bsl_zero]);with_reducible exact rfl)))
  rw [f9]
  exact Wp.pure ⟨by simp only; omega,s3.set (by omega) _,_,rfl,on+7,by omega,by simp only; omega,.inr ⟨rfl,Zh _ _ _⟩⟩
end Go.Proofs.Ytbgkimkbngocjaa.Ax
set_option linter.unusedVariables false
set_option linter.unusedSimpArgs false
namespace Go.Proofs.Ytbgkimkbngocjaa.Ax
open Go
def fIdx (s:ByteArray):List ByteArray→Nat→Option Nat
 | [],_=>none
 | x :: l,j=>if s=x then some j else fIdx s l (j+1)
end Go.Proofs.Ytbgkimkbngocjaa.Ax
set_option linter.unusedVariables false
set_option linter.unusedSimpArgs false
namespace Go.Proofs.Ytbgkimkbngocjaa.Ax
open Go
structure CS where
 how:Int
 L:List Ins
 D:List Df
abbrev Env:=List (List ByteArray)
def Yd (op n i:Int):Ins:=⟨op,n,i,⟨#[]⟩⟩
def cFail (h:Int) (s:CS):CS:=if s.how=0 then ⟨h,s.L,s.D⟩ else s
def cPut (x:Ins) (s:CS):CS:=if s.how=0 then (if s.L.length=400 then ⟨3,s.L,s.D⟩ else ⟨0,s.L++[x],s.D⟩) else s
def setN (L:List Ins) (at_:Nat):List Ins:=L.set at_ ⟨(gi L (at_:Int)).op,(L.length:Int),(gi L (at_:Int)).i,(gi L (at_:Int)).s⟩
def cTo (at_:Nat) (s:CS):CS:=if s.how=0 then ⟨0,setN s.L at_,s.D⟩ else s
def wQuote:ByteArray:=⟨#[113,117,111,116,101]⟩
def wIf:ByteArray:=⟨#[105,102]⟩
def wFn:ByteArray:=⟨#[102,110]⟩
def wDo:ByteArray:=⟨#[100,111]⟩
def wLet:ByteArray:=⟨#[108,101,116]⟩
def wDefine:ByteArray:=⟨#[100,101,102,105,110,101]⟩
def wMain:ByteArray:=⟨#[109,97,105,110]⟩
def special (s:ByteArray):Bool:=decide (s=wQuote∨s=wIf∨s=wFn∨s=wDo∨s=wLet∨s=wDefine)
def isVar (x:Nd):Bool:=decide (x.k=4) && !special x.s
def noDup (l:List ByteArray):Bool:=(List.range l.length).all fun i=>(fIdx (gi l (i:Int)) (l.take i) 0).isNone
def cNames (p:List Nd) (l:List Int):List ByteArray × Int :=
 if (l.all fun v=>isVar (gi p v))=true∧l.length≤4 then
  (if noDup (l.map fun v=>(gi p v).s)=true then (l.map fun v=>(gi p v).s,0) else ([],2))
 else ([],1)
def cVar (s:ByteArray):Env→Nat→Option (Nat × Nat)
 | [],_=>none
 | f :: r,n=>match fIdx s f 0 with
  | some i=>some (n,i)
  | none=>cVar s r (n+1)
def varIns (s:ByteArray) (e:Env):Ins:=match cVar s e 0 with
 | some (n,i)=>Yd 2 n i
 | none=>⟨3,0,0,s⟩
abbrev CEx:=Int→Env→CS→CS
def cBody (E:CEx) (e:Env):List Int→CS→CS
 | [],s=>s
 | v :: r,s=>r.foldl (fun s v=>E v e (cPut (Yd 9 0 0) s)) (E v e s)
def cFun (E:CEx) (names:List ByteArray) (body:List Int) (e:Env) (s:CS):CS :=
 let s1:=cPut (Yd 6 (s.L.length+2) names.length) s
 let s2:=cPut (Yd 5 0 0) s1
 let s3:=cBody E (names :: e) body s2
 let s4:=cPut (Yd 8 0 0) s3
 cTo s1.L.length s4
def cIf (E:CEx) (l:List Int) (e:Env) (s:CS):CS :=
 let s1:=E (gi l 1) e s
 let s2:=cPut (Yd 4 0 0) s1
 let s3:=E (gi l 2) e s2
 let s4:=cPut (Yd 5 0 0) s3
 let s5:=cTo s1.L.length s4
 let s6:=E (gi l 3) e s5
 cTo s3.L.length s6
def cFn (E:CEx) (p:List Nd) (params:List Int) (body:List Int) (e:Env) (s:CS):CS :=
 if (cNames p params).2=0 then cFun E (cNames p params).1 body e s else cFail (cNames p params).2 s
def cForm (E:CEx) (p:List Nd) (w:ByteArray) (l:List Int) (e:Env) (s:CS):CS :=
 if w=wQuote∧l.length=2 then cPut (Yd 1 (gi l 1) 0) s
 else if w=wIf∧l.length=4 then cIf E l e s
 else if w=wDo∧1 < l.length then cBody E e (l.drop 1) s
 else if w=wFn∧2 < l.length then (if (Zv p (gi l 1)).2=true then cFn E p (Zv p (gi l 1)).1 (l.drop 2) e s else cFail 1 s)
 else if w=wLet∧3 < l.length then
  (if (cNames p [gi l 1]).2=0 then cPut (Yd 7 0 1) (E (gi l 2) e (cFun E (cNames p [gi l 1]).1 (l.drop 3) e s)) else cFail (cNames p [gi l 1]).2 s)
 else cFail 1 s
def cExpr (p:List Nd):Nat→CEx
 | 0,_,_,s=>s
 | k+1,v,e,s =>
  if s.how=0 then
   if (gi p v).k=1∨(gi p v).k=2∨(gi p v).k=3 then cPut (Yd 1 v 0) s
   else if (gi p v).k=4 then (if special (gi p v).s=true then cFail 1 s else cPut (varIns (gi p v).s e) s)
   else if (gi p v).k=5∧(Zv p v).2=true then
    (if (gi p (gi (Zv p v).1 0)).k=4∧special (gi p (gi (Zv p v).1 0)).s=true then cForm (cExpr p k) p (gi p (gi (Zv p v).1 0)).s (Zv p v).1 e s
    else if 5 < (Zv p v).1.length then cFail 1 s
    else cPut (Yd 7 0 ((Zv p v).1.length - 1)) ((Zv p v).1.foldl (fun s x=>cExpr p k x e s) s))
   else cFail 1 s
  else s
def hasDef (name:ByteArray) (D:List Df):Bool:=D.any fun d=>decide (d.s=name)
def cDefine (E:CEx) (name:ByteArray) (params:List ByteArray) (body:List Int) (s:CS):CS :=
 if hasDef name s.D=true then cFail 2 s
 else cPut (Yd 8 0 0) (cBody E [params] body ⟨s.how,s.L,s.D++[⟨name,s.L.length,params.length⟩]⟩)
def cDefn (E:CEx) (p:List Nd) (l:List Int) (s:CS):CS :=
 if 2 < l.length∧(gi p (gi l 1)).k=5∧(Zv p (gi l 1)).2=true then
  (if isVar (gi p (gi (Zv p (gi l 1)).1 0))=true then
   (if (cNames p ((Zv p (gi l 1)).1.drop 1)).2=0 then cDefine E (gi p (gi (Zv p (gi l 1)).1 0)).s (cNames p ((Zv p (gi l 1)).1.drop 1)).1 (l.drop 2) s
   else cFail (cNames p ((Zv p (gi l 1)).1.drop 1)).2 s)
  else cFail 1 s)
 else cFail 1 s
def isDefine (p:List Nd) (v:Int):Bool:=decide ((gi p v).k=5∧(Zv p v).2=true∧(gi p (gi (Zv p v).1 0)).k=4∧(gi p (gi (Zv p v).1 0)).s=wDefine)
def cTop (E:CEx) (p:List Nd) (v:Int) (s:CS):CS :=
 if isDefine p v=true then cDefn E p (Zv p v).1 s else cDefine E wMain [] [v] s
theorem cFail_how {h:Int} {s:CS} (hs:s.how≠0):cFail h s=s:=by unfold cFail; rw [if_neg hs]
theorem cFail_no {h:Int} {s:CS} (hh:h≠0):(cFail h s).how≠0:=by
 unfold cFail; split
 ·exact hh
 ·assumption
theorem cPut_how {x:Ins} {s:CS} (hs:s.how≠0):cPut x s=s:=by unfold cPut; rw [if_neg hs]
theorem cTo_how {a:Nat} {s:CS} (hs:s.how≠0):cTo a s=s:=by unfold cTo; rw [if_neg hs]
theorem setN_len (L:List Ins) (a:Nat):(setN L a).length=L.length:=by simp [setN]
def Goes (f:CS→CS):Prop:=∀ s,(s.how≠0→f s=s)∧s.L.length≤(f s).L.length∧(f s).D=s.D
theorem Goes.put (x:Ins):Goes (cPut x):=fun s=>⟨cPut_how,by unfold cPut; (repeat' split) <;> simp,by unfold cPut; (repeat' split) <;> rfl⟩
theorem Goes.fail (h:Int):Goes (cFail h):=fun s=>⟨cFail_how,by unfold cFail; split <;> simp,by unfold cFail; split <;> rfl⟩
theorem Goes.to (a:Nat):Goes (cTo a):=fun s=>⟨cTo_how,by unfold cTo; split <;> simp [setN_len],by unfold cTo; split <;> rfl⟩
theorem Goes.id:Goes (fun s=>s):=fun s=>⟨fun _=>rfl,Nat.le_refl _,rfl⟩
theorem Goes.comp {f g:CS→CS} (hf:Goes f) (hg:Goes g):Goes (fun s=>g (f s)):=fun s=>by
 obtain ⟨a1,a2,a3⟩:=hf s
 obtain ⟨b1,b2,b3⟩:=hg (f s)
 refine ⟨fun h=>?_,Nat.le_trans a2 b2,b3.trans a3⟩
 have:=a1 h
 show g (f s)=s
 rw [this] at b1 ⊢
 exact b1 h
theorem Goes.fold {f:Int→CS→CS} (hf:∀ v,Goes (f v)):∀ l:List Int,Goes (fun s=>l.foldl (fun s v=>f v s) s)
 | []=>Goes.id
 | v :: l=>(hf v).comp (Goes.fold hf l)
theorem Goes.body {E:CEx} (hE:∀ v e,Goes (E v e)) (e:Env):∀ l:List Int,Goes (cBody E e l)
 | []=>Goes.id
 | v :: l=>(hE v e).comp (Goes.fold (f:=fun v s=>E v e (cPut (Yd 9 0 0) s)) (fun v=>(Goes.put _).comp (hE v e)) l)
theorem Goes.ite {c:Prop} [Decidable c] {f g:CS→CS} (hf:Goes f) (hg:Goes g):Goes (fun s=>if c then f s else g s):=by
 intro s
 by_cases h:c
 ·simp only [h,if_true]; exact hf s
 ·simp only [h,if_false]; exact hg s
theorem Goes.fun_ {E:CEx} (hE:∀ v e,Goes (E v e)) (names:List ByteArray) (body:List Int) (e:Env):Goes (cFun E names body e):=by
 intro s
 unfold cFun
 simp only
 have p1:=Goes.put (Yd 6 (s.L.length+2) names.length) s
 generalize cPut (Yd 6 (s.L.length+2) names.length) s=s1 at *
 have p2:=((((Goes.put (Yd 5 0 0)).comp (Goes.body hE (names :: e) body)).comp (Goes.put (Yd 8 0 0))).comp (Goes.to s1.L.length)) s1
 simp only at p2
 refine ⟨fun h=>?_,by omega,p2.2.2.trans p1.2.2⟩
 have:=p1.1 h
 subst this
 exact p2.1 h
theorem Goes.if_ {E:CEx} (hE:∀ v e,Goes (E v e)) (l:List Int) (e:Env):Goes (cIf E l e):=by
 intro s
 unfold cIf
 simp only
 have p1:=hE (gi l 1) e s
 generalize E (gi l 1) e s=s1 at *
 have p2:=((Goes.put (Yd 4 0 0)).comp (hE (gi l 2) e)) s1
 simp only at p2
 generalize E (gi l 2) e (cPut (Yd 4 0 0) s1)=s3 at *
 have p3:=((((Goes.put (Yd 5 0 0)).comp (Goes.to s1.L.length)).comp (hE (gi l 3) e)).comp (Goes.to s3.L.length)) s3
 simp only at p3
 refine ⟨fun h=>?_,by omega,p3.2.2.trans (p2.2.2.trans p1.2.2)⟩
 have h1:=p1.1 h
 subst h1
 have h2:=p2.1 h
 subst h2
 exact p3.1 h
theorem Goes.form {E:CEx} (hE:∀ v e,Goes (E v e)) (p:List Nd) (w:ByteArray) (l:List Int) (e:Env):Goes (cForm E p w l e):=by
 unfold cForm cFn
 refine Goes.ite (Goes.put _) (Goes.ite (Goes.if_ hE l e) (Goes.ite (Goes.body hE e _) (Goes.ite (Goes.ite (Goes.ite (Goes.fun_ hE _ _ e) (Goes.fail _)) (Goes.fail _)) (Goes.ite (Goes.ite ?_ (Goes.fail _)) (Goes.fail _)))))
 exact ((Goes.fun_ hE _ _ e).comp (hE _ e)).comp (Goes.put _)
theorem Goes.expr (p:List Nd):∀ (k:Nat) (v:Int) (e:Env),Goes (cExpr p k v e)
 | 0,v,e=>Goes.id
 | k+1,v,e=>by
  have hE:=Goes.expr p k
  intro s
  by_cases hs:s.how=0
  ·have:=(Goes.ite (c:=(gi p v).k=1∨(gi p v).k=2∨(gi p v).k=3) (Goes.put (Yd 1 v 0)) (Goes.ite (c:=(gi p v).k=4) (Goes.ite (c:=special (gi p v).s=true) (Goes.fail 1) (Goes.put (varIns (gi p v).s e))) (Goes.ite (c:=(gi p v).k=5∧(Zv p v).2=true) (Goes.ite (c:=(gi p (gi (Zv p v).1 0)).k=4∧special (gi p (gi (Zv p v).1 0)).s=true) (Goes.form hE p (gi p (gi (Zv p v).1 0)).s (Zv p v).1 e) (Goes.ite (c:=5 < (Zv p v).1.length) (Goes.fail 1) ((Goes.fold (f:=fun x s=>cExpr p k x e s) (fun x=>hE x e) (Zv p v).1).comp (Goes.put (Yd 7 0 ((Zv p v).1.length - 1)))))) (Goes.fail 1)))) s
   rw [cExpr,if_pos hs]
   exact this
  ·rw [cExpr,if_neg hs]
   exact ⟨fun _=>rfl,Nat.le_refl _,rfl⟩
def cAll (p:List Nd):List Int→Nat→CS→CS × Nat
 | [],i,s=>(s,i)
 | v :: r,i,s =>
  if (cTop (cExpr p p.length) p v s).how=0 then cAll p r (i+1) (cTop (cExpr p p.length) p v s) else (cTop (cExpr p p.length) p v s,i)
end Go.Proofs.Ytbgkimkbngocjaa.Ax
