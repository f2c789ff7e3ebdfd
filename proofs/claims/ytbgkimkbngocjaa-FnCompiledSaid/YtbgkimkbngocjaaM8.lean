/- What the law needs: laws of the abstract machine, and contracts of functions. -/
import Derived.Test.YtbgkimkbngocjaaM7
set_option linter.unusedVariables false
set_option linter.unusedSimpArgs false
set_option maxHeartbeats 4000000
namespace Go.Proofs.Ytbgkimkbngocjaa.Ax
open Go
theorem bld_ins (a b c:Int):bld [.int .i64 0,.int .i64 0,.int .i64 0,.string ⟨#[]⟩] [(0,1,.int .i64 a),(1,1,.int .i64 b),(2,1,.int .i64 c)]=some (.agg ⟨(Zw a b c).cells⟩):=rfl
theorem bld_ins2 (a b:Int):bld [.int .i64 0,.int .i64 0,.int .i64 0,.string ⟨#[]⟩] [(0,1,.int .i64 a),(1,1,.int .i64 b)]=some (.agg ⟨(Zw a b 0).cells⟩):=rfl
theorem bld_ins3 (a c:Int):bld [.int .i64 0,.int .i64 0,.int .i64 0,.string ⟨#[]⟩] [(0,1,.int .i64 a),(2,1,.int .i64 c)]=some (.agg ⟨(Zw a 0 c).cells⟩):=rfl
theorem bld_ins1 (a:Int):bld [.int .i64 0,.int .i64 0,.int .i64 0,.string ⟨#[]⟩] [(0,1,.int .i64 a)]=some (.agg ⟨(Zw a 0 0).cells⟩):=rfl
theorem bld_insS (a:Int) (s:ByteArray):bld [.int .i64 0,.int .i64 0,.int .i64 0,.string ⟨#[]⟩] [(0,1,.int .i64 a),(3,1,.string s)]=some (.agg ⟨(⟨a,0,0,s⟩:Ins).cells⟩):=rfl
theorem noDup_range {l:List ByteArray} (h:∀ i:Nat,i < l.length→fIdx (gi l (i:Int)) (l.take i) 0=none):noDup l=true:=by
 unfold noDup
 rw [List.all_eq_true]
 intro i hi
 rw [h i (by simpa using hi)]; rfl
theorem noDup_not {l:List ByteArray} {i k:Nat} (hi:i < l.length) (h:fIdx (gi l (i:Int)) (l.take i) 0=some k):noDup l=false:=by
 unfold noDup
 rw [List.all_eq_false]
 exact ⟨i,by simpa using hi,by rw [h]; simp⟩
theorem isVar_eq (x:Nd):isVar x=(decide (x.k=4) && !special x.s):=rfl
theorem names_take {p:List Nd} {l:List Int} {j:Nat} (h:j < l.length):(l.take (j+1)).map (fun v=>(gi p v).s)=(l.take j).map (fun v=>(gi p v).s)++[(gi p (gi l (j:Int))).s]:=by
 rw [take_next h,List.map_append,gi_nat h]; rfl
theorem cNames_bad {p:List Nd} {l:List Int} {v:Int} (hv:v∈l) (h:isVar (gi p v)=false):cNames p l=([],1):=by
 unfold cNames
 rw [if_neg]
 rintro ⟨h1,_⟩
 rw [List.all_eq_true] at h1
 have:=h1 v hv
 rw [h] at this; cases this
theorem cNames_long {p:List Nd} {l:List Int} (h:4 < l.length):cNames p l=([],1):=by
 unfold cNames
 rw [if_neg (by omega)]
theorem cNames_dup {p:List Nd} {l:List Int} (h:∀ v∈l,isVar (gi p v)=true) (hl:l.length≤4) (hd:noDup (l.map fun v=>(gi p v).s)=false):cNames p l=([],2):=by
 unfold cNames
 rw [if_pos ⟨List.all_eq_true.2 h,hl⟩,hd]; rfl
theorem cNames_ok {p:List Nd} {l:List Int} (h:∀ v∈l,isVar (gi p v)=true) (hl:l.length≤4) (hd:noDup (l.map fun v=>(gi p v).s)=true):cNames p l=(l.map fun v=>(gi p v).s,0):=by
 unfold cNames
 rw [if_pos ⟨List.all_eq_true.2 h,hl⟩,hd]; rfl
theorem cNames_rng (p:List Nd) (l:List Int):(0≤(cNames p l).2∧(cNames p l).2≤2)∧(cNames p l).1.length≤4:=by
 unfold cNames
 split
 ·rename_i h
  split
  ·simp [h.2]
  ·simp
 ·simp
theorem mem_take_next {l:List Int} {j:Nat} (hj:j < l.length) {v:Int} (hv:v∈l.take (j+1)):v∈l.take j∨v=gi l (j:Int):=by
 rw [take_next hj] at hv
 rcases List.mem_append.1 hv with h | h
 ·exact .inl h
 ·simp at h; right; rw [gi_nat hj]; exact h
theorem l0113 {c n0:Nat} {H0:Hp} {v w:Value} {cs:List Value} {p:List Nd} {l:List Int} (hv:Li eNode n0 H0 v p) (hc:H0 c=some (.row (v :: cs) 0 true)) (hcn:c < n0) (hw:Li eInt n0 H0 w l) (hr:∀ x∈l,0≤x∧x < (p.length:Int)) (hl:l.length≤1000000):∀ t H n id u,n0≤n→(∀ i,i < n0→H i=H0 i)→n0≤id→id < n→At eStr id H u []→t 0=ptr c 0→t 6=u→t 14=w→t 15=.int .i64 l.length→t 16=.int .i64 0 →
  Wp (Ya (S113L0 (Call Try.prog) Ya) t H n) (fun o=>n≤o.n∧(∀ i,i < n0→o.H i=H0 i)∧((o.e=.exit 0∧(∀ x∈l,isVar (gi p x)=true)∧∃ id u,n0≤id∧id < o.n∧o.t 6=u∧At eStr id o.H u (l.map fun x=>(gi p x).s))∨(o.e=.ret∧o.t 4=nilS∧o.t 5=.int .i64 1∧cNames p l=([],1)))):=by
 intro t H n id u hn0 s0 hid hidn hat e0 e6 e14 e15 e16
 refine Ye (fun d T H' n'=>∃ (j id:Nat) (u:Value),j+d=l.length∧n≤n'∧(∀ i,i < n0→H' i=H0 i)∧T 0=ptr c 0∧T 6=u∧T 14=w∧T 15=.int .i64 l.length∧T 16=.int .i64 j∧n0≤id∧id < n'∧At eStr id H' u ((l.take j).map fun x=>(gi p x).s)∧∀ x∈l.take j,isVar (gi p x)=true) _ ?_ l.length t H n ⟨0,id,u,by omega,by omega,s0,e0,e6,e14,e15,e16,hid,hidn,by simpa using hat,by simp⟩
 rintro d T H' n' ⟨j,id,u,hj,hn,s1,e0,e6,e14,e15,e16,hid,hidn,hat,hvar⟩
 subst e6
 unfold S113L0
 by_cases hlt:(j:Int) < l.length
 ·have hlt':j < l.length:=by omega
  have g:=(hw.mv (H':=H') (Nat.le_refl _) s1).iAll (i:=(j:Int)) (by omega) hlt
  have hmem:=gi_mem (l:=l) (i:=(j:Int)) (by omega) hlt
  have hrj:=hr _ hmem
  have hws:=wj (j:=j) (len:=l.length) hlt' (by omega)
  have hc':H' c=some (.row (v :: cs) 0 true):=by rw [s1 c hcn]; exact hc
  ((repeat(first|((with_reducible first|apply Wp.gs|apply Wp.cs|apply Zd|apply Zf|apply Zc|apply Zg|apply Wp.step);case h=>((try simp(disch:=omega)only[↓reduceIte,Za,↓X0,X1,Nat.reduceEqDiff,Int.reduceEq,Nat.reduceAdd,Nat.reduceSub,e0,e14,e15,e16,hlt,g]);with_reducible first|done|exact rfl|exact bT|exact bF))|apply Ze|apply Zh|with_reducible apply Zl|simp only[↓X3]|with_reducible apply Zb));try(with_reducible apply Zm;case h=>((try simp(disch:=omega)only[X1,Nat.reduceEqDiff,e0,e14,e15,e16,hlt,g]);with_reducible exact rfl)))
  refine Wp.rt (k90 (hv.mv (by omega) s1) hc' (by omega) _ hrj.1 hrj.2) ?_
  intro H1 n1 q1 t1
  by_cases k4:(gi p (gi l (j:Int))).k=4
  ·((repeat(first|((with_reducible first|apply Wp.gs|apply Wp.cs|apply Zd|apply Zf|apply Zc|apply Zg|apply Wp.step);case h=>((try simp(disch:=omega)only[↓reduceIte,Za,↓X0,X1,Nat.reduceEqDiff,Int.reduceEq,Nat.reduceAdd,Nat.reduceSub,X2,Zi,Nat.reduceLeDiff,k4]);with_reducible first|done|exact rfl|exact bT|exact bF))|apply Ze|apply Zh|with_reducible apply Zl|simp only[↓X3]|with_reducible apply Zb));try(with_reducible apply Zm;case h=>((try simp(disch:=omega)only[X1,Nat.reduceEqDiff,k4]);with_reducible exact rfl)))
   refine Wp.rt (k112 _ _ _) ?_
   intro H2 n2 q2 t2
   cases hsp:special (gi p (gi l (j:Int))).s with
   | true =>
    (repeat(first|((with_reducible first|apply Wp.gs|apply Wp.cs|apply Zd|apply Zf|apply Zc|apply Zg|apply Wp.step);case h=>((try simp(disch:=omega)only[↓reduceIte,Za,↓X0,X1,Nat.reduceEqDiff,Int.reduceEq,Nat.reduceAdd,Nat.reduceSub]);with_reducible first|done|exact rfl|exact bT|exact bF))|apply Ze|apply Zh|with_reducible apply Zl|simp only[↓X3]|with_reducible apply Zb))
    exact Wp.pure (Nxt.ret ⟨by simp only; omega,(by intros;first|with_reducible rfl|simp(disch:=omega)only[Zi,Zj,t2,t1,s1]),.inr ⟨rfl,by simp [Zk],by simp [Zk],cNames_bad hmem (by rw [isVar_eq,hsp]; simp)⟩⟩)
   | false =>
    ((repeat(first|((with_reducible first|apply Wp.gs|apply Wp.cs|apply Zd|apply Zf|apply Zc|apply Zg|apply Wp.step);case h=>((try simp(disch:=omega)only[↓reduceIte,Za,↓X0,X1,Nat.reduceEqDiff,Int.reduceEq,Nat.reduceAdd,Nat.reduceSub,X2,Zi,Nat.reduceLeDiff,bsl_s]);with_reducible first|done|exact rfl|exact bT|exact bF))|apply Ze|apply Zh|with_reducible apply Zl|simp only[↓X3]|with_reducible apply Zb));try(with_reducible apply Zm;case h=>((try simp(disch:=omega)only[X1,Nat.reduceEqDiff,bsl_s]);with_reducible exact rfl)))
    refine Wp.app1 (E:=eStr) (gi p (gi l (j:Int))).s (l:=(l.take j).map fun x=>(gi p x).s) (id:=id) (H:=H2) (hat.mv (by intros;first|with_reducible rfl|simp(disch:=omega)only[Zi,Zj,t2,t1])) (by omega) (by decide) (by simp; omega) ?_
    intro H4 r1 r2
    ((repeat(first|((with_reducible first|apply Wp.gs|apply Wp.cs|apply Zd|apply Zf|apply Zc|apply Zg|apply Wp.step);case h=>((try simp(disch:=omega)only[↓reduceIte,Za,↓X0,X1,Nat.reduceEqDiff,Int.reduceEq,Nat.reduceAdd,Nat.reduceSub,e16,hws]);with_reducible first|done|exact rfl|exact bT|exact bF))|apply Ze|apply Zh|with_reducible apply Zl|simp only[↓X3]|with_reducible apply Zb));try(with_reducible apply Zm;case h=>((try simp(disch:=omega)only[X1,Nat.reduceEqDiff,e16,hws]);with_reducible exact rfl)))
    rw [← names_take hlt'] at r1
    refine Wp.pure (Nxt.go (d - 1) (by omega) ⟨j+1,n2+3,sl (n2+3) 0 ((l.take (j+1)).map fun x=>(gi p x).s).length,by omega,by omega,(by intros;first|with_reducible rfl|simp(disch:=omega)only[Zi,Zj,r2,t2,t1,s1]),by simp [Zk,e0],by simp only [Zk,names_take hlt']; simp,by simp [Zk,e14],by simp [Zk,e15],by simp [Zk],by omega,by omega,.inr ⟨rfl,r1⟩,fun x hx=>?_⟩)
    rcases mem_take_next hlt' hx with h | h
    ·exact hvar x h
    ·rw [h,isVar_eq,hsp,k4]; rfl
  ·(repeat(first|((with_reducible first|apply Wp.gs|apply Wp.cs|apply Zd|apply Zf|apply Zc|apply Zg|apply Wp.step);case h=>((try simp(disch:=omega)only[↓reduceIte,Za,↓X0,X1,Nat.reduceEqDiff,Int.reduceEq,Nat.reduceAdd,Nat.reduceSub,X2,Zi,Nat.reduceLeDiff,k4]);with_reducible first|done|exact rfl|exact bT|exact bF))|apply Ze|apply Zh|with_reducible apply Zl|simp only[↓X3]|with_reducible apply Zb))
   exact Wp.pure (Nxt.ret ⟨by simp only; omega,(by intros;first|with_reducible rfl|simp(disch:=omega)only[Zi,Zj,t1,s1]),.inr ⟨rfl,by simp [Zk],by simp [Zk],cNames_bad hmem (by rw [isVar_eq,decide_eq_false k4]; rfl)⟩⟩)
 ·((repeat(first|((with_reducible first|apply Wp.gs|apply Wp.cs|apply Zd|apply Zf|apply Zc|apply Zg|apply Wp.step);case h=>((try simp(disch:=omega)only[↓reduceIte,Za,↓X0,X1,Nat.reduceEqDiff,Int.reduceEq,Nat.reduceAdd,Nat.reduceSub,e15,e16,hlt]);with_reducible first|done|exact rfl|exact bT|exact bF))|apply Ze|apply Zh|with_reducible apply Zl|simp only[↓X3]|with_reducible apply Zb));try(with_reducible apply Zm;case h=>((try simp(disch:=omega)only[X1,Nat.reduceEqDiff,e15,e16,hlt]);with_reducible exact rfl)))
  rw [List.take_of_length_le (by omega)] at hat hvar
  exact Wp.pure (Nxt.exit ⟨by simp only; omega,s1,.inl ⟨rfl,hvar,id,T 6,hid,by simp only; omega,by simp [Zk],hat⟩⟩)
theorem l1113 {n0:Nat} {H0:Hp} {w:Value} {l:List ByteArray} (hw:Li eStr n0 H0 w l) (hl:l.length≤4):∀ t H n,n0≤n→(∀ i,i < n0→H i=H0 i)→t 6=w→t 40=w→t 41=.int .i64 l.length→t 42=.int .i64 0 →
  Wp (Ya (S113L1 (Call Try.prog) Ya) t H n) (fun o=>n≤o.n∧(∀ i,i < n0→o.H i=H0 i)∧((o.e=.exit 2∧noDup l=true∧o.t 6=w)∨(o.e=.ret∧o.t 4=nilS∧o.t 5=.int .i64 2∧noDup l=false))):=by
 intro t H n hn0 s0 e6 e40 e41 e42
 refine Ye (fun d T H' n'=>∃ (j:Nat),j+d=l.length∧n≤n'∧(∀ i,i < n0→H' i=H0 i)∧T 6=w∧T 40=w∧T 41=.int .i64 l.length∧T 42=.int .i64 j∧∀ i:Nat,i < j→fIdx (gi l (i:Int)) (l.take i) 0=none) _ ?_ l.length t H n ⟨0,by omega,by omega,s0,e6,e40,e41,e42,by omega⟩
 rintro d T H' n' ⟨j,hj,hn,s1,e6,e40,e41,e42,hno⟩
 unfold S113L1
 by_cases hlt:(j:Int) < l.length
 ·have hlt':j < l.length:=by omega
  have hw':=hw.mv (H':=H') (Nat.le_refl _) s1
  have g:=hw'.tAll (i:=(j:Int)) (by omega) hlt
  have hws:=wj (j:=j) (len:=l.length) hlt' (by omega)
  obtain ⟨w',hsl,hli⟩:=hw'.slice (E:=eStr) (by decide) none (some (.int .i64 (j:Int))) 0 j rfl (fun d _=>by simp [bnd]) (by omega) (by omega)
  have hsl':sliceV 1 w none (some (.int .i64 (j:Int)))=some w':=hsl
  simp only [List.drop_zero,Nat.sub_zero] at hli
  ((repeat(first|((with_reducible first|apply Wp.gs|apply Wp.cs|apply Zd|apply Zf|apply Zc|apply Zg|apply Wp.step);case h=>((try simp(disch:=omega)only[↓reduceIte,Za,↓X0,X1,Nat.reduceEqDiff,Int.reduceEq,Nat.reduceAdd,Nat.reduceSub,e6,e40,e41,e42,hlt,g,hsl']);with_reducible first|done|exact rfl|exact bT|exact bF))|apply Ze|apply Zh|with_reducible apply Zl|simp only[↓X3]|with_reducible apply Zb));try(with_reducible apply Zm;case h=>((try simp(disch:=omega)only[X1,Nat.reduceEqDiff,e6,e40,e41,e42,hlt,g,hsl']);with_reducible exact rfl)))
  refine Wp.rt (k122 (gi l (j:Int)) (hli.up (by omega)) (by rw [List.length_take]; omega)) ?_
  intro H1 n1 q1 t1
  cases hf:fIdx (gi l (j:Int)) (l.take j) 0 with
  | none =>
   (repeat(first|((with_reducible first|apply Wp.gs|apply Wp.cs|apply Zd|apply Zf|apply Zc|apply Zg|apply Wp.step);case h=>((try simp(disch:=omega)only[↓reduceIte,Za,↓X0,X1,Nat.reduceEqDiff,Int.reduceEq,Nat.reduceAdd,Nat.reduceSub,Option.isSome_none,e42,hws]);with_reducible first|done|exact rfl|exact bT|exact bF))|apply Ze|apply Zh|with_reducible apply Zl|simp only[↓X3]|with_reducible apply Zb))
   refine Wp.pure (Nxt.go (d - 1) (by omega) ⟨j+1,by omega,by omega,(by intros;first|with_reducible rfl|simp(disch:=omega)only[Zi,Zj,t1,s1]),by simp [Zk,e6],by simp [Zk,e40],by simp [Zk,e41],by simp [Zk],fun i hi=>?_⟩)
   by_cases hij:i=j
   ·subst hij; exact hf
   ·exact hno i (by omega)
  | some k =>
   (repeat(first|((with_reducible first|apply Wp.gs|apply Wp.cs|apply Zd|apply Zf|apply Zc|apply Zg|apply Wp.step);case h=>((try simp(disch:=omega)only[↓reduceIte,Za,↓X0,X1,Nat.reduceEqDiff,Int.reduceEq,Nat.reduceAdd,Nat.reduceSub,Option.isSome_some]);with_reducible first|done|exact rfl|exact bT|exact bF))|apply Ze|apply Zh|with_reducible apply Zl|simp only[↓X3]|with_reducible apply Zb))
   exact Wp.pure (Nxt.ret ⟨by simp only; omega,(by intros;first|with_reducible rfl|simp(disch:=omega)only[Zi,Zj,t1,s1]),.inr ⟨rfl,by simp [Zk],by simp [Zk],noDup_not hlt' hf⟩⟩)
 ·(repeat(first|((with_reducible first|apply Wp.gs|apply Wp.cs|apply Zd|apply Zf|apply Zc|apply Zg|apply Wp.step);case h=>((try simp(disch:=omega)only[↓reduceIte,Za,↓X0,X1,Nat.reduceEqDiff,Int.reduceEq,Nat.reduceAdd,Nat.reduceSub,e41,e42,hlt]);with_reducible first|done|exact rfl|exact bT|exact bF))|apply Ze|apply Zh|with_reducible apply Zl|simp only[↓X3]|with_reducible apply Zb))
  exact Wp.pure (Nxt.exit ⟨by simp only; omega,s1,.inl ⟨rfl,noDup_range (fun i hi=>hno i (by omega)),by simp [Zk,e6]⟩⟩)
theorem k113 {c n:Nat} {H:Hp} {v w:Value} {cs:List Value} {p:List Nd} {l:List Int} (hv:Li eNode n H v p) (hc:H c=some (.row (v :: cs) 0 true)) (hcn:c < n) (hw:Li eInt n H w l) (hr:∀ x∈l,0≤x∧x < (p.length:Int)) (hl:l.length≤1000000):RtN Try.prog 113 [ptr c 0,w] H n (fun r H' n'=>∃ u,r=.tuple ⟨[u,.int .i64 (cNames p l).2]⟩∧New eStr n n' H' u (cNames p l).1):=by
 apply RtN.mk
 rw [c113]; unfold S113
 have hbz:∀ (id:Nat) (H:Hp),bsl id 1 0 [.string ⟨#[]⟩] [] H=some (sl id 0 0,H.set id (some (.row [] 1 true))):=fun id H=>bsl_zn id _ 1 H rfl
 (repeat(first|((with_reducible first|apply Wp.gs|apply Wp.cs|apply Zd|apply Zf|apply Zc|apply Zg|apply Wp.step);case h=>((try simp(disch:=omega)only[↓reduceIte,Za,↓X0,X1,Nat.reduceEqDiff,Int.reduceEq,Nat.reduceAdd,Nat.reduceSub,X2,Zi,Nat.reduceLeDiff,hbz,hw.len]);with_reducible first|done|exact rfl|exact bT|exact bF))|apply Ze|apply Zh|with_reducible apply Zl|simp only[↓X3]|with_reducible apply Zb))
 refine Wp.bind (l0113 (n0:=n) (H0:=H) (c:=c) hv hc hcn hw hr hl _ _ _ (n+2) (sl (n+2) 0 0) (by omega) (by intros;first|with_reducible rfl|simp(disch:=omega)only[Zi,Zj]) (by omega) (by omega) (.inr ⟨rfl,Zj _ _ _⟩) (by simp [Zk,Zq]) (by simp [Zk]) (by simp [Zk,Zq]) (by simp [Zk]) (by simp [Zk])) ?_
 rintro ⟨oe,ot,oH,on⟩ ⟨f1,f2,f3⟩
 simp only at f1 f2 f3
 rcases f3 with ⟨rfl,hvar,id,u,i1,i2,e6,hat⟩ | ⟨rfl,e4,e5,hN⟩
 ·have hlu:Yc false u=some (.int .i64 l.length):=by
   have:=(hat.lst i2).len
   rw [List.length_map] at this; exact this
  by_cases h4:(4:Int) < (l.length:Int)
  ·have hN:=cNames_long (p:=p) (l:=l) (by omega)
   rw [hN]
   (repeat(first|((with_reducible first|apply Wp.gs|apply Wp.cs|apply Zd|apply Zf|apply Zc|apply Zg|apply Wp.step);case h=>((try simp(disch:=omega)only[↓reduceIte,Za,↓X0,X1,Nat.reduceEqDiff,Int.reduceEq,Nat.reduceAdd,Nat.reduceSub,X2,Zi,Nat.reduceLeDiff,e6,hlu,h4,show notTup nilS=true from rfl]);with_reducible first|done|exact rfl|exact bT|exact bF))|apply Ze|apply Zh|with_reducible apply Zl|simp only[↓X3]|with_reducible apply Zb))
   exact Wp.pure ⟨by simp only; omega,(by intros;first|with_reducible rfl|simp(disch:=omega)only[Zi,Zj,f2]),nilS,rfl,n,by omega,by simp only; omega,At.nil⟩
  ·(repeat(first|((with_reducible first|apply Wp.gs|apply Wp.cs|apply Zd|apply Zf|apply Zc|apply Zg|apply Wp.step);case h=>((try simp(disch:=omega)only[↓reduceIte,Za,↓X0,X1,Nat.reduceEqDiff,Int.reduceEq,Nat.reduceAdd,Nat.reduceSub,X2,Zi,Nat.reduceLeDiff,e6,hlu,h4]);with_reducible first|done|exact rfl|exact bT|exact bF))|apply Ze|apply Zh|with_reducible apply Zl|simp only[↓X3]|with_reducible apply Zb))
   refine Wp.bind (l1113 (n0:=on) (H0:=oH) (hat.lst i2) (by rw [List.length_map]; omega) _ _ _ (by omega) (fun _ _=>rfl) (by simp [Zk,e6]) (by simp [Zk,e6]) (by simp [Zk]) (by simp [Zk])) ?_
   rintro ⟨pe,pt,pH,pn⟩ ⟨g1,g2,g3⟩
   simp only at g1 g2 g3
   rcases g3 with ⟨rfl,hd,e6'⟩ | ⟨rfl,e4,e5,hd⟩
   ·rw [cNames_ok hvar (by omega) hd]
    have hnt:notTup u=true:=by rcases hat with ⟨h,_⟩ | ⟨h,_⟩ <;> rw [h] <;> rfl
    (repeat(first|((with_reducible first|apply Wp.gs|apply Wp.cs|apply Zd|apply Zf|apply Zc|apply Zg|apply Wp.step);case h=>((try simp(disch:=omega)only[↓reduceIte,Za,↓X0,X1,Nat.reduceEqDiff,Int.reduceEq,Nat.reduceAdd,Nat.reduceSub,e6',hnt]);with_reducible first|done|exact rfl|exact bT|exact bF))|apply Ze|apply Zh|with_reducible apply Zl|simp only[↓X3]|with_reducible apply Zb))
    exact Wp.pure ⟨by simp only; omega,(by intros;first|with_reducible rfl|simp(disch:=omega)only[Zi,Zj,g2,f2]),u,by rw [← e6'],id,i1,by simp only; omega,hat.mv (by intros;first|with_reducible rfl|simp(disch:=omega)only[Zi,Zj,g2])⟩
   ·rw [cNames_dup hvar (by omega) hd]
    simp(disch:=omega)only[↓reduceIte,Za,↓X0,X1,Nat.reduceEqDiff,Int.reduceEq,Nat.reduceAdd,Nat.reduceSub,e4,e5,show notTup nilS=true from rfl]
    exact Wp.pure ⟨by simp only; omega,(by intros;first|with_reducible rfl|simp(disch:=omega)only[Zi,Zj,g2,f2]),nilS,rfl,n,by omega,by simp only; omega,At.nil⟩
 ·rw [hN]
  simp(disch:=omega)only[↓reduceIte,Za,↓X0,X1,Nat.reduceEqDiff,Int.reduceEq,Nat.reduceAdd,Nat.reduceSub,e4,e5,show notTup nilS=true from rfl]
  exact Wp.pure ⟨by simp only; omega,(by intros;first|with_reducible rfl|simp(disch:=omega)only[Zi,Zj,f2]),nilS,rfl,n,by omega,by simp only; omega,At.nil⟩
end Go.Proofs.Ytbgkimkbngocjaa.Ax
set_option linter.unusedVariables false
set_option linter.unusedSimpArgs false
set_option maxHeartbeats 4000000
namespace Go.Proofs.Ytbgkimkbngocjaa.Ax
open Go
def EnvOk (e:Env):Prop:=e.length≤100000∧∀ f∈e,f.length≤4
abbrev Kept (c il n:Nat) (H H':Hp):Prop:=∀ i,i < n→i≠c→i≠il→H' i=H i
abbrev Next (c il n n':Nat) (H':Hp) (v ud:Value) (s:CS):Prop:=∃ ul' il',(il'=il∨n≤il')∧CC c il' n' H' v ul' ud s
theorem cVar_drop {w:ByteArray} {e:Env} {m:Nat} (h:m < e.length):cVar w (e.drop m) m=match fIdx w (e[m]) 0 with | some i=>some (m,i) | none=>cVar w (e.drop (m+1)) (m+1):=by
 rw [List.drop_eq_getElem_cons h,cVar]
 cases fIdx w e[m] 0 <;> rfl
theorem l127 {c il n:Nat} {H:Hp} {v ul ud ew:Value} {s:CS} (h:CC c il n H v ul ud s) (w:ByteArray) {e:Env} (he:EnvOk e) (hev:EV c il n H ew e.reverse):∀ t n1 H1,n≤n1→(∀ i,i < n→H1 i=H i)→t 0=ptr c 0→t 1=.string w→t 2=ew→t 6=.int .i64 ((e.length:Int) - 1) →
  Wp (Ya (S127L0 (Call Try.prog) Ya) t H1 n1) (fun o=>n≤o.n∧((o.e=.exit 0∧(∀ i,i < n→o.H i=H i)∧varIns w e=⟨3,0,0,w⟩∧o.t 0=ptr c 0∧o.t 1=.string w)∨(o.e=.ret∧Kept c il n H o.H∧Next c il n o.n o.H v ud (cPut (varIns w e) s)))):=by
 intro t n1 H1 hn1 s1 e0 e1 e2 e6
 obtain ⟨hel,hef⟩:=he
 obtain ⟨ws,hw1,hw2,hw3⟩:=hev.ex
 rw [List.length_reverse] at hw2
 refine Ye (fun d T H' n'=>∃ (m:Nat),m≤e.length∧d=e.length - m∧n≤n'∧(∀ i,i < n→H' i=H i)∧T 0=ptr c 0∧T 1=.string w∧T 2=ew∧T 6=.int .i64 ((e.length:Int) - 1 - m)∧cVar w e 0=cVar w (e.drop m) m) _ ?_ (e.length) t H1 n1 ⟨0,by omega,by omega,hn1,s1,e0,e1,e2,by simpa using e6,by simp⟩
 rintro d T H' n' ⟨m,hm,hd,hn,s2,e0,e1,e2,e6,hcv⟩
 unfold S127L0
 have hcn:=h.cn
 have hil:=h.iln
 by_cases hlt:m < e.length
 ·have hk0:(0:Int)≤(e.length:Int) - 1 - m:=by omega
  have hw':Li eVl n H' ew ws:=hw1.li.mv (Nat.le_refl _) s2
  have g:=hw'.vAll (i:=(e.length:Int) - 1 - m) hk0 (by omega)
  have hidx:((e.length:Int) - 1 - m).toNat < ws.length:=by omega
  obtain ⟨hf,hcell⟩:=hw3 ((e.length:Int) - 1 - m).toNat hidx (by rw [List.length_reverse]; omega)
  have hrev:e.reverse[((e.length:Int) - 1 - m).toNat]'(by rw [List.length_reverse]; omega)=e[m]:=by
   rw [List.getElem_reverse]; congr 1; omega
  rw [hrev] at hf
  have hfl:=hef _ (List.getElem_mem hlt)
  rw [cVar_drop hlt] at hcv
  ((repeat(first|((with_reducible first|apply Wp.gs|apply Wp.cs|apply Zd|apply Zf|apply Zc|apply Zg|apply Wp.step);case h=>((try simp(disch:=omega)only[↓reduceIte,Za,↓X0,X1,Nat.reduceEqDiff,Int.reduceEq,Nat.reduceAdd,Nat.reduceSub,e1,e2,e6,hk0,g]);with_reducible first|done|exact rfl|exact bT|exact bF))|apply Ze|apply Zh|with_reducible apply Zl|simp only[↓X3]|with_reducible apply Zb));try(with_reducible apply Zm;case h=>((try simp(disch:=omega)only[X1,Nat.reduceEqDiff,e1,e2,e6,hk0,g]);with_reducible exact rfl)))
  refine Wp.rp (k126 w (hf.li.mv (by omega) s2) (by omega)) ?_
  intro n2 q2
  have hlw:Yc false ew=some (.int .i64 (e.length:Int)):=by have:=hw'.len; rw [hw2] at this; exact this
  cases hfi:fIdx w e[m] 0 with
  | some i =>
   rw [hfi] at hcv
   simp only at hcv
   have hv1:varIns w e=Zw 2 m i:=by unfold varIns; rw [hcv]
   have h1:IntKind.i64.wrap ((e.length:Int) - 1)=(e.length:Int) - 1:=w64 (by omega)
   have h2:IntKind.i64.wrap ((e.length:Int) - 1 - ((e.length:Int) - 1 - m))=(m:Int):=by rw [w64 (by omega)]; omega
   ((repeat(first|((with_reducible first|apply Wp.gs|apply Wp.cs|apply Zd|apply Zf|apply Zc|apply Zg|apply Wp.step);case h=>((try simp(disch:=omega)only[↓reduceIte,Za,↓X0,X1,Nat.reduceEqDiff,Int.reduceEq,Nat.reduceAdd,Nat.reduceSub,e0,e1,e2,e6,show (0:Int)≤(i:Int) by omega,hlw,h1,h2,bld_ins]);with_reducible first|done|exact rfl|exact bT|exact bF))|apply Ze|apply Zh|with_reducible apply Zl|simp only[↓X3]|with_reducible apply Zb));try(with_reducible apply Zm;case h=>((try simp(disch:=omega)only[X1,Nat.reduceEqDiff,e0,e1,e2,e6,show (0:Int)≤(i:Int) by omega,hlw,h1,h2,bld_ins]);with_reducible exact rfl)))
   refine Zy (k115 (h.mv (by omega) (s2 c hcn) (s2 il hil)) (Zw 2 m i)) ?_
   rintro _ H3 n3 q3 t3 ⟨rfl,ul',il',i1,i2⟩
   rw [← hv1] at i2
   (repeat(first|((with_reducible first|apply Wp.gs|apply Wp.cs|apply Zd|apply Zf|apply Zc|apply Zg|apply Wp.step);case h=>((try simp(disch:=omega)only[↓reduceIte,Za,↓X0,X1,Nat.reduceEqDiff,Int.reduceEq,Nat.reduceAdd,Nat.reduceSub]);with_reducible first|done|exact rfl|exact bT|exact bF))|apply Ze|apply Zh|with_reducible apply Zl|simp only[↓X3]|with_reducible apply Zb))
   exact Wp.pure (Nxt.ret ⟨by simp only; omega,.inr ⟨rfl,fun i a b c=>(t3 i (by omega) b c).trans (s2 i a),ul',il',by omega,i2.mv (by simp only; omega) rfl rfl⟩⟩)
  | none =>
   rw [hfi] at hcv
   simp only at hcv
   have h1:IntKind.i64.wrap ((e.length:Int) - 1 - m - 1)=(e.length:Int) - 1 - ((m+1:Nat):Int):=by rw [w64 (by omega)]; omega
   (repeat(first|((with_reducible first|apply Wp.gs|apply Wp.cs|apply Zd|apply Zf|apply Zc|apply Zg|apply Wp.step);case h=>((try simp(disch:=omega)only[↓reduceIte,Za,↓X0,X1,Nat.reduceEqDiff,Int.reduceEq,Nat.reduceAdd,Nat.reduceSub,e0,e1,e2,e6,show ¬ (0:Int) ≤ -1 by decide,h1]);with_reducible first|done|exact rfl|exact bT|exact bF))|apply Ze|apply Zh|with_reducible apply Zl|simp only[↓X3]|with_reducible apply Zb))
   exact Wp.pure (Nxt.go (e.length - (m+1)) (by omega) ⟨m+1,by omega,rfl,by omega,s2,by simp [Zk,e0],by simp [Zk,e1],by simp [Zk,e2],by simp [Zk],hcv⟩)
 ·have hk0:¬ (0:Int)≤(e.length:Int) - 1 - m:=by omega
  rw [List.drop_eq_nil_of_le (by omega)] at hcv
  (repeat(first|((with_reducible first|apply Wp.gs|apply Wp.cs|apply Zd|apply Zf|apply Zc|apply Zg|apply Wp.step);case h=>((try simp(disch:=omega)only[↓reduceIte,Za,↓X0,X1,Nat.reduceEqDiff,Int.reduceEq,Nat.reduceAdd,Nat.reduceSub,e6,hk0]);with_reducible first|done|exact rfl|exact bT|exact bF))|apply Ze|apply Zh|with_reducible apply Zl|simp only[↓X3]|with_reducible apply Zb))
  exact Wp.pure (Nxt.exit ⟨by simp only; omega,.inl ⟨rfl,s2,by unfold varIns; rw [hcv]; rfl,by simp [Zk,e0],by simp [Zk,e1]⟩⟩)
theorem k127 {c il n:Nat} {H:Hp} {v ul ud ew:Value} {s:CS} (h:CC c il n H v ul ud s) (w:ByteArray) {e:Env} (he:EnvOk e) (hev:EV c il n H ew e.reverse):RtA Try.prog 127 [ptr c 0,.string w,ew] c il H n (fun r H' n'=>r=.tuple ⟨[]⟩∧Next c il n n' H' v ud (if special w=true then cFail 1 s else cPut (varIns w e) s)):=by
 apply RtA.of
 rw [c127]; unfold S127
 have hcn:=h.cn
 have hil:=h.iln
 ((repeat(first|((with_reducible first|apply Wp.gs|apply Wp.cs|apply Zd|apply Zf|apply Zc|apply Zg|apply Wp.step);case h=>((try simp(disch:=omega)only[↓reduceIte,Za,↓X0,X1,Nat.reduceEqDiff,Int.reduceEq,Nat.reduceAdd,Nat.reduceSub]);with_reducible first|done|exact rfl|exact bT|exact bF))|apply Ze|apply Zh|with_reducible apply Zl|simp only[↓X3]|with_reducible apply Zb));try(with_reducible apply Zm;case h=>((try simp(disch:=omega)only[X1,Nat.reduceEqDiff]);with_reducible exact rfl)))
 refine Wp.rt (k112 w _ _) ?_
 intro H1 n1 q1 s1
 cases hsp:special w with
 | true =>
  ((repeat(first|((with_reducible first|apply Wp.gs|apply Wp.cs|apply Zd|apply Zf|apply Zc|apply Zg|apply Wp.step);case h=>((try simp(disch:=omega)only[↓reduceIte,Za,↓X0,X1,Nat.reduceEqDiff,Int.reduceEq,Nat.reduceAdd,Nat.reduceSub]);with_reducible first|done|exact rfl|exact bT|exact bF))|apply Ze|apply Zh|with_reducible apply Zl|simp only[↓X3]|with_reducible apply Zb));try(with_reducible apply Zm;case h=>((try simp(disch:=omega)only[X1,Nat.reduceEqDiff]);with_reducible exact rfl)))
  refine Zy (k111 (h.mv (by omega) (s1 c (by omega)) (s1 il (by omega))) 1 (by decide)) ?_
  rintro _ H2 n2 q2 s2 ⟨rfl,i2⟩
  (repeat(first|((with_reducible first|apply Wp.gs|apply Wp.cs|apply Zd|apply Zf|apply Zc|apply Zg|apply Wp.step);case h=>((try simp(disch:=omega)only[↓reduceIte,Za,↓X0,X1,Nat.reduceEqDiff,Int.reduceEq,Nat.reduceAdd,Nat.reduceSub]);with_reducible first|done|exact rfl|exact bT|exact bF))|apply Ze|apply Zh|with_reducible apply Zl|simp only[↓X3]|with_reducible apply Zb))
  exact Wp.pure ⟨by simp only; omega,(by intros;first|with_reducible rfl|simp(disch:=omega)only[Zi,Zj,s2,s1]),rfl,ul,il,.inl rfl,by rw [if_pos trivial]; exact i2.mv (by simp only; omega) rfl rfl⟩
 | false =>
  obtain ⟨ws,hw1,hw2,hw3⟩:=hev.ex
  rw [List.length_reverse] at hw2
  have hlw:Yc false ew=some (.int .i64 (e.length:Int)):=by have:=hw1.li.len; rw [hw2] at this; exact this
  have h1:IntKind.i64.wrap ((e.length:Int) - 1)=(e.length:Int) - 1:=w64 (by have:=he.1; omega)
  rw [if_neg (by decide)]
  (repeat(first|((with_reducible first|apply Wp.gs|apply Wp.cs|apply Zd|apply Zf|apply Zc|apply Zg|apply Wp.step);case h=>((try simp(disch:=omega)only[↓reduceIte,Za,↓X0,X1,Nat.reduceEqDiff,Int.reduceEq,Nat.reduceAdd,Nat.reduceSub,hlw,h1]);with_reducible first|done|exact rfl|exact bT|exact bF))|apply Ze|apply Zh|with_reducible apply Zl|simp only[↓X3]|with_reducible apply Zb))
  refine Wp.bind (l127 h w he hev _ _ _ (by omega) (fun i hi=>s1 i (by omega)) (by simp [Zk,Zq]) (by simp [Zk,Zq]) (by simp [Zk,Zq]) (by simp [Zk])) ?_
  rintro ⟨oe,ot,oH,on⟩ ⟨f1,f2⟩
  simp only at f1 f2
  rcases f2 with ⟨rfl,f2,f3,e0,e1⟩ | ⟨rfl,f2,f3⟩
  ·rw [f3]
   ((repeat(first|((with_reducible first|apply Wp.gs|apply Wp.cs|apply Zd|apply Zf|apply Zc|apply Zg|apply Wp.step);case h=>((try simp(disch:=omega)only[↓reduceIte,Za,↓X0,X1,Nat.reduceEqDiff,Int.reduceEq,Nat.reduceAdd,Nat.reduceSub,e0,e1,bld_insS]);with_reducible first|done|exact rfl|exact bT|exact bF))|apply Ze|apply Zh|with_reducible apply Zl|simp only[↓X3]|with_reducible apply Zb));try(with_reducible apply Zm;case h=>((try simp(disch:=omega)only[X1,Nat.reduceEqDiff,e0,e1,bld_insS]);with_reducible exact rfl)))
   refine Zy (k115 (h.mv (by omega) (f2 c hcn) (f2 il hil)) ⟨3,0,0,w⟩) ?_
   rintro _ H3 n3 q3 t3 ⟨rfl,ul',il',i1,i2⟩
   (repeat(first|((with_reducible first|apply Wp.gs|apply Wp.cs|apply Zd|apply Zf|apply Zc|apply Zg|apply Wp.step);case h=>((try simp(disch:=omega)only[↓reduceIte,Za,↓X0,X1,Nat.reduceEqDiff,Int.reduceEq,Nat.reduceAdd,Nat.reduceSub]);with_reducible first|done|exact rfl|exact bT|exact bF))|apply Ze|apply Zh|with_reducible apply Zl|simp only[↓X3]|with_reducible apply Zb))
   exact Wp.pure ⟨by simp only; omega,(by intros;first|with_reducible rfl|simp(disch:=omega)only[Zi,Zj,t3,f2]),rfl,ul',il',by omega,i2.mv (by simp only; omega) rfl rfl⟩
  ·simp(disch:=omega)only[↓reduceIte,Za,↓X0,X1,Nat.reduceEqDiff,Int.reduceEq,Nat.reduceAdd,Nat.reduceSub]
   exact Wp.pure ⟨by simp only; omega,f2,rfl,f3⟩
theorem bsl_zv (id:Nat) (H:Hp):bsl id 1 0 [nilS] [] H=some (sl id 0 0,H.set id (some (.row [] 1 true))):=bsl_zn id _ 1 H rfl
theorem bsl_v (id:Nat) (x:Value) (hx:cell1 x=true) (H:Hp):bsl id 1 1 [nilS] [(0,1,x)] H=some (sl id 0 1,H.set id (some (.row [x] 1 true))):=by
 simp [bsl,fill,vcells1 hx,setAt]
theorem k136 {n:Nat} {H:Hp} {v:Value} {l:List Value} (hv:Li eVl n H v l) (hl:l.length≤1000000):RtN Try.prog 136 [v] H n (fun r H' n'=>New eVl n n' H' r l):=by
 apply RtN.mk
 rw [c136]; unfold S136
 rcases hv.nilOr with ⟨rfl,rfl⟩ | ⟨a,m,c,rfl⟩
 ·(repeat(first|((with_reducible first|apply Wp.gs|apply Wp.cs|apply Zd|apply Zf|apply Zc|apply Zg|apply Wp.step);case h=>((try simp(disch:=omega)only[↓reduceIte,Za,↓X0,X1,Nat.reduceEqDiff,Int.reduceEq,Nat.reduceAdd,Nat.reduceSub,show Zs .slice .eql nilS nilS=some (.bool true) from rfl]);with_reducible first|done|exact rfl|exact bT|exact bF))|apply Ze|apply Zh|with_reducible apply Zl|simp only[↓X3]|with_reducible apply Zb))
  exact Wp.pure ⟨by simp only; omega,fun _ _=>rfl,n,by omega,by simp only; omega,At.nil⟩
 ·((repeat(first|((with_reducible first|apply Wp.gs|apply Wp.cs|apply Zd|apply Zf|apply Zc|apply Zg|apply Wp.step);case h=>((try simp(disch:=omega)only[↓reduceIte,Za,↓X0,X1,Nat.reduceEqDiff,Int.reduceEq,Nat.reduceAdd,Nat.reduceSub,show Zs .slice .eql (.slice (some a) m c) nilS=some (.bool false) from rfl,bsl_zv]);with_reducible first|done|exact rfl|exact bT|exact bF))|apply Ze|apply Zh|with_reducible apply Zl|simp only[↓X3]|with_reducible apply Zb));try(with_reducible apply Zm;case h=>((try simp(disch:=omega)only[X1,Nat.reduceEqDiff,show Zs .slice .eql (.slice (some a) m c) nilS=some (.bool false) from rfl,bsl_zv]);with_reducible exact rfl)))
  refine Wp.appL (E:=eVl) (l:=[]) (id:=n+3) (.inr ⟨rfl,Zj _ _ _⟩) (hv.mv (m:=n) (by omega) (by intros;first|with_reducible rfl|simp(disch:=omega)only[Zi,Zj])) (by decide) (by simp; omega) ?_
  intro v' H' a1 a2
  (repeat(first|((with_reducible first|apply Wp.gs|apply Wp.cs|apply Zd|apply Zf|apply Zc|apply Zg|apply Wp.step);case h=>((try simp(disch:=omega)only[↓reduceIte,Za,↓X0,X1,Nat.reduceEqDiff,Int.reduceEq,Nat.reduceAdd,Nat.reduceSub]);with_reducible first|done|exact rfl|exact bT|exact bF))|apply Ze|apply Zh|with_reducible apply Zl|simp only[↓X3]|with_reducible apply Zb))
  refine Wp.pure ⟨by simp only; omega,?_,n+5,by omega,by simp only; omega,by simpa using a1⟩
  intro i hi; simp (disch:=omega) only [a2,Zi]
def XC (f:Nat) (v:Value) (p:List Nd) (rv:Bool) (E:CEx) (x:Int):Prop:=∀ (c il n:Nat) (H:Hp) (ul ud ew:Value) (s:CS) (e:Env),CC c il n H v ul ud s→LO eNode c il n H v p→EnvOk e→e.length+x.toNat≤90000→EV c il n H ew (if rv=true then e.reverse else e) →
 RtA Try.prog f [ptr c 0,.int .i64 x,ew] c il H n (fun r H' n'=>r=.tuple ⟨[]⟩∧Next c il n n' H' v ud (E x e s))
theorem body_next (E:CEx) (e:Env) (l:List Int) {j:Nat} (hj:j < l.length) (s:CS):cBody E e (l.take (j+1)) s=E (gi l (j:Int)) e (if 0 < j then cPut (Zw 9 0 0) (cBody E e (l.take j) s) else cBody E e (l.take j) s):=by
 rw [take_next hj,← gi_nat hj]
 cases hl:l.take j with
 | nil =>
  have:j=0:=by
   have:(l.take j).length=0:=by rw [hl]; rfl
   rw [List.length_take] at this; omega
  subst this
  simp [cBody]
 | cons a r =>
  have:0 < j:=by
   have:(l.take j).length=r.length+1:=by rw [hl]; rfl
   rw [List.length_take] at this; omega
  rw [if_pos this]
  simp [cBody,List.foldl_append]
theorem k114 {v:Value} {p:List Nd} {E:CEx} {l:List Int} (hE:∀ x∈l,XC 123 v p true E x) {c il n:Nat} {H:Hp} {ul ud w ew:Value} {s:CS} {e:Env} (h:CC c il n H v ul ud s) (hv:LO eNode c il n H v p) (he:EnvOk e) (hex:∀ x∈l,e.length+x.toNat≤90000) (hev:EV c il n H ew e.reverse) (hw:LO eInt c il n H w l) (hl:l.length≤1000000):RtA Try.prog 114 [ptr c 0,w,ew] c il H n (fun r H' n'=>r=.tuple ⟨[]⟩∧Next c il n n' H' v ud (cBody E e l s)):=by
 apply RtA.of
 rw [c114]; unfold S114
 have hcn:=h.cn
 have hil:=h.iln
 (repeat(first|((with_reducible first|apply Wp.gs|apply Wp.cs|apply Zd|apply Zf|apply Zc|apply Zg|apply Wp.step);case h=>((try simp(disch:=omega)only[↓reduceIte,Za,↓X0,X1,Nat.reduceEqDiff,Int.reduceEq,Nat.reduceAdd,Nat.reduceSub,hw.li.len]);with_reducible first|done|exact rfl|exact bT|exact bF))|apply Ze|apply Zh|with_reducible apply Zl|simp only[↓X3]|with_reducible apply Zb))
 refine Wp.bind (Ye (fun d T H' n'=>∃ (j:Nat) (ul':Value) (il':Nat),j+d=l.length∧n≤n'∧Kept c il n H H'∧(il'=il∨n≤il')∧CC c il' n' H' v ul' ud (cBody E e (l.take j) s)∧T 0=ptr c 0∧T 2=ew∧T 8=w∧T 9=.int .i64 l.length∧T 10=.int .i64 j) (fun o=>n≤o.n∧Kept c il n H o.H∧o.e=.exit 0∧Next c il n o.n o.H v ud (cBody E e l s)) ?_ l.length _ _ _ ⟨0,ul,il,by omega,by omega,fun _ _ _ _=>rfl,.inl rfl,h.mv (by omega) rfl rfl,by simp [Zk,Zq],by simp [Zk,Zq],by simp [Zk,Zq],by simp [Zk],by simp [Zk]⟩) ?_
 ·rintro d T H' n' ⟨j,ul',il',hj,hn,s1,hi',h',e0,e2,e8,e9,e10⟩
  unfold S114L0
  by_cases hlt:(j:Int) < l.length
  ·have hlt':j < l.length:=by omega
   have hw':=hw.mv hn s1 hi'
   have hev':=hev.mv hn s1 hi'
   have hv':=hv.mv hn s1 hi'
   have g:=hw'.li.iAll (i:=(j:Int)) (by omega) hlt
   have hmem:=gi_mem (l:=l) (i:=(j:Int)) (by omega) hlt
   have hws:=wj (j:=j) (len:=l.length) hlt' (by omega)
   have hnx:=body_next E e l hlt' s
   have hcn':=h'.cn
   have hil':=h'.iln
   by_cases hj0:(0:Int) < (j:Int)
   ·rw [if_pos (by omega)] at hnx
    ((repeat(first|((with_reducible first|apply Wp.gs|apply Wp.cs|apply Zd|apply Zf|apply Zc|apply Zg|apply Wp.step);case h=>((try simp(disch:=omega)only[↓reduceIte,Za,↓X0,X1,Nat.reduceEqDiff,Int.reduceEq,Nat.reduceAdd,Nat.reduceSub,e0,e2,e8,e9,e10,hlt,g,hj0,bld_ins1]);with_reducible first|done|exact rfl|exact bT|exact bF))|apply Ze|apply Zh|with_reducible apply Zl|simp only[↓X3]|with_reducible apply Zb));try(with_reducible apply Zm;case h=>((try simp(disch:=omega)only[X1,Nat.reduceEqDiff,e0,e2,e8,e9,e10,hlt,g,hj0,bld_ins1]);with_reducible exact rfl)))
    refine Zy (k115 (h'.mv (by omega) rfl rfl) (Zw 9 0 0)) ?_
    rintro _ H2 n2 q2 s2 ⟨rfl,ul2,il2,i1,i2⟩
    ((repeat(first|((with_reducible first|apply Wp.gs|apply Wp.cs|apply Zd|apply Zf|apply Zc|apply Zg|apply Wp.step);case h=>((try simp(disch:=omega)only[↓reduceIte,Za,↓X0,X1,Nat.reduceEqDiff,Int.reduceEq,Nat.reduceAdd,Nat.reduceSub,e0,e2]);with_reducible first|done|exact rfl|exact bT|exact bF))|apply Ze|apply Zh|with_reducible apply Zl|simp only[↓X3]|with_reducible apply Zb));try(with_reducible apply Zm;case h=>((try simp(disch:=omega)only[X1,Nat.reduceEqDiff,e0,e2]);with_reducible exact rfl)))
    refine Zy (hE _ hmem c il2 _ _ ul2 ud ew _ e (i2.mv (by omega) rfl rfl) (hv'.mv (by omega) (fun i a b c=>s2 i (by omega) b c) (by omega)) he (hex _ hmem) (hev'.mv (by omega) (fun i a b c=>s2 i (by omega) b c) (by omega))) ?_
    rintro _ H3 n3 q3 s3 ⟨rfl,ul3,il3,j1,j2⟩
    (repeat(first|((with_reducible first|apply Wp.gs|apply Wp.cs|apply Zd|apply Zf|apply Zc|apply Zg|apply Wp.step);case h=>((try simp(disch:=omega)only[↓reduceIte,Za,↓X0,X1,Nat.reduceEqDiff,Int.reduceEq,Nat.reduceAdd,Nat.reduceSub,e10,hws]);with_reducible first|done|exact rfl|exact bT|exact bF))|apply Ze|apply Zh|with_reducible apply Zl|simp only[↓X3]|with_reducible apply Zb))
    refine Wp.pure (Nxt.go (d - 1) (by omega) ⟨j+1,ul3,il3,by omega,by omega,fun i a b c=>by rw [s3 i (by omega) b (by omega),s2 i (by omega) b (by omega)]; exact s1 i a b c,by omega,by rw [hnx]; exact j2.mv (by omega) rfl rfl,by simp [Zk,e0],by simp [Zk,e2],by simp [Zk,e8],by simp [Zk,e9],by simp [Zk]⟩)
   ·rw [if_neg (by omega)] at hnx
    ((repeat(first|((with_reducible first|apply Wp.gs|apply Wp.cs|apply Zd|apply Zf|apply Zc|apply Zg|apply Wp.step);case h=>((try simp(disch:=omega)only[↓reduceIte,Za,↓X0,X1,Nat.reduceEqDiff,Int.reduceEq,Nat.reduceAdd,Nat.reduceSub,e0,e2,e8,e9,e10,hlt,g,hj0]);with_reducible first|done|exact rfl|exact bT|exact bF))|apply Ze|apply Zh|with_reducible apply Zl|simp only[↓X3]|with_reducible apply Zb));try(with_reducible apply Zm;case h=>((try simp(disch:=omega)only[X1,Nat.reduceEqDiff,e0,e2,e8,e9,e10,hlt,g,hj0]);with_reducible exact rfl)))
    refine Zy (hE _ hmem c il' _ _ ul' ud ew _ e (h'.mv (by omega) rfl rfl) (hv'.mv (by omega) (fun i a b c=>rfl) (.inl rfl)) he (hex _ hmem) (hev'.mv (by omega) (fun i a b c=>rfl) (.inl rfl))) ?_
    rintro _ H3 n3 q3 s3 ⟨rfl,ul3,il3,j1,j2⟩
    (repeat(first|((with_reducible first|apply Wp.gs|apply Wp.cs|apply Zd|apply Zf|apply Zc|apply Zg|apply Wp.step);case h=>((try simp(disch:=omega)only[↓reduceIte,Za,↓X0,X1,Nat.reduceEqDiff,Int.reduceEq,Nat.reduceAdd,Nat.reduceSub,e10,hws]);with_reducible first|done|exact rfl|exact bT|exact bF))|apply Ze|apply Zh|with_reducible apply Zl|simp only[↓X3]|with_reducible apply Zb))
    refine Wp.pure (Nxt.go (d - 1) (by omega) ⟨j+1,ul3,il3,by omega,by omega,fun i a b c=>by rw [s3 i (by omega) b (by omega)]; exact s1 i a b c,by omega,by rw [hnx]; exact j2.mv (by omega) rfl rfl,by simp [Zk,e0],by simp [Zk,e2],by simp [Zk,e8],by simp [Zk,e9],by simp [Zk]⟩)
  ·((repeat(first|((with_reducible first|apply Wp.gs|apply Wp.cs|apply Zd|apply Zf|apply Zc|apply Zg|apply Wp.step);case h=>((try simp(disch:=omega)only[↓reduceIte,Za,↓X0,X1,Nat.reduceEqDiff,Int.reduceEq,Nat.reduceAdd,Nat.reduceSub,e9,e10,hlt]);with_reducible first|done|exact rfl|exact bT|exact bF))|apply Ze|apply Zh|with_reducible apply Zl|simp only[↓X3]|with_reducible apply Zb));try(with_reducible apply Zm;case h=>((try simp(disch:=omega)only[X1,Nat.reduceEqDiff,e9,e10,hlt]);with_reducible exact rfl)))
   rw [List.take_of_length_le (by omega)] at h'
   exact Wp.pure (Nxt.exit ⟨by simp only; omega,s1,rfl,ul',il',hi',h'.mv (by simp only; omega) rfl rfl⟩)
 ·rintro ⟨oe,ot,oH,on⟩ ⟨f1,f2,rfl,f3⟩
  simp only at f1 f2 f3
  (repeat(first|((with_reducible first|apply Wp.gs|apply Wp.cs|apply Zd|apply Zf|apply Zc|apply Zg|apply Wp.step);case h=>((try simp(disch:=omega)only[↓reduceIte,Za,↓X0,X1,Nat.reduceEqDiff,Int.reduceEq,Nat.reduceAdd,Nat.reduceSub]);with_reducible first|done|exact rfl|exact bT|exact bF))|apply Ze|apply Zh|with_reducible apply Zl|simp only[↓X3]|with_reducible apply Zb))
  exact Wp.pure ⟨by simp only; omega,f2,rfl,f3⟩
end Go.Proofs.Ytbgkimkbngocjaa.Ax
