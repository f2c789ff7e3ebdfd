/- What the law needs: laws of the abstract machine, and contracts of functions. -/
import Derived.Test.YtbgkimkbngocjaaM3
set_option linter.unusedVariables false
set_option linter.unusedSimpArgs false
namespace Go.Proofs.Ytbgkimkbngocjaa.Ax
open Go
theorem Li.mv2 {α:Type} {E:Enc α} {n m c d:Nat} {H H':Hp} {v:Value} {l:List α} (h:Li E n H v l) (hc:Off c v) (hd:Off d v) (hm:n≤m) (hs:∀ i,i < n→i≠c→i≠d→H' i=H i):Li E m H' v l:=(h.keep' fun i o a k e=>hs i (h.2 i o a k e) (hc i o a k e) (hd i o a k e)).up hm
abbrev ndPair (a b:Int):Nd:=⟨5,0,⟨#[]⟩,a,b⟩
abbrev ndNil:Nd:=⟨1,0,⟨#[]⟩,0,0⟩
def lPairs (b:Int):List Int→List Nd
 | []=>[]
 | a :: r=>ndPair a b :: lPairs (b+1) r
def lNodes (b:Int) (xs:List Int):List Nd:=ndNil :: lPairs b xs.reverse
theorem lPairs_len:∀ (b:Int) (r:List Int),(lPairs b r).length=r.length
 | b,[]=>rfl
 | b,a :: r=>by simp [lPairs,lPairs_len (b+1) r]
theorem lPairs_snoc:∀ (b:Int) (r:List Int) (a:Int),lPairs b (r++[a])=lPairs b r++[ndPair a (b+r.length)]
 | b,[],a=>by simp [lPairs]
 | b,x :: r,a=>by
  rw [List.cons_append,lPairs,lPairs_snoc (b+1) r a,lPairs,List.cons_append,List.length_cons]
  congr 4; omega
theorem lNodes_len (b:Int) (xs:List Int):(lNodes b xs).length=xs.length+1:=by simp [lNodes,lPairs_len]
theorem lRev_next {xs:List Int} {k:Nat} (h:k < xs.length):xs.reverse.take (k+1)=xs.reverse.take k++[gi xs ((xs.length:Int) - 1 - k)]:=by
 rw [take_next (by simpa using h)]
 congr 2
 rw [List.getElem_reverse,gi_at (by omega) (by omega)]
 congr 1; omega
theorem l80 {c o id0 n0:Nat} {H0:Hp} {cs:List Value} {e:Nat} {v0:Value} {l:List Nd} {w:Value} {xs:List Int} (hw:Li eInt n0 H0 w xs) (hoc:Off c w) (hod:Off id0 w) (hcn:c < n0) (hl:l.length+xs.length≤1000000):∀ t H n v id,n0≤n→(∀ i,i < n0→i≠c→i≠id0→H i=H0 i)→n0≤id→PC c o id n H (cs.set o v) e v (l++[ndNil])→t 0=ptr c o→t 1=w→t 5=.int .i64 l.length→t 6=.int .i64 ((xs.length:Int) - 1) →
  Wp (Zz (S80L0 (Call Try.prog) Zz) t H n) (fun out=>n≤out.n∧(∀ i,i < n0→i≠c→i≠id0→out.H i=H0 i)∧out.e=.exit 0∧out.t 5=.int .i64 ((l.length:Int)+xs.length)∧∃ v' id',n0≤id'∧PC c o id' out.n out.H (cs.set o v') e v' (l++lNodes l.length xs)):=by
 intro t H n v id hn0 s0 hid hpc e0 e1 e5 e6
 refine Loop_rule (fun d T H' n'=>∃ (k:Nat) (v:Value) (id:Nat),k+d=xs.length∧n≤n'∧(∀ i,i < n0→i≠c→i≠id0→H' i=H0 i)∧n0≤id∧PC c o id n' H' (cs.set o v) e v (l++(ndNil :: lPairs l.length (xs.reverse.take k)))∧T 0=ptr c o∧T 1=w∧T 5=.int .i64 ((l.length:Int)+k)∧T 6=.int .i64 ((xs.length:Int) - 1 - k)) _ ?_ xs.length t H n ⟨0,v,id,by omega,by omega,s0,hid,by simpa [lPairs] using hpc,e0,e1,by simpa using e5,by simpa using e6⟩
 rintro d T H' n' ⟨k,v,id,hk,hn,s1,hid,hpc,e0,e1,e5,e6⟩
 unfold S80L0
 by_cases hlt:k < xs.length
 ·have g:=(hw.mv2 hoc hod (Nat.le_refl _) s1).iAll (i:=(xs.length:Int) - 1 - k) (by omega) (by omega)
  have w1:IntKind.i64.wrap ((xs.length:Int) - 1 - k - 1)=(xs.length:Int) - 1 - ((k+1:Nat):Int):=by rw [w64 (by omega)]; omega
  have hlen:(l++(ndNil :: lPairs l.length (xs.reverse.take k))).length=l.length+(k+1):=by
   rw [List.length_append,List.length_cons,lPairs_len,List.length_take,List.length_reverse]; omega
  ((repeat(first|((with_reducible first|apply Wp.gs|apply Wp.cs|apply Zc|apply Zf|apply Zd|apply Zh|apply Wp.step);case h=>((try simp(disch:=omega)only[↓reduceIte,Za,↓X0,X1,Nat.reduceEqDiff,Int.reduceEq,Nat.reduceAdd,Nat.reduceSub,X2,Zg,Nat.reduceLeDiff,e0,e1,e5,e6,g,(show (0:Int)≤(xs.length:Int) - 1 - k by omega)]);with_reducible first|done|exact rfl|exact bT|exact bF))|apply Ze|apply Zi|with_reducible apply Zl|simp only[↓X3]|with_reducible apply Zb));try(with_reducible apply Zm;case h=>((try simp(disch:=omega)only[X1,Nat.reduceEqDiff,e0,e1,e5,e6,g,(show (0:Int)≤(xs.length:Int) - 1 - k by omega)]);with_reducible exact rfl)))
  refine Wp.rta (k41 (hpc.mv (by omega) rfl rfl) (by rw [hlen]; omega) (ndPair _ _)) ?_
  rintro _ H1 n1 q1 s2 ⟨rfl,v',id',i1,i2⟩
  simp only [hlen]
  (repeat(first|((with_reducible first|apply Wp.gs|apply Wp.cs|apply Zc|apply Zf|apply Zd|apply Zh|apply Wp.step);case h=>((try simp(disch:=omega)only[↓reduceIte,Za,↓X0,X1,Nat.reduceEqDiff,Int.reduceEq,Nat.reduceAdd,Nat.reduceSub,e6,w1]);with_reducible first|done|exact rfl|exact bT|exact bF))|apply Ze|apply Zi|with_reducible apply Zl|simp only[↓X3]|with_reducible apply Zb))
  refine Wp.pure (Nxt.go (d - 1) (by omega) ⟨k+1,v',id',by omega,by omega,(by intros;first|with_reducible rfl|simp(disch:=omega)only[Zg,Zj,s2,s1]),by omega,?_,by simp [Zk,e0],by simp [Zk,e1],by simp [Zk],by simp [Zk]⟩)
  have:=i2.mv (Nat.le_add_right n1 3) rfl rfl
  rw [List.set_set] at this
  rw [lRev_next hlt,lPairs_snoc,List.length_take,List.length_reverse,Nat.min_eq_left (by omega),← List.cons_append,← List.append_assoc]
  exact this
 ·have hkl:k=xs.length:=by omega
  subst hkl
  ((repeat(first|((with_reducible first|apply Wp.gs|apply Wp.cs|apply Zc|apply Zf|apply Zd|apply Zh|apply Wp.step);case h=>((try simp(disch:=omega)only[↓reduceIte,Za,↓X0,X1,Nat.reduceEqDiff,Int.reduceEq,Nat.reduceAdd,Nat.reduceSub,e6,(show ¬ (0:Int)≤(xs.length:Int) - 1 - xs.length by omega)]);with_reducible first|done|exact rfl|exact bT|exact bF))|apply Ze|apply Zi|with_reducible apply Zl|simp only[↓X3]|with_reducible apply Zb));try(with_reducible apply Zm;case h=>((try simp(disch:=omega)only[X1,Nat.reduceEqDiff,e6,(show ¬ (0:Int)≤(xs.length:Int) - 1 - xs.length by omega)]);with_reducible exact rfl)))
  rw [List.take_of_length_le (by simp)] at hpc
  exact Wp.pure (Nxt.exit ⟨by simp only; omega,s1,rfl,by simp [Zk,e5],v,id,hid,hpc.mv (by simp only; omega) rfl rfl⟩)
theorem k80 {c o id n:Nat} {H:Hp} {cs:List Value} {e:Nat} {v:Value} {l:List Nd} (h:PC c o id n H cs e v l) {w:Value} {xs:List Int} (hw:Li eInt n H w xs) (hoc:Off c w) (hod:Off id w) (hl:l.length+xs.length≤1000000) :
  RtA Try.prog 80 [ptr c o,w] c id H n (fun r H' n'=>r=.int .i64 ((l.length:Int)+xs.length)∧∃ v' id',n≤id'∧PC c o id' n' H' (cs.set o v') e v' (l++lNodes l.length xs)):=by
 apply RtA.of
 rw [c80]; unfold S80
 ((repeat(first|((with_reducible first|apply Wp.gs|apply Wp.cs|apply Zc|apply Zf|apply Zd|apply Zh|apply Wp.step);case h=>((try simp(disch:=omega)only[↓reduceIte,Za,↓X0,X1,Nat.reduceEqDiff,Int.reduceEq,Nat.reduceAdd,Nat.reduceSub,X2,Zg,Nat.reduceLeDiff]);with_reducible first|done|exact rfl|exact bT|exact bF))|apply Ze|apply Zi|with_reducible apply Zl|simp only[↓X3]|with_reducible apply Zb));try(with_reducible apply Zm;case h=>((try simp(disch:=omega)only[X1,Nat.reduceEqDiff]);with_reducible exact rfl)))
 refine Wp.rta (k41 (h.mv (by omega) rfl rfl) (by omega) ndNil) ?_
 rintro _ H1 n1 q1 s1 ⟨rfl,v1,id1,i1,i2⟩
 have hws:IntKind.i64.wrap ((xs.length:Int) - 1)=(xs.length:Int) - 1:=w64 (by omega)
 (repeat(first|((with_reducible first|apply Wp.gs|apply Wp.cs|apply Zc|apply Zf|apply Zd|apply Zh|apply Wp.step);case h=>((try simp(disch:=omega)only[↓reduceIte,Za,↓X0,X1,Nat.reduceEqDiff,Int.reduceEq,Nat.reduceAdd,Nat.reduceSub,Zp,hw.len,hws]);with_reducible first|done|exact rfl|exact bT|exact bF))|apply Ze|apply Zi|with_reducible apply Zl|simp only[↓X3]|with_reducible apply Zb))
 refine Wp.bind (l80 (c:=c) (o:=o) (id0:=id) (n0:=n) (H0:=H) (cs:=cs) (e:=e) (v0:=v) (l:=l) hw hoc hod h.cn hl _ _ _ v1 id1 (by omega) (by intros;first|with_reducible rfl|simp(disch:=omega)only[Zg,Zj,s1]) (by omega) (i2.mv (by omega) rfl rfl) (by simp [Zk,Zp]) (by simp [Zk,Zp]) (by simp [Zk]) (by simp [Zk])) ?_
 rintro ⟨oe,ot,oH,on⟩ ⟨f1,f2,rfl,f4,v',id',f5,f6⟩
 simp only at f1 f2 f4 f5 f6
 (repeat(first|((with_reducible first|apply Wp.gs|apply Wp.cs|apply Zc|apply Zf|apply Zd|apply Zh|apply Wp.step);case h=>((try simp(disch:=omega)only[↓reduceIte,Za,↓X0,X1,Nat.reduceEqDiff,Int.reduceEq,Nat.reduceAdd,Nat.reduceSub,f4]);with_reducible first|done|exact rfl|exact bT|exact bF))|apply Ze|apply Zi|with_reducible apply Zl|simp only[↓X3]|with_reducible apply Zb))
 exact Wp.pure ⟨by simp only; omega,f2,f4,v',id',f5,f6.mv (by simp only; omega) rfl rfl⟩
theorem calleeP_fn (k:Nat) (cap args:List Value):calleeP (.func (.func k) #[] ⟨cap⟩) args=some (k,args++cap):=rfl
theorem lPairs_s:∀ (r:List Int) (b:Int),∀ x∈lPairs b r,x.s=⟨#[]⟩
 | [],_,x,h=>by cases h
 | a :: r,b,x,h=>by
  rcases List.mem_cons.1 h with rfl | h
  ·rfl
  ·exact lPairs_s r (b+1) x h
theorem lNodes_s {b:Int} {xs:List Int} {x:Nd} (h:x∈lNodes b xs):x.s=⟨#[]⟩:=by
 rcases List.mem_cons.1 h with rfl | h
 ·rfl
 ·exact lPairs_s _ _ x h
end Go.Proofs.Ytbgkimkbngocjaa.Ax
set_option linter.unusedVariables false
set_option linter.unusedSimpArgs false
set_option maxHeartbeats 4000000
namespace Go.Proofs.Ytbgkimkbngocjaa.Ax
open Go
theorem fi_some {α:Type} {p:α→Bool} {l:List α} {k:Nat} (hk:k < l.length) (h:p l[k]=true) (hn:∀ q (hq:q < l.length),q < k→p l[q]=false):l.findIdx? p=some k :=
 List.findIdx?_eq_some_iff_getElem.2 ⟨hk,h,fun q hq=>by simp [hn q (by omega) hq]⟩
theorem fi_none {α:Type} {p:α→Bool} {l:List α} (hn:∀ q (hq:q < l.length),p l[q]=false):l.findIdx? p=none:=by
 refine List.findIdx?_eq_none_iff.2 fun x hx=>?_
 obtain ⟨q,hq,rfl⟩:=List.mem_iff_getElem.1 hx
 exact hn q hq
def fiInt:Option Nat→Int
 | some k=>(k:Int)
 | none => -1
def defOf (ld:List Df) (s:ByteArray):Int:=fiInt (ld.findIdx? (fun d=>decide (d.s=s)))
theorem defOf_rng (ld:List Df) (s:ByteArray) : -1≤defOf ld s∧defOf ld s < (ld.length:Int):=by
 unfold defOf
 cases h:ld.findIdx? (fun d=>decide (d.s=s)) with
 | none=>simp only [fiInt]; omega
 | some k=>have:=(List.findIdx?_eq_some_iff_getElem.1 h).1; simp only [fiInt]; omega
theorem k53 {c n:Nat} {H:Hp} (d:Df) (s:ByteArray) (hc:H c=some (.row [.string s] 0 true)) (hcn:c < n):Rt Try.prog 53 [.agg ⟨d.cells⟩,ptr c 0] H n (.bool (decide (d.s=s))):=by
 apply Rt.mk
 rw [c53]; unfold S53
 (repeat(first|((with_reducible first|apply Wp.gs|apply Wp.cs|apply Zc|apply Zf|apply Zd|apply Zh|apply Wp.step);case h=>((try simp(disch:=omega)only[↓reduceIte,Za,↓X0,X1,Nat.reduceEqDiff,Int.reduceEq,Nat.reduceAdd,Nat.reduceSub,X2,Zg,Nat.reduceLeDiff,Df.cells,hc]);with_reducible first|done|exact rfl|exact bT|exact bF))|apply Ze|apply Zi|with_reducible apply Zl|simp only[↓X3]|with_reducible apply Zb))
 exact Wp.pure ⟨by simp only; omega,(by intros;first|with_reducible rfl|simp(disch:=omega)only[Zg,Zj]),rfl⟩
theorem k52 {n:Nat} {H:Hp} {v:Value} {l:List Df} (hv:Li eDef n H v l) (hl:l.length≤1048576) (k:Nat) (cap:List Value) (p:Df→Bool) (hp:∀ x∈l,∀ H' n',n≤n'→(∀ i,i < n→H' i=H i)→Rt Try.prog k (.agg ⟨x.cells⟩ :: cap) H' n' (.bool (p x))):Rt Try.prog 52 [v,.func (.func k) #[] ⟨cap⟩] H n (.int .i64 (fiInt (l.findIdx? p))):=by
 apply Rt.mk
 rw [c52]; unfold S52
 (repeat(first|((with_reducible first|apply Wp.gs|apply Wp.cs|apply Zc|apply Zf|apply Zd|apply Zh|apply Wp.step);case h=>((try simp(disch:=omega)only[↓reduceIte,Za,↓X0,X1,Nat.reduceEqDiff,Int.reduceEq,Nat.reduceAdd,Nat.reduceSub,hv.len]);with_reducible first|done|exact rfl|exact bT|exact bF))|apply Ze|apply Zi|with_reducible apply Zl|simp only[↓X3]|with_reducible apply Zb))
 refine Wp.bind (Loop_rule (fun d t H' n'=>∃ j:Nat,j+d=l.length∧n≤n'∧(∀ i,i < n→H' i=H i)∧t 0=v∧t 1=.func (.func k) #[] ⟨cap⟩∧t 7=.int .i64 l.length∧t 8=.int .i64 j∧∀ q (hq:q < l.length),q < j→p l[q]=false) (fun o=>n≤o.n∧(∀ i,i < n→o.H i=H i)∧((o.e=.exit 0∧l.findIdx? p=none)∨(o.e=.ret∧∃ j:Nat,o.t 4=.int .i64 j∧l.findIdx? p=some j))) ?_ l.length _ H _ ⟨0,by omega,by omega,fun _ _=>rfl,by simp [Zk,Zp],by simp [Zk,Zp],by simp [Zk],by simp [Zk],by omega⟩) ?_
 ·rintro d t H' n' ⟨j,hj,hn,s0,e0,e1,e7,e8,hno⟩
  unfold S52L0
  by_cases hlt:j < l.length
  ·have hlti:(j:Int) < l.length:=by omega
   have hw:=wj (j:=j) (len:=l.length) hlt (by omega)
   have g:=(hv.mv (Nat.le_refl _) s0).dAll (i:=(j:Int)) (by omega) hlti
   rw [gi_nat hlt] at g
   ((repeat(first|((with_reducible first|apply Wp.gs|apply Wp.cs|apply Zc|apply Zf|apply Zd|apply Zh|apply Wp.step);case h=>((try simp(disch:=omega)only[↓reduceIte,Za,↓X0,X1,Nat.reduceEqDiff,Int.reduceEq,Nat.reduceAdd,Nat.reduceSub,e0,e1,e7,e8,hlti,g,calleeP_fn]);with_reducible first|done|exact rfl|exact bT|exact bF))|apply Ze|apply Zi|with_reducible apply Zl|simp only[↓X3]|with_reducible apply Zb));try(with_reducible apply Zm;case h=>((try simp(disch:=omega)only[X1,Nat.reduceEqDiff,e0,e1,e7,e8,hlti,g,calleeP_fn]);with_reducible exact rfl)))
   refine Wp.rt (hp l[j] (List.getElem_mem hlt) H' (n'+9) (by omega) s0) ?_
   intro H1 n1 q1 s1
   by_cases hpj:p l[j]=true
   ·(repeat(first|((with_reducible first|apply Wp.gs|apply Wp.cs|apply Zc|apply Zf|apply Zd|apply Zh|apply Wp.step);case h=>((try simp(disch:=omega)only[↓reduceIte,Za,↓X0,X1,Nat.reduceEqDiff,Int.reduceEq,Nat.reduceAdd,Nat.reduceSub,hpj]);with_reducible first|done|exact rfl|exact bT|exact bF))|apply Ze|apply Zi|with_reducible apply Zl|simp only[↓X3]|with_reducible apply Zb))
    exact Wp.pure (Nxt.ret ⟨by simp only; omega,(by intros;first|with_reducible rfl|simp(disch:=omega)only[Zg,Zj,s1,s0]),.inr ⟨rfl,j,by simp [Zk,e8],fi_some hlt hpj hno⟩⟩)
   ·have hpj':p l[j]=false:=by simpa using hpj
    (repeat(first|((with_reducible first|apply Wp.gs|apply Wp.cs|apply Zc|apply Zf|apply Zd|apply Zh|apply Wp.step);case h=>((try simp(disch:=omega)only[↓reduceIte,Za,↓X0,X1,Nat.reduceEqDiff,Int.reduceEq,Nat.reduceAdd,Nat.reduceSub,hpj',e8,hw]);with_reducible first|done|exact rfl|exact bT|exact bF))|apply Ze|apply Zi|with_reducible apply Zl|simp only[↓X3]|with_reducible apply Zb))
    refine Wp.pure (Nxt.go (d - 1) (by omega) ⟨j+1,by omega,by omega,(by intros;first|with_reducible rfl|simp(disch:=omega)only[Zg,Zj,s1,s0]),by simp [Zk,e0],by simp [Zk,e1],by simp [Zk,e7],by simp [Zk],fun q hq hqj=>?_⟩)
    by_cases hqe:q=j
    ·subst hqe; exact hpj'
    ·exact hno q hq (by omega)
  ·have hlti:¬ (j:Int) < l.length:=by omega
   (repeat(first|((with_reducible first|apply Wp.gs|apply Wp.cs|apply Zc|apply Zf|apply Zd|apply Zh|apply Wp.step);case h=>((try simp(disch:=omega)only[↓reduceIte,Za,↓X0,X1,Nat.reduceEqDiff,Int.reduceEq,Nat.reduceAdd,Nat.reduceSub,e7,e8,hlti]);with_reducible first|done|exact rfl|exact bT|exact bF))|apply Ze|apply Zi|with_reducible apply Zl|simp only[↓X3]|with_reducible apply Zb))
   exact Wp.pure (Nxt.exit ⟨by simp only; omega,s0,.inl ⟨rfl,fi_none fun q hq=>hno q hq (by omega)⟩⟩)
 ·rintro ⟨oe,ot,oH,on⟩ ⟨f1,f2,f3⟩
  simp only at f1 f2 f3
  rcases f3 with ⟨rfl,f4⟩ | ⟨rfl,j,f4,f5⟩
  ·simp(disch:=omega)only[↓reduceIte,Za,↓X0,X1,Nat.reduceEqDiff,Int.reduceEq,Nat.reduceAdd,Nat.reduceSub]
   exact Wp.pure ⟨by simp only; omega,f2,by simp only [f4,fiInt]⟩
  ·simp(disch:=omega)only[↓reduceIte,Za,↓X0,X1,Nat.reduceEqDiff,Int.reduceEq,Nat.reduceAdd,Nat.reduceSub,f4]
   exact Wp.pure ⟨by simp only; omega,f2,by simp only [f5,fiInt]⟩
theorem k11 {n:Nat} {H:Hp} {v vl vd:Value} {ld:List Df} (hvd:Li eDef n H vd ld) (hl:ld.length≤1048576) (s:ByteArray):Rt Try.prog 11 [.agg ⟨[v,vl,vd]⟩,.string s] H n (.int .i64 (defOf ld s)):=by
 apply Rt.mk
 rw [c11]; unfold S11
 ((repeat(first|((with_reducible first|apply Wp.gs|apply Wp.cs|apply Zc|apply Zf|apply Zd|apply Zh|apply Wp.step);case h=>((try simp(disch:=omega)only[↓reduceIte,Za,↓X0,X1,Nat.reduceEqDiff,Int.reduceEq,Nat.reduceAdd,Nat.reduceSub,X2,Zg,Nat.reduceLeDiff,ptrV]);with_reducible first|done|exact rfl|exact bT|exact bF))|apply Ze|apply Zi|with_reducible apply Zl|simp only[↓X3]|with_reducible apply Zb));try(with_reducible apply Zm;case h=>((try simp(disch:=omega)only[X1,Nat.reduceEqDiff,ptrV]);with_reducible exact rfl)))
 refine Wp.rt (k52 (hvd.mv (by omega) (by intros;first|with_reducible rfl|simp(disch:=omega)only[Zg,Zj])) hl _ _ (fun d=>decide (d.s=s)) ?_) ?_
 ·intro x hx H' n' hn' hs'
  exact k53 x s (by simp (disch:=omega) only [hs',Zj]) (by omega)
 intro H1 n1 q1 s1
 (repeat(first|((with_reducible first|apply Wp.gs|apply Wp.cs|apply Zc|apply Zf|apply Zd|apply Zh|apply Wp.step);case h=>((try simp(disch:=omega)only[↓reduceIte,Za,↓X0,X1,Nat.reduceEqDiff,Int.reduceEq,Nat.reduceAdd,Nat.reduceSub]);with_reducible first|done|exact rfl|exact bT|exact bF))|apply Ze|apply Zi|with_reducible apply Zl|simp only[↓X3]|with_reducible apply Zb))
 exact Wp.pure ⟨by simp only; omega,(by intros;first|with_reducible rfl|simp(disch:=omega)only[Zg,Zj,s1]),rfl⟩
theorem k15 {n:Nat} {H:Hp} {v vl vd:Value} {ld:List Df} (hvd:Li eDef n H vd ld) (hl:ld.length≤1048576) (s:ByteArray):Rt Try.prog 15 [.agg ⟨[v,vl,vd]⟩,.string s] H n (.int .i64 (defOf ld s)):=by
 apply Rt.mk
 rw [c15]; unfold S15 defOf
 ((repeat(first|((with_reducible first|apply Wp.gs|apply Wp.cs|apply Zc|apply Zf|apply Zd|apply Zh|apply Wp.step);case h=>((try simp(disch:=omega)only[↓reduceIte,Za,↓X0,X1,Nat.reduceEqDiff,Int.reduceEq,Nat.reduceAdd,Nat.reduceSub,X2,Zg,Nat.reduceLeDiff]);with_reducible first|done|exact rfl|exact bT|exact bF))|apply Ze|apply Zi|with_reducible apply Zl|simp only[↓X3]|with_reducible apply Zb));try(with_reducible apply Zm;case h=>((try simp(disch:=omega)only[X1,Nat.reduceEqDiff]);with_reducible exact rfl)))
 generalize hp:(fun d:Df=>decide (d.s=s))=p
 have hpp:∀ d,p d=decide (d.s=s):=fun d=>by rw [← hp]
 refine Wp.bind (Loop_rule (fun d t H' n'=>∃ j:Nat,j+d=ld.length∧n+1≤n'∧H'=H.set n (some (.row [v,vl,vd] 0 true))∧t 1=.string s∧t 2=ptr n 0∧t 5=.int .i64 j∧∀ q (hq:q < ld.length),q < j→p ld[q]=false) (fun o=>n+1≤o.n∧o.H=H.set n (some (.row [v,vl,vd] 0 true))∧((o.e=.exit 0∧ld.findIdx? p=none)∨(o.e=.ret∧∃ j:Nat,o.t 4=.int .i64 j∧ld.findIdx? p=some j))) ?_ ld.length _ _ _ ⟨0,by omega,by omega,rfl,by simp [Zk,Zp],by simp [Zk],by simp [Zk],by omega⟩) ?_
 ·rintro d t H' n' ⟨j,hj,hn,rfl,e1,e2,e5,hno⟩
  unfold S15L0
  have hlen:=(hvd.mv (H':=H.set n (some (.row [v,vl,vd] 0 true))) (Nat.le_refl _) (by intros;first|with_reducible rfl|simp(disch:=omega)only[Zg,Zj])).len
  by_cases hlt:j < ld.length
  ·have hlti:(j:Int) < ld.length:=by omega
   have hw:=wj (j:=j) (len:=ld.length) hlt (by omega)
   have g:=(hvd.mv (H':=H.set n (some (.row [v,vl,vd] 0 true))) (Nat.le_refl _) (by intros;first|with_reducible rfl|simp(disch:=omega)only[Zg,Zj])).dAll (i:=(j:Int)) (by omega) hlti
   rw [gi_nat hlt] at g
   by_cases hpj:ld[j].s=s
   ·(repeat(first|((with_reducible first|apply Wp.gs|apply Wp.cs|apply Zc|apply Zf|apply Zd|apply Zh|apply Wp.step);case h=>((try simp(disch:=omega)only[↓reduceIte,Za,↓X0,X1,Nat.reduceEqDiff,Int.reduceEq,Nat.reduceAdd,Nat.reduceSub,X2,Zg,Nat.reduceLeDiff,e1,e2,e5,hlen,hlti,g,hpj]);with_reducible first|done|exact rfl|exact bT|exact bF))|apply Ze|apply Zi|with_reducible apply Zl|simp only[↓X3]|with_reducible apply Zb))
    exact Wp.pure (Nxt.ret ⟨by simp only; omega,rfl,.inr ⟨rfl,j,by simp [Zk,e5],fi_some hlt (by rw [hpp]; simpa using hpj) hno⟩⟩)
   ·(repeat(first|((with_reducible first|apply Wp.gs|apply Wp.cs|apply Zc|apply Zf|apply Zd|apply Zh|apply Wp.step);case h=>((try simp(disch:=omega)only[↓reduceIte,Za,↓X0,X1,Nat.reduceEqDiff,Int.reduceEq,Nat.reduceAdd,Nat.reduceSub,X2,Zg,Nat.reduceLeDiff,e1,e2,e5,hlen,hlti,g,hpj,hw]);with_reducible first|done|exact rfl|exact bT|exact bF))|apply Ze|apply Zi|with_reducible apply Zl|simp only[↓X3]|with_reducible apply Zb))
    refine Wp.pure (Nxt.go (d - 1) (by omega) ⟨j+1,by omega,by omega,rfl,by simp [Zk,e1],by simp [Zk,e2],by simp [Zk],fun q hq hqj=>?_⟩)
    by_cases hqe:q=j
    ·subst hqe; rw [hpp]; simpa using hpj
    ·exact hno q hq (by omega)
  ·have hlti:¬ (j:Int) < ld.length:=by omega
   (repeat(first|((with_reducible first|apply Wp.gs|apply Wp.cs|apply Zc|apply Zf|apply Zd|apply Zh|apply Wp.step);case h=>((try simp(disch:=omega)only[↓reduceIte,Za,↓X0,X1,Nat.reduceEqDiff,Int.reduceEq,Nat.reduceAdd,Nat.reduceSub,X2,Zg,Nat.reduceLeDiff,e2,e5,hlen,hlti]);with_reducible first|done|exact rfl|exact bT|exact bF))|apply Ze|apply Zi|with_reducible apply Zl|simp only[↓X3]|with_reducible apply Zb))
   exact Wp.pure (Nxt.exit ⟨by simp only; omega,rfl,.inl ⟨rfl,fi_none fun q hq=>hno q hq (by omega)⟩⟩)
 ·rintro ⟨oe,ot,oH,on⟩ ⟨f1,rfl,f3⟩
  simp only at f1 f3
  rcases f3 with ⟨rfl,f4⟩ | ⟨rfl,j,f4,f5⟩
  ·(repeat(first|((with_reducible first|apply Wp.gs|apply Wp.cs|apply Zc|apply Zf|apply Zd|apply Zh|apply Wp.step);case h=>((try simp(disch:=omega)only[↓reduceIte,Za,↓X0,X1,Nat.reduceEqDiff,Int.reduceEq,Nat.reduceAdd,Nat.reduceSub]);with_reducible first|done|exact rfl|exact bT|exact bF))|apply Ze|apply Zi|with_reducible apply Zl|simp only[↓X3]|with_reducible apply Zb))
   exact Wp.pure ⟨by simp only; omega,(by intros;first|with_reducible rfl|simp(disch:=omega)only[Zg,Zj]),by simp only [f4,fiInt]⟩
  ·(repeat(first|((with_reducible first|apply Wp.gs|apply Wp.cs|apply Zc|apply Zf|apply Zd|apply Zh|apply Wp.step);case h=>((try simp(disch:=omega)only[↓reduceIte,Za,↓X0,X1,Nat.reduceEqDiff,Int.reduceEq,Nat.reduceAdd,Nat.reduceSub,f4]);with_reducible first|done|exact rfl|exact bT|exact bF))|apply Ze|apply Zi|with_reducible apply Zl|simp only[↓X3]|with_reducible apply Zb))
   exact Wp.pure ⟨by simp only; omega,(by intros;first|with_reducible rfl|simp(disch:=omega)only[Zg,Zj]),by simp only [f5,fiInt]; exact f4⟩
end Go.Proofs.Ytbgkimkbngocjaa.Ax
