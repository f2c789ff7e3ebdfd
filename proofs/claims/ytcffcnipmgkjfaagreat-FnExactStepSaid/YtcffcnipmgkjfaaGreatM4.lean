/- What the law needs: laws of the abstract machine, and contracts of functions. -/
import Derived.Test.YtcffcnipmgkjfaaGreatM2
import Derived.Test.YtcffcnipmgkjfaaGreatM3
set_option linter.unusedVariables false
set_option linter.unusedSimpArgs false
namespace Go.Proofs.YtcffcnipmgkjfaaGreat.Ax
open Go
def clKey (out:List Int) (x:Nd):Nd:=if x.k=5 then ⟨x.k,x.n,x.s,gi out x.a,gi out x.b⟩ else if x.k=6∨x.k=7 then ⟨x.k,x.n,x.s,gi out x.a,x.b⟩ else x
def nIdx (y:Nd) (ks:List Nd):Option Nat:=ks.findIdx? (fun z=>decide (z=y))
def clOf (ks:List Nd) (y:Nd):Int:=match nIdx y ks with | some k=>(k:Int) | none=>(ks.length:Int)
def clStep (st:List Nd × List Int) (x:Nd):List Nd × List Int:=(st.1++[clKey st.2 x],st.2++[clOf st.1 (clKey st.2 x)])
def clRun (l:List Nd):List Nd × List Int:=l.foldl clStep ([],[])
def classes (l:List Nd):List Int:=(clRun l).2
theorem clRun_snoc (l:List Nd) (x:Nd):clRun (l++[x])=clStep (clRun l) x:=by simp [clRun,List.foldl_append]
theorem clRun_len (l:List Nd):(clRun l).1.length=l.length∧(clRun l).2.length=l.length:=by
 suffices ∀ (m:List Nd) (st:List Nd × List Int),(m.foldl clStep st).1.length=st.1.length+m.length∧(m.foldl clStep st).2.length=st.2.length+m.length by simpa [clRun] using this l ([],[])
 intro m
 induction m with
 | nil=>intro st; simp
 | cons x m ih=>intro st; rw [List.foldl_cons]; have:=ih (clStep st x); simp [clStep] at this ⊢; omega
theorem clRun_take {l:List Nd} {j:Nat} (hj:j < l.length):clRun (l.take (j+1))=clStep (clRun (l.take j)) (gi l (j:Int)):=by
 rw [take_next hj,clRun_snoc,gi_nat hj]
theorem classes_len (l:List Nd):(classes l).length=l.length:=(clRun_len l).2
theorem nIdx_snoc (y x:Nd) (ks:List Nd):nIdx y (ks++[x])=(nIdx y ks).or (if x=y then some ks.length else none):=by
 unfold nIdx
 rw [List.findIdx?_append]
 congr 1
 by_cases h:x=y <;> simp [h]
abbrev nfs:List (Nat × TypeDesc):=[(0,(.int .i64)),(1,(.int .i64)),(2,.string),(3,(.int .i64)),(4,(.int .i64))]
theorem node_agg (x y:Nd):aggEq nfs (.agg ⟨x.cells⟩) (.agg ⟨y.cells⟩)=some (decide (x=y)):=by
 have:=node_eql x.k x.n x.s x.a x.b y.k y.n y.s y.a y.b
 have h2:(aggEq nfs (.agg ⟨x.cells⟩) (.agg ⟨y.cells⟩)).bind (fun b=>some (Value.bool b))=some (.bool (decide (x.k=y.k∧x.n=y.n∧x.s=y.s∧x.a=y.a∧x.b=y.b))):=this
 cases h:aggEq nfs (.agg ⟨x.cells⟩) (.agg ⟨y.cells⟩) with
 | none=>rw [h] at h2; cases h2
 | some b =>
  rw [h] at h2
  simp only [Option.bind_some,Option.some.injEq,Value.bool.injEq] at h2
  rw [h2]
  congr 1
  apply decide_eq_decide.2
  constructor
  ·rintro ⟨a,b,c,d,e⟩; cases x; cases y; simp_all
  ·rintro rfl; exact ⟨rfl,rfl,rfl,rfl,rfl⟩
theorem node_binK (x y:Nd):Zd (.agg nfs) .eql (.agg ⟨x.cells⟩) (.agg ⟨y.cells⟩)=some (.bool (decide (x=y))):=by
 show eqV .eql (aggEq nfs (.agg ⟨x.cells⟩) (.agg ⟨y.cells⟩))=_
 rw [node_agg]; rfl
def cFind (y:Nd):List (Nd × Int)→Option Int
 | []=>none
 | (x,i) :: m=>if y=x then some i else cFind y m
def cEnc (m:List (Nd × Int)):List (Value × Value):=m.map fun p=>(.agg ⟨p.1.cells⟩,.int .i64 p.2)
theorem findK_enc (y:Nd):∀ m:List (Nd × Int),findK nfs (.agg ⟨y.cells⟩) (cEnc m)=some ((cFind y m).map (Value.int .i64))
 | []=>rfl
 | (x,i) :: m=>by
  show ((aggEq nfs (.agg ⟨y.cells⟩) (.agg ⟨x.cells⟩)).bind fun b=>if b then some (some (.int .i64 i)) else findK nfs (.agg ⟨y.cells⟩) (cEnc m))=_
  rw [node_agg,Option.bind_some]
  unfold cFind
  by_cases h:y=x
  ·simp [h]
  ·simp [h,findK_enc y m]
theorem cFind_snoc (y x:Nd) (i:Int):∀ m:List (Nd × Int),cFind y (m++[(x,i)])=(cFind y m).or (if y=x then some i else none)
 | []=>by simp [cFind]
 | (z,k) :: m=>by
  rw [List.cons_append]
  unfold cFind
  by_cases h:y=z
  ·simp [h]
  ·simp [h,cFind_snoc y x i m]
theorem look_enc {H:Hp} {i:Nat} {m:List (Nd × Int)} (y:Nd) (h:H i=some (.map (cEnc m))):lookV nfs (.int .i64 0) true (.map (some i)) (.agg ⟨y.cells⟩) H=some (.tuple ⟨[.int .i64 ((cFind y m).getD 0),.bool (cFind y m).isSome]⟩):=by
 simp only [lookV,h,node_agg,findK_enc,Option.bind_some]
 cases cFind y m <;> rfl
theorem upd_enc {H:Hp} {i:Nat} {m:List (Nd × Int)} (y:Nd) (k:Int) (h:H i=some (.map (cEnc m))) (hn:cFind y m=none):updV nfs (.map (some i)) (.agg ⟨y.cells⟩) (.int .i64 k) H=some (H.set i (some (.map (cEnc (m++[(y,k)]))))):=by
 simp only [updV,h,node_agg,findK_enc,Option.bind_some,hn]
 simp [aggV,isCell,cEnc]
def First (m:List (Nd × Int)) (ks:List Nd):Prop:=∀ y,cFind y m=(nIdx y ks).map (fun k=>(k:Int))
theorem First.none {m:List (Nd × Int)} {ks:List Nd} (h:First m ks) {y:Nd} (hn:cFind y m=none):First (m++[(y,(ks.length:Int))]) (ks++[y])∧clOf ks y=ks.length:=by
 have h1:=h y
 rw [hn] at h1
 have h2:nIdx y ks=Option.none:=by
  cases h3:nIdx y ks with
  | none=>rfl
  | some q=>rw [h3] at h1; cases h1
 refine ⟨fun z=>?_,by unfold clOf; rw [h2]⟩
 rw [cFind_snoc,nIdx_snoc,h z]
 by_cases hz:z=y
 ·subst hz; simp [h2]
 ·rw [if_neg hz,if_neg (Ne.symm hz)]; simp
theorem First.some {m:List (Nd × Int)} {ks:List Nd} (h:First m ks) {y:Nd} {k:Int} (hs:cFind y m=some k):First m (ks++[y])∧clOf ks y=k:=by
 have h1:=h y
 rw [hs] at h1
 cases h3:nIdx y ks with
 | none=>rw [h3] at h1; cases h1
 | some q =>
  rw [h3] at h1
  refine ⟨fun z=>?_,by unfold clOf; rw [h3]; simpa using h1.symm⟩
  rw [nIdx_snoc,h z]
  by_cases hz:z=y
  ·subst hz; simp [h3]
  ·rw [if_neg (Ne.symm hz)]; simp
theorem flat_i {l:List Int} {i:Int} (h0:0≤i) (h1:i < l.length):(l.flatMap eInt.cells)[i.toNat]?=some (.int .i64 (gi l i)):=by
 have:=flat_cell eInt (l:=l) (j:=i.toNat) (f:=0) oo (by decide)
 rw [Nat.mul_one,Nat.add_zero] at this
 rw [this,gi_at h0 h1]; rfl
theorem l170 {n0 mid id0:Nat} {H0:Hp} {v:Value} {l:List Nd} (hv:Li eNode n0 H0 v l) (hp:PoolOk l):∀ t H n,n0≤n→(∀ i,i < n0→H i=H0 i)→n0≤mid→mid < n→n0≤id0→id0 < n→mid≠id0→t 3=.map (some mid)→t 12=v→t 13=.int .i64 l.length→t 14=.int .i64 0→t 4=sl id0 0 0→H id0=some (.row [] 1 true)→H mid=some (.map []) →
  Wp (Zi (S170L0 (Call Tryz.prog) Zi) t H n) (fun o=>n≤o.n∧(∀ i,i < n0→o.H i=H0 i)∧o.e=.exit 0∧∃ id,n0≤id∧id < o.n∧o.t 4=sl id 0 (classes l).length∧o.H id=some (.row ((classes l).flatMap eInt.cells) 1 true)):=by
 intro t H n hn0 s0 hm1 hm2 hi1 hi2 hmi e3 e12 e13 e14 e4 hid hmid
 have hl:=hp.2
 refine Zs (fun d T H' n'=>∃ (j id:Nat) (m:List (Nd × Int)),j+d=l.length∧n≤n'∧(∀ i,i < n0→H' i=H0 i)∧T 3=.map (some mid)∧T 12=v∧T 13=.int .i64 l.length∧T 14=.int .i64 j∧n0≤id∧id < n'∧mid≠id∧T 4=sl id 0 (clRun (l.take j)).2.length∧H' id=some (.row ((clRun (l.take j)).2.flatMap eInt.cells) 1 true)∧H' mid=some (.map (cEnc m))∧First m (clRun (l.take j)).1) _ ?_ l.length t H n ⟨0,id0,[],by omega,by omega,s0,e3,e12,e13,e14,hi1,hi2,hmi,e4,hid,hmid,fun y=>rfl⟩
 rintro d T H' n' ⟨j,id,m,hj,hn,s1,e3,e12,e13,e14,hi1,hi2,hmi,e4,hid,hmid,hfst⟩
 unfold S170L0
 by_cases hlt:(j:Int) < l.length
 ·have hlt':j < l.length:=by omega
  have g:=(hv.mv (Nat.le_refl _) s1).nAll oo hlt
  have hw:=wj (j:=j) (len:=l.length) hlt' oo
  have hok:=hp.at (v:=(j:Int)) oo hlt
  have hst:=clRun_take hlt'
  obtain ⟨hlen1,hlen2⟩:=clRun_len (l.take j)
  rw [List.length_take,Nat.min_eq_left oo] at hlen1 hlen2
  generalize hA:clRun (l.take j)=A at *
  generalize hx:gi l (j:Int)=x at *
  have h5:x.k=5→(0≤x.a∧x.a < (A.2.length:Int))∧(0≤x.b∧x.b < (A.2.length:Int)):=fun h=>by have:=hok.pair h; omega
  have h6:x.k=6∨x.k=7→0≤x.a∧x.a < (A.2.length:Int):=fun h=>by have:=hok.one h; omega
  obtain ⟨xk,xn,xs,xa,xb⟩:=x
  simp only [Nd.cells] at g h5 h6
  refine V1 (A7 e3 e4 e12 e13 e14 hlt g) ?_
  refine Wp.bind (R:=fun (o:Out)=>o.e=.normal∧n'+4 < o.n∧(∀ i,i < n'+4→o.H i=H' i)∧o.t 3=.map (some mid)∧o.t 12=v∧o.t 13=.int .i64 l.length∧o.t 14=.int .i64 j∧o.t 4=sl id 0 A.2.length∧o.t 5=.int .i64 j∧o.t 6=ptr (n'+4) 0∧o.H (n'+4)=some (.row (clKey A.2 ⟨xk,xn,xs,xa,xb⟩).cells 0 true)) ?_ ?_
  ·by_cases c5:xk=5
   ·have ho:=h5 c5
    have ia:=idx_sli (sz:=1) (id:=id) (k:=.i64) ho.1.1 ho.1.2
    have ib:=idx_sli (sz:=1) (id:=id) (k:=.i64) ho.2.1 ho.2.2
    have fa:=flat_i (l:=A.2) ho.1.1 ho.1.2
    have fb:=flat_i (l:=A.2) ho.2.1 ho.2.2
    rw [Nat.mul_one] at ia ib
    subst c5
    refine V1 (A8 e3 e4 e12 e13 e14 ia ib (A3 hid fa fb)) ?_
    exact Wp.pure ⟨rfl,so,m0,pp e3,pp e12,pp e13,pp e14,pp e4,pp e14,p0,by simp only [Zf,clKey,Nd.cells,if_true]⟩
   ·by_cases c6:xk=6∨xk=7
    ·have ho:=h6 c6
     have ia:=idx_sli (sz:=1) (id:=id) (k:=.i64) ho.1 ho.2
     have fa:=flat_i (l:=A.2) ho.1 ho.2
     rw [Nat.mul_one] at ia
     rcases c6 with c6 | c6
     ·subst c6
      refine V1 (A8 e3 e4 e12 e13 e14 ia hid fa) ?_
      exact Wp.pure ⟨rfl,so,m0,pp e3,pp e12,pp e13,pp e14,pp e4,pp e14,p0,by simp only [Zf,clKey,Nd.cells]; simp⟩
     ·subst c6
      refine V1 (A8 e3 e4 e12 e13 e14 ia hid fa) ?_
      exact Wp.pure ⟨rfl,so,m0,pp e3,pp e12,pp e13,pp e14,pp e4,pp e14,p0,by simp only [Zf,clKey,Nd.cells]; simp⟩
    ·have c6':¬ xk=6:=fun h=>c6 (.inl h)
     have c7':¬ xk=7:=fun h=>c6 (.inr h)
     refine V1 (A8 e3 e4 e12 e13 e14 c5 c6' c7') ?_
     exact Wp.pure ⟨rfl,so,m0,pp e3,pp e12,pp e13,pp e14,pp e4,pp e14,p0,by simp only [Zf,clKey,Nd.cells,c5,c6',c7',or_self,if_false]⟩
  ·rintro ⟨oe,ot,oH,on⟩ ⟨rfl,f2,f3,f4,f5,f6,f7,f8,f9,f10,f11⟩
   simp only at f2 f3 f4 f5 f6 f7 f8 f9 f10 f11
   generalize hy:clKey A.2 ⟨xk,xn,xs,xa,xb⟩=y at *
   have hmid':oH mid=some (.map (cEnc m)):=by rw [f3 mid oo]; exact hmid
   have hid':oH id=some (.row (A.2.flatMap eInt.cells) 1 true):=by rw [f3 id oo]; exact hid
   have hlk:=look_enc y hmid'
   have hldA:ld true 5 (ptr (n'+4) 0) oH=some (.agg ⟨y.cells⟩):=by rw [ldA_box f11]; rfl
   have fin:∀ (TT:Tm) (H3:Hp) (M id':Nat) (m':List (Nd × Int)),n'≤M→(∀ i,i < n0→H3 i=H0 i)→TT 3=.map (some mid)→TT 12=v→TT 13=.int .i64 l.length→TT 14=.int .i64 ((j+1:Nat):Int)→n0≤id'→id' < M→mid≠id'→TT 4=sl id' 0 (A.2++[clOf A.1 y]).length→H3 id'=some (.row ((A.2++[clOf A.1 y]).flatMap eInt.cells) 1 true)→H3 mid=some (.map (cEnc m'))→First m' (A.1++[y]) →
     Wp (some ⟨.normal,TT,H3,M⟩) (Nxt (fun d T H' n'=>∃ (j id:Nat) (m:List (Nd × Int)),j+d=l.length∧n≤n'∧(∀ i,i < n0→H' i=H0 i)∧T 3=.map (some mid)∧T 12=v∧T 13=.int .i64 l.length∧T 14=.int .i64 j∧n0≤id∧id < n'∧mid≠id∧T 4=sl id 0 (clRun (l.take j)).2.length∧H' id=some (.row ((clRun (l.take j)).2.flatMap eInt.cells) 1 true)∧H' mid=some (.map (cEnc m))∧First m (clRun (l.take j)).1) d (fun o=>n≤o.n∧(∀ i,i < n0→o.H i=H0 i)∧o.e=.exit 0∧∃ id,n0≤id∧id < o.n∧o.t 4=sl id 0 (classes l).length∧o.H id=some (.row ((classes l).flatMap eInt.cells) 1 true))):=by
    intro TT H3 M id' m' g1 g2 g3 g4 g5 g6 g7 g8 g9 g10 g11 g12 g13
    refine Wp.pure (Nxt.go (d - 1) oo ⟨j+1,id',m',by omega,by omega,g2,g3,g4,g5,g6,g7,g8,g9,?_,?_,g12,?_⟩)
    ·rw [hst,← hA,clStep,hA,hy]; exact g10
    ·rw [hst,← hA,clStep,hA,hy]; exact g11
    ·rw [hst,← hA,clStep,hA,hy]; exact g13
   cases hc:cFind y m with
   | none =>
    obtain ⟨q1,q2⟩:=hfst.none hc
    have hup:=upd_enc y j hmid' hc
    rw [hc] at hlk
    have hidu:(oH.set mid (some (.map (cEnc (m++[(y,(j:Int))]))))) id=some (.row (A.2.flatMap eInt.cells) 1 true):=by rw [Zj _ _ (Ne.symm hmi)]; exact hid'
    refine V1 (A8 f4 f5 f6 f7 f8 f9 f10 (A6 hldA hlk @Option.getD_none.{0} @Option.isSome_none.{0} hup @bsl_i)) ?_
    refine Wp.app1 (E:=eInt) (j:Int) (.inr ⟨pp f8,hidu⟩) oo (by decide) oo ?_
    intro H4 r1 r2
    refine V0 (A2 f7 hw) ?_
    rw [hlen1] at q1 q2
    rw [← q2] at r1
    refine fin _ _ _ _ (m++[(y,(j:Int))]) ?_ ?_ ?_ ?_ ?_ ?_ ?_ ?_ ?_ ?_ r1 ?_ q1
    ·omega
    ·intro i hi; simp (disch:=omega) only [r2,Zj,f3,s1]
    ·simp [Zk,f4]
    ·simp [Zk,f5]
    ·simp [Zk,f6]
    ·simp [Zk]
    ·omega
    ·omega
    ·omega
    ·simp [Zk]
    ·simp (disch:=omega) only [r2,Zj,Zf]
   | some k =>
    obtain ⟨q1,q2⟩:=hfst.some hc
    rw [hc] at hlk
    refine V1 (A8 f4 f5 f6 f7 f8 f9 f10 (A5 hldA hlk @Option.getD_some.{0} @Option.isSome_some.{0} @bsl_i)) ?_
    refine Wp.app1 (E:=eInt) k (.inr ⟨pp f8,hid'⟩) oo (by decide) oo ?_
    intro H4 r1 r2
    refine V0 (A2 f7 hw) ?_
    rw [← q2] at r1
    refine fin _ _ _ _ m ?_ ?_ ?_ ?_ ?_ ?_ ?_ ?_ ?_ ?_ r1 ?_ q1
    ·omega
    ·intro i hi; simp (disch:=omega) only [r2,f3,s1]
    ·simp [Zk,f4]
    ·simp [Zk,f5]
    ·simp [Zk,f6]
    ·simp [Zk]
    ·omega
    ·omega
    ·omega
    ·simp [Zk]
    ·rw [r2 mid oo oo oo]; exact hmid'
 ·refine V0 (A4 e12 e13 e14 hlt) ?_
  rw [List.take_of_length_le oo] at e4 hid
  exact Wp.pure (Nxt.exit ⟨Nat.le_trans hn (Nat.le_add_right _ _),s1,rfl,id,hi1,so,by simp [Zk,e4,classes],hid⟩)
theorem k170 {n:Nat} {H:Hp} {v:Value} {l:List Nd} (hv:Li eNode n H v l) (hp:PoolOk l):RtN Tryz.prog 170 [.agg ⟨[v]⟩] H n (fun r H' n'=>New eInt n n' H' r (classes l)):=by
 apply RtN.mk
 rw [c170]; unfold S170
 refine V1 (A2 @bsl_zero hv.len) ?_
 refine Wp.bind (l170 (n0:=n) (H0:=H) (mid:=n+2) (id0:=n+4) hv hp _ _ _ oo m0 oo oo oo oo oo p0 p0 p0 p0 p0 m0 m0) ?_
 rintro ⟨oe,ot,oH,on⟩ ⟨f1,f2,rfl,id,f3,f4,f5,f6⟩
 simp only at f1 f2 f3 f4 f5 f6
 refine V0 f5 ?_
 exact Wp.pure ⟨so,f2,id,f3,so,.inr ⟨f5,f6⟩⟩
theorem nIdx_first {y:Nd} {ks:List Nd} {k:Nat} (hk:k < ks.length) (he:ks[k]=y) (hn:∀ q (hq:q < ks.length),q < k→ks[q]≠y):nIdx y ks=some k:=by
 refine List.findIdx?_eq_some_iff_getElem.2 ⟨hk,by simpa using he,fun q hq=>by simpa using hn q oo hq⟩
theorem nIdx_none {y:Nd} {ks:List Nd} (hn:∀ q (hq:q < ks.length),ks[q]≠y):nIdx y ks=none:=by
 refine List.findIdx?_eq_none_iff.2 fun x hx=>?_
 obtain ⟨q,hq,rfl⟩:=List.mem_iff_getElem.1 hx
 simpa using hn q hq
theorem bsl_z5c (id:Nat) (H:Hp):bsl id 5 0 [.int .i64 0,.int .i64 0,.string ⟨#[]⟩,.int .i64 0,.int .i64 0] [] H=some (sl id 0 0,H.set id (some (.row [] 5 true))):=bsl_zn _ _ _ _ rfl
theorem l1162 {b c:Nat} {H:Hp} {v:Value} {ks:List Nd} {y:Nd} (hv:Li eNode b H v ks) (hc:H c=some (.row y.cells 0 true)) (hl:ks.length≤1000000):∀ t n,t 4=v→t 5=.int .i64 ks.length→t 6=ptr c 0→t 7=.int .i64 ks.length→t 8=.int .i64 0 →
  Wp (Zi (S162L1 (Call Tryz.prog) Zi) t H n) (fun o=>n≤o.n∧o.H=H∧o.e=.exit 3∧o.t 7=.int .i64 (clOf ks y)∧o.t 1=t 1∧o.t 3=t 3∧o.t 4=t 4∧o.t 5=t 5∧o.t 6=t 6):=by
 intro t n e4 e5 e6 e7 e8
 refine Zs (fun d T H' n'=>∃ k:Nat,k+d=ks.length∧n≤n'∧H'=H∧T 7=.int .i64 ks.length∧T 8=.int .i64 k∧(∀ q (hq:q < ks.length),q < k→ks[q]≠y)∧T 1=t 1∧T 3=t 3∧T 4=t 4∧T 5=t 5∧T 6=t 6) _ ?_ ks.length t H n ⟨0,by omega,by omega,rfl,e7,e8,by omega,rfl,rfl,rfl,rfl,rfl⟩
 rintro d T H' n' ⟨k,hk,hn,rfl,f7,f8,hno,f1,f3,f4,f5,f6⟩
 unfold S162L1
 by_cases hlt:(k:Int) < ks.length
 ·have hlt':k < ks.length:=by omega
  have g:=hv.nAll oo hlt
  have hw:=wj (j:=k) (len:=ks.length) hlt' oo
  have hld:ld true 5 (ptr c 0) H'=some (.agg ⟨y.cells⟩):=by rw [ldA_box hc]; rfl
  by_cases he:gi ks (k:Int)=y
  ·refine V0 (A8 f4 f5 f6 f7 f8 e4 e5 (A6 e6 hlt g hld @node_binK he)) ?_
   rw [gi_nat hlt'] at he
   refine Wp.pure (Nxt.exit ⟨so,rfl,rfl,?_,pp f1,pp f3,pp f4,pp f5,pp f6⟩)
   simp [Zk,f8,clOf,nIdx_first hlt' he hno]
  ·refine V0 (A8 f4 f5 f6 f7 f8 e4 e5 (A7 e6 hlt g hld @node_binK he hw)) ?_
   rw [gi_nat hlt'] at he
   refine Wp.pure (Nxt.go (d - 1) oo ⟨k+1,by omega,by omega,rfl,pp f7,p0,?_,pp f1,pp f3,pp f4,pp f5,pp f6⟩)
   intro q hq hqk
   by_cases hqe:q=k
   ·subst hqe; exact he
   ·exact hno q hq oo
 ·refine V0 (A4 f5 f8 e5 hlt) ?_
  refine Wp.pure (Nxt.exit ⟨so,rfl,rfl,?_,pp f1,pp f3,pp f4,pp f5,pp f6⟩)
  simp [Zk,f7,clOf,nIdx_none (fun q hq=>hno q hq oo)]
theorem l162 {n0 b ik0 io0:Nat} {H0:Hp} {v:Value} {l:List Nd} (hv:Li eNode n0 H0 v l) (hp:PoolOk l) (hb0:b < n0) (hb:H0 b=some (.row [v] 0 true)):∀ t H n,n0≤n→(∀ i,i < n0→H i=H0 i)→n0≤ik0→ik0 < n→n0≤io0→io0 < n→ik0≠io0→t 1=ptr b 0→t 5=.int .i64 0→t 3=sl io0 0 0→t 4=sl ik0 0 0→H io0=some (.row [] 1 true)→H ik0=some (.row [] 5 true) →
  Wp (Zi (S162L0 (Call Tryz.prog) Zi) t H n) (fun o=>n≤o.n∧(∀ i,i < n0→o.H i=H0 i)∧o.e=.exit 0∧∃ id,n0≤id∧id < o.n∧o.t 3=sl id 0 (classes l).length∧o.H id=some (.row ((classes l).flatMap eInt.cells) 1 true)):=by
 intro t H n hn0 s0 hm1 hm2 hi1 hi2 hmi e1 e5 e3 e4 hio hik
 have hl:=hp.2
 refine Zs (fun d T H' n'=>∃ (j io ik:Nat),j+d=l.length∧n≤n'∧(∀ i,i < n0→H' i=H0 i)∧T 1=ptr b 0∧T 5=.int .i64 j∧n0≤io∧io < n'∧n0≤ik∧ik < n'∧ik≠io∧T 3=sl io 0 (clRun (l.take j)).2.length∧T 4=sl ik 0 (clRun (l.take j)).1.length∧H' io=some (.row ((clRun (l.take j)).2.flatMap eInt.cells) 1 true)∧H' ik=some (.row ((clRun (l.take j)).1.flatMap eNode.cells) 5 true)) _ ?_ l.length t H n ⟨0,io0,ik0,by omega,by omega,s0,e1,e5,hi1,hi2,hm1,hm2,hmi,e3,e4,hio,hik⟩
 rintro d T H' n' ⟨j,io,ik,hj,hn,s1,e1,e5,hi1,hi2,hm1,hm2,hmi,e3,e4,hio,hik⟩
 unfold S162L0
 have hb':H' b=some (.row [v] 0 true):=by rw [s1 b hb0]; exact hb
 by_cases hlt:(j:Int) < l.length
 ·have hlt':j < l.length:=by omega
  have g:=(hv.mv (Nat.le_refl _) s1).nAll oo hlt
  have hw:=wj (j:=j) (len:=l.length) hlt' oo
  have hok:=hp.at (v:=(j:Int)) oo hlt
  have hst:=clRun_take hlt'
  obtain ⟨hlen1,hlen2⟩:=clRun_len (l.take j)
  rw [List.length_take,Nat.min_eq_left oo] at hlen1 hlen2
  generalize hA:clRun (l.take j)=A at *
  generalize hx:gi l (j:Int)=x at *
  have h5:x.k=5→(0≤x.a∧x.a < (A.2.length:Int))∧(0≤x.b∧x.b < (A.2.length:Int)):=fun h=>by have:=hok.pair h; omega
  have h6:x.k=6∨x.k=7→0≤x.a∧x.a < (A.2.length:Int):=fun h=>by have:=hok.one h; omega
  obtain ⟨xk,xn,xs,xa,xb⟩:=x
  simp only [Nd.cells] at g h5 h6
  refine V1 (A8 e1 e3 e4 e5 hb' hlt ((hv.mv (Nat.le_refl _) s1).len) g) ?_
  refine Wp.bind (R:=fun (o:Out)=>o.e=.normal∧n'+10 < o.n∧(∀ i,i < n'+10→o.H i=H' i)∧o.t 1=ptr b 0∧o.t 5=.int .i64 j∧o.t 3=sl io 0 A.2.length∧o.t 4=sl ik 0 A.1.length∧o.t 6=ptr (n'+10) 0∧o.H (n'+10)=some (.row (clKey A.2 ⟨xk,xn,xs,xa,xb⟩).cells 0 true)) ?_ ?_
  ·by_cases c5:xk=5
   ·have ho:=h5 c5
    have ia:=idx_sli (sz:=1) (id:=io) (k:=.i64) ho.1.1 ho.1.2
    have ib:=idx_sli (sz:=1) (id:=io) (k:=.i64) ho.2.1 ho.2.2
    have fa:=flat_i (l:=A.2) ho.1.1 ho.1.2
    have fb:=flat_i (l:=A.2) ho.2.1 ho.2.2
    rw [Nat.mul_one] at ia ib
    subst c5
    refine V1 (A8 e1 e3 e4 e5 ia ib hio (A2 fa fb)) ?_
    exact Wp.pure ⟨rfl,so,m0,pp e1,pp e5,pp e3,pp e4,p0,by simp only [Zf,clKey,Nd.cells,if_true]⟩
   ·by_cases c6:xk=6∨xk=7
    ·have ho:=h6 c6
     have ia:=idx_sli (sz:=1) (id:=io) (k:=.i64) ho.1 ho.2
     have fa:=flat_i (l:=A.2) ho.1 ho.2
     rw [Nat.mul_one] at ia
     rcases c6 with c6 | c6
     ·subst c6
      refine V1 (A7 e1 e3 e4 e5 ia hio fa) ?_
      exact Wp.pure ⟨rfl,so,m0,pp e1,pp e5,pp e3,pp e4,p0,by simp only [Zf,clKey,Nd.cells]; simp⟩
     ·subst c6
      refine V1 (A7 e1 e3 e4 e5 ia hio fa) ?_
      exact Wp.pure ⟨rfl,so,m0,pp e1,pp e5,pp e3,pp e4,p0,by simp only [Zf,clKey,Nd.cells]; simp⟩
    ·have c6':¬ xk=6:=fun h=>c6 (.inl h)
     have c7':¬ xk=7:=fun h=>c6 (.inr h)
     refine V1 (A7 e1 e3 e4 e5 c5 c6' c7') ?_
     exact Wp.pure ⟨rfl,so,m0,pp e1,pp e5,pp e3,pp e4,p0,by simp only [Zf,clKey,Nd.cells,c5,c6',c7',or_self,if_false]⟩
  ·rintro ⟨oe,ot,oH,on⟩ ⟨rfl,f2,f3,f4,f5,f6,f7,f8,f9⟩
   simp only at f2 f3 f4 f5 f6 f7 f8 f9
   generalize hy:clKey A.2 ⟨xk,xn,xs,xa,xb⟩=y at *
   have hio':oH io=some (.row (A.2.flatMap eInt.cells) 1 true):=by rw [f3 io oo]; exact hio
   have hik':oH ik=some (.row (A.1.flatMap eNode.cells) 5 true):=by rw [f3 ik oo]; exact hik
   have hak:At eNode ik oH (sl ik 0 A.1.length) A.1:=.inr ⟨rfl,hik'⟩
   refine Wp.bind (l1162 (b:=n') (hak.lst hm2) f9 oo _ _ (pp f7) (by simp [Zk,f5,hlen1]) (pp f8) (by simp [Zk,f5,hlen1]) p0) ?_
   rintro ⟨pe,pt,pH,pn⟩ ⟨g1,rfl,rfl,g4,g5,g6,g7,g8,g9⟩
   simp only at f3 g1 g4 g5 g6 g7 g8 g9
   simp only [Zk,Nat.reduceEqDiff,if_false,f4,f5,f6,f7,f8] at g5 g6 g7 g8 g9
   have hldA:ld true 5 (ptr (n'+10) 0) pH=some (.agg ⟨y.cells⟩):=by rw [ldA_box f9]; rfl
   refine V0 (A8 g4 g5 g6 g7 g8 g9 hldA @bsl_nc) ?_
   refine Wp.app1 (E:=eNode) y (.inr ⟨g7,hik'⟩) oo (by decide) oo ?_
   intro H4 r1 r2
   refine V0 (A7 g4 g5 g6 g7 g8 g9 @bsl_i) ?_
   refine Wp.app1 (E:=eInt) (clOf A.1 y) (l:=A.2) (id:=io) (.inr ⟨g6,?_⟩) oo (by decide) oo ?_
   ·rw [r2 io oo oo oo]; exact hio'
   intro H5 r3 r4
   refine V0 (A2 g8 hw) ?_
   refine Wp.pure (Nxt.go (d - 1) oo ⟨j+1,pn+8,pn+3,by omega,by omega,?_,pp g5,p0,by omega,by omega,by omega,by omega,by omega,?_,?_,?_,?_⟩)
   ·intro i hi; simp (disch:=omega) only [r4,r2,f3,s1]
   ·rw [hst,← hA,clStep,hA,hy]; simp [Zk]
   ·rw [hst,← hA,clStep,hA,hy]; simp [Zk]
   ·rw [hst,← hA,clStep,hA,hy]; exact r3
   ·rw [hst,← hA,clStep,hA,hy,r4 _ oo oo oo]; exact r1
 ·refine V1 (A5 e1 e5 hb' ((hv.mv (Nat.le_refl _) s1).len) hlt) ?_
  rw [List.take_of_length_le oo] at e3 hio
  exact Wp.pure (Nxt.exit ⟨Nat.le_trans hn (Nat.le_add_right _ _),s1,rfl,io,hi1,so,by simp [Zk,e3,classes],hio⟩)
theorem k162 {n:Nat} {H:Hp} {v:Value} {l:List Nd} (hv:Li eNode n H v l) (hp:PoolOk l):RtN Tryz.prog 162 [.agg ⟨[v]⟩] H n (fun r H' n'=>New eInt n n' H' r (classes l)):=by
 apply RtN.mk
 rw [c162]; unfold S162
 refine V1 (A2 @bsl_zero @bsl_z5c) ?_
 refine Wp.bind (l162 (n0:=n+1) (b:=n) (H0:=H.set n (some (.row [v] 0 true))) (io0:=n+2) (ik0:=n+4) (hv.mv oo m0) hp oo (Zf _ _ _) _ _ _ oo m0 oo oo oo oo oo p0 p0 p0 p0 m0 m0) ?_
 rintro ⟨oe,ot,oH,on⟩ ⟨f1,f2,rfl,id,f3,f4,f5,f6⟩
 simp only at f1 f2 f3 f4 f5 f6
 refine V0 f5 ?_
 exact Wp.pure ⟨so,(mm f2),id,by omega,so,.inr ⟨f5,f6⟩⟩
def sameAns (l:List Nd) (a b:Int):Bool:=decide (PoolOk l∧(0≤a∧a < l.length)∧(0≤b∧b < l.length)∧gi (classes l) a=gi (classes l) b)
theorem k164 {n:Nat} {H:Hp} {v:Value} {l:List Nd} (hv:Li eNode n H v l) (hs:∀ x∈l,x.s.size≤1048576) (hl:l.length≤1048576) (a b:Int):Rt Tryz.prog 164 [.agg ⟨[v]⟩,.int .i64 a,.int .i64 b] H n (.bool (sameAns l a b)):=by
 apply Rt.mk
 rw [c164]; unfold S164 sameAns
 refine V1 trivial ?_
 refine Zu (k40 (hv.mv oo m0) hs hl) ?_
 intro H1 n1 q1 s1
 by_cases hp:PoolOk l
 ·refine V1 (A2 hp s1) ?_
  refine Zu (k41 (hv.mv oo (mm s1)) hl a) ?_
  intro H2 n2 q2 s2
  by_cases ha:0≤a∧a < (l.length:Int)
  ·refine V1 (A5 hp ha.1 ha.2 s1 s2) ?_
   refine Zu (k41 (hv.mv oo (mm (A2 s1 s2))) hl b) ?_
   intro H3 n3 q3 s3
   by_cases hb:0≤b∧b < (l.length:Int)
   ·refine V1 (A6 hp hb.1 hb.2 s1 s2 s3) ?_
    refine Wp.rtn (k170 (hv.mv oo (mm (A3 s1 s2 s3))) hp) ?_
    rintro u H4 n4 q4 s4 hu
    have ga:=hu.lst.iAll ha.1 (by rw [classes_len]; exact ha.2)
    have gb:=hu.lst.iAll hb.1 (by rw [classes_len]; exact hb.2)
    refine V0 (A2 ga gb) ?_
    exact Wp.pure ⟨so,(mm (A4 s1 s2 s3 s4)),by simp only [hp,ha,hb,and_self,true_and]⟩
   ·refine V1 (A5 hp hb s1 s2 s3) ?_
    exact Wp.pure ⟨so,(mm (A3 s1 s2 s3)),by simp only [hb,false_and,and_false,decide_false]⟩
  ·refine V1 (A4 hp ha s1 s2) ?_
   exact Wp.pure ⟨so,(mm (A2 s1 s2)),by simp only [ha,false_and,and_false,decide_false]⟩
 ·refine V1 (A2 hp s1) ?_
  exact Wp.pure ⟨so,(mm s1),by simp only [hp,false_and,decide_false]⟩
end Go.Proofs.YtcffcnipmgkjfaaGreat.Ax
set_option linter.unusedVariables false
set_option linter.unusedSimpArgs false
set_option maxHeartbeats 4000000
namespace Go.Proofs.YtcffcnipmgkjfaaGreat.Ax
open Go
theorem gi_set {α:Type} [Inhabited α] {l:List α} {i j:Int} (hi0:0≤i) (hj0:0≤j) (hj1:j < l.length) (x:α):gi (l.set j.toNat x) i=if i=j then x else gi l i:=by
 unfold gi
 rw [List.getD_eq_getElem?_getD,List.getD_eq_getElem?_getD,List.getElem?_set]
 by_cases h:i=j
 ·subst h
  rw [if_pos rfl,if_pos rfl,if_pos oo]; rfl
 ·rw [if_neg oo,if_neg h]
def HasAll (out:List Bool) (x:Nd):Prop:=(x.k=5→gi out x.a=true∧gi out x.b=true)∧(x.k=6∨x.k=7→gi out x.a=true)
theorem HasAll.mono {out out':List Bool} {x:Nd} (h:HasAll out x) (hm:∀ i,gi out i=true→gi out' i=true):HasAll out' x:=⟨fun h5=>⟨hm _ (h.1 h5).1,hm _ (h.1 h5).2⟩,fun h6=>hm _ (h.2 h6)⟩
theorem gi_neg {α:Type} [Inhabited α] (l:List α) {i:Int} (h:i < 0):gi l i=gi l 0:=by unfold gi; rw [show i.toNat=0 by omega]; rfl
theorem set_mono {out:List Bool} {a:Int} (h0:0≤a) (h1:a < out.length):∀ i,gi out i=true→gi (out.set a.toNat true) i=true:=by
 intro i hi
 by_cases hn:i < 0
 ·rw [gi_neg _ hn] at hi ⊢
  rw [gi_set oo h0 h1]
  split
  ·rfl
  ·exact hi
 ·rw [gi_set oo h0 h1]
  split
  ·rfl
  ·exact hi
theorem rMark_ok {out:List Bool} {x:Nd} {i:Nat} (hx:NodeOk x i) (hi:i≤out.length):HasAll (rMark out x) x∧(∀ j,gi out j=true→gi (rMark out x) j=true)∧(∀ j:Int,(i:Int)≤j→gi (rMark out x) j=gi out j):=by
 by_cases c5:x.k=5
 ·have hp:=hx.pair c5
  have e:rMark out x=(out.set x.a.toNat true).set x.b.toNat true:=by unfold rMark; rw [if_pos c5]
  have l1:x.a < (out.length:Int):=by omega
  have l2:x.b < ((out.set x.a.toNat true).length:Int):=by rw [List.length_set]; omega
  rw [e]
  refine ⟨⟨fun _=>⟨?_,?_⟩,fun h=>by omega⟩,fun j hj=>set_mono hp.2.1 l2 _ (set_mono hp.1.1 l1 _ hj),fun j hj=>?_⟩
  ·exact set_mono hp.2.1 l2 _ (by rw [gi_set hp.1.1 hp.1.1 l1,if_pos rfl])
  ·rw [gi_set hp.2.1 hp.2.1 l2,if_pos rfl]
  ·rw [gi_set oo hp.2.1 l2,if_neg oo,gi_set oo hp.1.1 l1,if_neg oo]
 ·by_cases c6:x.k=6∨x.k=7
  ·have hp:=hx.one c6
   have e:rMark out x=out.set x.a.toNat true:=by unfold rMark; rw [if_neg c5,if_pos c6]
   have l1:x.a < (out.length:Int):=by omega
   rw [e]
   refine ⟨⟨fun h=>absurd h c5,fun _=>by rw [gi_set hp.1 hp.1 l1,if_pos rfl]⟩,fun j hj=>set_mono hp.1 l1 _ hj,fun j hj=>?_⟩
   rw [gi_set oo hp.1 l1,if_neg oo]
  ·have e:rMark out x=out:=by unfold rMark; rw [if_neg c5,if_neg c6]
   rw [e]
   exact ⟨⟨fun h=>absurd h c5,fun h=>absurd h c6⟩,fun _ h=>h,fun _ _=>rfl⟩
theorem rDown_closed {l:List Nd} (hp:PoolOk l):∀ (i:Nat) (out:List Bool),i≤l.length→out.length=l.length→(∀ j:Nat,i≤j→j < l.length→gi out (j:Int)=true→HasAll out (gi l (j:Int)))→(∀ j:Nat,j < l.length→gi (rDown l i out) (j:Int)=true→HasAll (rDown l i out) (gi l (j:Int)))∧∀ j,gi out j=true→gi (rDown l i out) j=true
 | 0,out,_,_,h=>⟨fun j hj=>h j (Nat.zero_le _) hj,fun _ h=>h⟩
 | i+1,out,hi,hl,h=>by
  rw [rDown]
  have hok:=hp.at (v:=(i:Int)) oo oo
  obtain ⟨m1,m2,m3⟩:=rMark_ok (out:=out) (x:=gi l (i:Int)) (i:=i) hok oo
  have hs:rStep l out i=if gi out (i:Int)=true then rMark out (gi l (i:Int)) else out:=rfl
  have hmono:∀ j,gi out j=true→gi (rStep l out i) j=true:=by
   intro j hj; rw [hs]; split
   ·exact m2 j hj
   ·exact hj
  have hkeep:∀ j:Int,(i:Int)≤j→gi (rStep l out i) j=gi out j:=by
   intro j hj; rw [hs]; split
   ·exact m3 j hj
   ·rfl
  have ih:=rDown_closed hp i (rStep l out i) oo (by rw [rStep_len]; exact hl) (by
   intro j hj hjl ht
   rw [hkeep j oo] at ht
   by_cases hji:j=i
   ·subst hji
    rw [hs,if_pos ht]; exact m1
   ·exact (h j oo hjl ht).mono hmono)
  exact ⟨ih.1,fun j hj=>ih.2 j (hmono j hj)⟩
theorem reachM_closed {l:List Nd} (hp:PoolOk l) (roots:List Int) {j:Int} (h0:0≤j) (h1:j < l.length) (h:gi (reachM l roots) j=true):HasAll (reachM l roots) (gi l j):=by
 obtain ⟨k,rfl⟩:=Int.eq_ofNat_of_zero_le h0
 exact (rDown_closed hp l.length (rRoots l.length roots) (Nat.le_refl _) (rRoots_len _ _) (fun j h1 h2=>by omega)).1 k oo h
theorem rRoots_in {m:Nat} (roots:List Int) (hr:∀ r∈roots,0≤r∧r < (m:Int)) {r:Int} (h:r∈roots):gi (rRoots m roots) r=true:=by
 suffices ∀ (rs:List Int) (o:List Bool),o.length=m→(∀ r∈rs,0≤r∧r < (m:Int))→(r∈rs∨gi o r=true)→gi (rs.foldl (fun o r=>o.set r.toNat true) o) r=true from this roots _ (by simp) hr (.inl h)
 have hrr:=hr r h
 intro rs
 induction rs with
 | nil =>
  intro o _ _ h
  rcases h with h | h
  ·cases h
  ·exact h
 | cons a rs ih =>
  intro o ho hrs h
  rw [List.foldl_cons]
  have ha:=hrs a List.mem_cons_self
  refine ih _ (by simp [ho]) (fun x hx=>hrs x (List.mem_cons_of_mem _ hx)) ?_
  rcases h with h | h
  ·rcases List.mem_cons.1 h with rfl | h
   ·exact .inr (by rw [gi_set ha.1 ha.1 oo,if_pos rfl])
   ·exact .inl h
  ·exact .inr (set_mono ha.1 oo _ h)
theorem reachM_in {l:List Nd} (hp:PoolOk l) {roots:List Int} (hr:∀ r∈roots,0≤r∧r < (l.length:Int)) {r:Int} (h:r∈roots):gi (reachM l roots) r=true :=
 (rDown_closed hp l.length (rRoots l.length roots) (Nat.le_refl _) (rRoots_len _ _) (fun j h1 h2=>by omega)).2 r (rRoots_in roots hr h)
def inStep (told:List Bool) (z:Int) (st:List Nd × List Int) (x:Nd):List Nd × List Int:=if gi told (st.2.length:Int)=true then (st.1++[clKey st.2 x],st.2++[(st.1.length:Int)]) else (st.1,st.2++[z])
def inRun (told:List Bool) (z:Int) (p:List Nd) (l:List Nd):List Nd × List Int:=l.foldl (inStep told z) (p,[])
theorem inRun_snoc (told:List Bool) (z:Int) (p l:List Nd) (x:Nd):inRun told z p (l++[x])=inStep told z (inRun told z p l) x:=by simp [inRun,List.foldl_append]
theorem inRun_take {told:List Bool} {z:Int} {p l:List Nd} {j:Nat} (hj:j < l.length):inRun told z p (l.take (j+1))=inStep told z (inRun told z p (l.take j)) (gi l (j:Int)):=by
 rw [take_next hj,inRun_snoc,gi_nat hj]
theorem inRun_aux (told:List Bool) (z:Int):∀ (l:List Nd) (st:List Nd × List Int),(l.foldl (inStep told z) st).2.length=st.2.length+l.length∧st.1.length≤(l.foldl (inStep told z) st).1.length∧(l.foldl (inStep told z) st).1.length≤st.1.length+l.length
 | [],st=>by simp
 | x :: l,st=>by
  rw [List.foldl_cons]
  have:=inRun_aux told z l (inStep told z st x)
  unfold inStep at this ⊢
  split at this <;> rename_i hg <;> simp only [hg,if_true,if_false,List.length_append,List.length_cons,List.length_nil] at this ⊢ <;> simp at this ⊢ <;> omega
theorem inRun_len (told:List Bool) (z:Int) (p l:List Nd):(inRun told z p l).2.length=l.length:=by
 have:=(inRun_aux told z l (p,[])).1
 simpa [inRun] using this
theorem inRun_le (told:List Bool) (z:Int) (p l:List Nd):p.length≤(inRun told z p l).1.length∧(inRun told z p l).1.length≤p.length+l.length:=(inRun_aux told z l (p,[])).2
theorem inRun_z {told:List Bool} {p l:List Nd} (hp:PoolOk l) (hc:∀ j:Int,0≤j→j < l.length→gi told j=true→HasAll told (gi l j)) (z z':Int):∀ j:Nat,j≤l.length→(inRun told z p (l.take j)).1=(inRun told z' p (l.take j)).1∧∀ i:Int,0≤i→i < j→gi told i=true→gi (inRun told z p (l.take j)).2 i=gi (inRun told z' p (l.take j)).2 i
 | 0,_=>⟨by simp [inRun],fun i h0 h1=>by omega⟩
 | j+1,hj=>by
  obtain ⟨e1,e2⟩:=inRun_z hp hc z z' j oo
  have l1:(inRun told z p (l.take j)).2.length=j:=by rw [inRun_len,List.length_take]; omega
  have l2:(inRun told z' p (l.take j)).2.length=j:=by rw [inRun_len,List.length_take]; omega
  rw [inRun_take oo,inRun_take oo]
  generalize inRun told z p (l.take j)=A at *
  generalize inRun told z' p (l.take j)=B at *
  unfold inStep
  rw [l1,l2]
  by_cases ht:gi told (j:Int)=true
  ·rw [if_pos ht,if_pos ht]
   have hk:=hc (j:Int) oo oo ht
   have hok:=hp.at (v:=(j:Int)) oo oo
   have:clKey A.2 (gi l (j:Int))=clKey B.2 (gi l (j:Int)):=by
    generalize gi l (j:Int)=x at *
    unfold clKey
    by_cases c5:x.k=5
    ·have:=hok.pair c5
     rw [if_pos c5,if_pos c5,e2 _ this.1.1 oo (hk.1 c5).1,e2 _ this.2.1 oo (hk.1 c5).2]
    ·rw [if_neg c5,if_neg c5]
     by_cases c6:x.k=6∨x.k=7
     ·have:=hok.one c6
      rw [if_pos c6,if_pos c6,e2 _ this.1 oo (hk.2 c6)]
     ·rw [if_neg c6,if_neg c6]
   refine ⟨by simp only [this,e1],fun i h0 h1 ht=>?_⟩
   simp only
   by_cases hij:i=j
   ·subst hij
    rw [← l1] at *
    rw [gi_last,l1,← l2,gi_last,e1]
   ·rw [gi_app oo h0,gi_app oo h0]
    exact e2 i h0 oo ht
  ·rw [if_neg ht,if_neg ht]
   refine ⟨e1,fun i h0 h1 hti=>?_⟩
   simp only
   by_cases hij:i=j
   ·subst hij; exact absurd hti ht
   ·rw [gi_app oo h0,gi_app oo h0]
    exact e2 i h0 oo hti
theorem inRun_zz {p l:List Nd} (hp:PoolOk l) (roots:List Int) (z z':Int):(inRun (reachM l roots) z p l).1=(inRun (reachM l roots) z' p l).1∧∀ i:Int,0≤i→i < l.length→gi (reachM l roots) i=true→gi (inRun (reachM l roots) z p l).2 i=gi (inRun (reachM l roots) z' p l).2 i:=by
 have:=inRun_z (p:=p) hp (fun j h0 h1 h=>reachM_closed hp roots h0 h1 h) z z' l.length (Nat.le_refl _)
 rw [List.take_length] at this
 exact this
theorem app_set {A:List Int} {j d:Nat} {z y:Int} (hA:A.length=j):(A++List.replicate (d+1) z).set j y=(A++[y])++List.replicate d z:=by
 subst hA
 rw [List.replicate_succ,List.set_append_right _ _ (Nat.le_refl _),Nat.sub_self,List.set_cons_zero,List.append_assoc]; rfl
theorem app_set2 {A R:List Int} {j:Nat} {x y:Int} (hA:A.length=j):((A++[x])++R).set j y=(A++[y])++R:=by
 subst hA
 rw [List.append_assoc,List.set_append_right _ _ (Nat.le_refl _),Nat.sub_self,List.singleton_append,List.set_cons_zero,List.append_assoc]; rfl
theorem flat_ip {A R:List Int} {i:Int} (h0:0≤i) (h1:i < A.length):((A++R).flatMap eInt.cells)[i.toNat]?=some (.int .i64 (gi A i)):=by
 rw [flat_i h0 (by rw [List.length_append]; omega),gi_app h1 h0]
end Go.Proofs.YtcffcnipmgkjfaaGreat.Ax
