/- What the law needs: laws of the abstract machine, and contracts of functions. -/
import Derived.Test.YtcffcnipmgkjfaaGreatM2
import Derived.Test.YtcffcnipmgkjfaaGreatM8
import Derived.Test.YtcffcnipmgkjfaaGreatM3
set_option linter.unusedVariables false
set_option linter.unusedSimpArgs false
set_option maxHeartbeats 8000000
namespace Go.Proofs.YtcffcnipmgkjfaaGreat.Ax
open Go
theorem NodeOk.sz {x:Nd} {m:Int} (h:NodeOk x m):x.s.size≤12:=by
 have e:∀ s:ByteArray,s=⟨#[]⟩→s.size≤12:=by rintro _ rfl; decide
 have hn:nameOk x.s=true→x.s.size≤12:=fun h=>by
  unfold nameOk at h
  rw [Bool.and_eq_true,decide_eq_true_iff] at h
  exact h.1.2
 rcases h with h | h | h | h | h | h | h | h | h
 ·exact e _ h.2.2.1
 ·exact e _ h.2.2.1
 ·exact e _ h.2.2.1
 ·exact hn h.2.2.1
 ·exact e _ h.2.2.1
 ·exact e _ h.2.2.1
 ·exact e _ h.2.2.1
 ·exact e _ h.2.2.1
 ·exact e _ h.2.2.1
theorem NodesOk.sz:∀ {l:List Nd} {i:Nat},NodesOk l i→∀ x∈l,x.s.size≤12
 | [],_,_,x,hx=>by cases hx
 | y :: l,i,h,x,hx=>by
  rcases List.mem_cons.1 hx with rfl | hx
  ·exact h.1.sz
  ·exact h.2.sz x hx
theorem primOut_badk {l:List Nd} {k:Int} {xs:List Int} {q:Int} (h:primOut l k xs=.bad q):q=3∨q=4:=by
 unfold primOut at h
 split at h
 ·cases h; exact .inl rfl
 ·split at h
  ·cases h
  ·split at h
   ·cases h
   ·split at h
    ·cases h
    ·cases h; exact .inr rfl
theorem argsI' (k:Int) (hk:0≤k∧k≤99) (H:Hp) (n:Nat):Rt Tryz.prog 141 [.int .i64 k] H n (.int .i64 (primArgs k)):=k141 k oo H n
theorem argsS' (k:Int) (hk:0≤k∧k≤99) (H:Hp) (n:Nat):Rt Tryz.prog 152 [.int .i64 k] H n (.int .i64 (primArgs k)):=k152 k oo H n
def mBuilt (k:Int) (xs:List Int) (next:Int) (m:Mc):MR :=
 if primArgs k≠(xs.length:Int) then .error 2
 else if 12 < k then .ok { mList xs m with r:=mListV xs m,k:=k,t:=1 }
 else mPrim k xs next m
theorem primArgs_pos {k:Int} {j:Nat} (h:primArgs k=(j:Int)):1≤k∧k≤19:=by
 unfold primArgs at h
 split at h
 ·assumption
 ·omega
structure Cl (n0 c id n:Nat) (H:Hp) (x1 x2 x3 v w:Value) (R:List Value) (m:Mc) (l:List Nd) (li:List Ins) (ld:List Df) (b:Nat) (xs:List Int):Prop where
 h:SM c id n H R v m
 hw:Wf b m
 hb:b≤100000
 hC:Cd n0 H x1 x2 x3 l li ld
 hn0:n0≤c∧n0≤id
 hll:li.length≤400
 ha:0≤m.a∧m.a+1≤(li.length:Int) - 1
 hxs:Li eInt n H w xs
 hoc:Off c w
 hod:Off id w
 hxl:xs.length≤1000
 hr:∀ x∈xs,In m x
 hP:xs.length=2→PoolOk m.p
theorem kp123 {n0 c id n:Nat} {H:Hp} {x1 x2 x3 v w:Value} {m:Mc} {l:List Nd} {li:List Ins} {ld:List Df} {b:Nat} {xs:List Int} (K:Cl n0 c id n H x1 x2 x3 v w [x1,x2,x3] m l li ld b xs) (k:Int) (hk:0≤k∧k≤99) (h18:k≠18) :
  RtA Tryz.prog 123 [ptr c 0,.int .i64 k,w] c id H n (MRes (mChk li.length (mBuilt k xs (m.a+1) m)) c id n [x1,x2,x3]):=by
 obtain ⟨h,hw,hb,hC,hn0,hll,ha,hxs,hoc,hod,hxl,hr,hP⟩:=K
 apply RtA.of
 rw [c123]; unfold S123 mBuilt
 have hc:H c=some (.row [v,.int .i64 m.a,.int .i64 m.s,.int .i64 m.e,.int .i64 m.d,.int .i64 m.t,.int .i64 m.k,.int .i64 m.r,x1,x2,x3] 0 true):=h.hc
 have hcn:=h.cn
 have hid:=h.idn
 have hne:=h.ne
 have hl:=hw.len
 have hlen:=hxs.len
 refine W0 trivial ?_
 refine Zu (argsI' k hk _ _) ?_
 intro H1 n1 q1 s1
 by_cases c1:primArgs k=(xs.length:Int)
 case neg =>
  rw [if_pos c1]
  refine W1 (A2 hlen c1) ?_
  exact Wp.pure ⟨so,(mm s1),MRes.er (h.mv so (mm s1) (mm s1)) (.inr rfl) (by decide)⟩
 rw [if_neg (fun h=>h c1)]
 have hk1:=primArgs_pos c1
 by_cases c2:12 < k
 ·rw [if_pos c2,mChk_ok (by simp only [mList,Mc.add]; omega)]
  refine W1 (A4 hlen c1 h18 c2) ?_
  refine Zp ((h.mv oo (mm s1) (mm s1)).listI (hxs.mv oo (mm s1)) hoc hod oo) ?_
  rintro _ H2 n2 q2 s2 ⟨rfl,v2,id2,i2,hS2⟩
  generalize mListV xs m=r2
  generalize mList xs m=m2 at hS2 ⊢
  have hc2:H2 c=some (.row [v2,.int .i64 m2.a,.int .i64 m2.s,.int .i64 m2.e,.int .i64 m2.d,.int .i64 m2.t,.int .i64 m2.k,.int .i64 m2.r,x1,x2,x3] 0 true):=hS2.hc
  refine W1 hc2 ?_
  exact Wp.pure ⟨so,(mm (A2 s2 s1)),MRes.ok (hS2.to so (Zf _ _ _) (Zj _ _ hS2.ne) rfl) (.inl oo)⟩
 rw [if_neg c2]
 refine W1 (A4 hlen c1 h18 c2) ?_
 refine Zp (k142 (h.mv oo (mm s1) (mm s1)) (hw.w hb) (fun x hx=>by have:=hw.ok.sz x hx; omega) (hxs.mv oo (mm s1)) k (fun h11=>hP (by rw [h11] at c1; have:primArgs 11=2:=rfl; omega)) oo c1.symm hr) ?_
 rintro _ H2 n2 q2 s2 hP2
 unfold mPrim
 cases hO:primOut m.p k xs with
 | bad q =>
  rw [hO] at hP2
  obtain ⟨rfl,hS2⟩:=hP2
  rcases primOut_badk hO with rfl | rfl
  ·refine W0 trivial ?_
   exact Wp.pure ⟨so,(mm (A2 s2 s1)),MRes.er (hS2.mv so rfl rfl) (.inr rfl) (by decide)⟩
  ·refine W0 trivial ?_
   exact Wp.pure ⟨so,(mm (A2 s2 s1)),MRes.er (hS2.mv so rfl rfl) (.inr rfl) (by decide)⟩
 | old i =>
  rw [hO] at hP2
  obtain ⟨rfl,hS2⟩:=hP2
  simp only
  rw [mChk_ok so]
  refine W0 trivial ?_
  refine Zp (k97 (m:=m) (hS2.mv oo rfl rfl) oo i) ?_
  rintro _ H3 n3 q3 s3 ⟨rfl,v3,id3,i3,hS3⟩
  have ea:(mPut i m).a=m.a:=rfl
  generalize mPut i m=m3 at hS3 ea ⊢
  have hc3:H3 c=some (.row [v3,.int .i64 m3.a,.int .i64 m3.s,.int .i64 m3.e,.int .i64 m3.d,.int .i64 m3.t,.int .i64 m3.k,.int .i64 m3.r,x1,x2,x3] 0 true):=hS3.hc
  have wA:IntKind.i64.wrap (m3.a+1)=m.a+1:=by rw [ea]; exact w64 oo
  refine W1 (A2 hc3 wA) ?_
  exact Wp.pure ⟨so,(mm (A3 s3 s2 s1)),MRes.ok (hS3.to so (Zf _ _ _) (Zj _ _ hS3.ne) rfl) (.inl oo)⟩
 | add x =>
  rw [hO] at hP2
  obtain ⟨rfl,v2,id2,i2,hS2⟩:=hP2
  simp only
  rw [mChk_ok so]
  have hl2:=addLen m [x]
  simp only [List.length_cons,List.length_nil] at hl2
  refine W0 trivial ?_
  refine Zp (k97 (m:=m.add [x]) (hS2.mv oo rfl rfl) oo _) ?_
  rintro _ H3 n3 q3 s3 ⟨rfl,v3,id3,i3,hS3⟩
  have ea:(mPut m.p.length (m.add [x])).a=m.a:=rfl
  generalize mPut m.p.length (m.add [x])=m3 at hS3 ea ⊢
  have hc3:H3 c=some (.row [v3,.int .i64 m3.a,.int .i64 m3.s,.int .i64 m3.e,.int .i64 m3.d,.int .i64 m3.t,.int .i64 m3.k,.int .i64 m3.r,x1,x2,x3] 0 true):=hS3.hc
  have wA:IntKind.i64.wrap (m3.a+1)=m.a+1:=by rw [ea]; exact w64 oo
  refine W1 (A2 hc3 wA) ?_
  exact Wp.pure ⟨so,(mm (A3 s3 s2 s1)),MRes.ok (hS3.to so (Zf _ _ _) (Zj _ _ hS3.ne) rfl) (.inl oo)⟩
def IsCC (m:Mc) (f:Int):Prop:=(gi m.p f).k=8∧(gi m.p f).n=18
theorem mCall_fun {n next:Int} {fuel:Nat} {f:Int} {xs:List Int} {m:Mc} (h:(gi m.p f).k=6):mCall n next fuel f xs m=mEnter n (gi m.p f) xs next m:=by
 cases fuel <;> unfold mCall <;> rw [if_pos h]
theorem mCall_kont {n next:Int} {fuel:Nat} {f:Int} {xs:List Int} {m:Mc} (h:(gi m.p f).k=7):mCall n next fuel f xs m=mResume (gi m.p f).a xs m:=by
 cases fuel <;> unfold mCall <;> rw [if_neg oo,if_neg oo,if_pos h]
theorem mCall_no {n next:Int} {fuel:Nat} {f:Int} {xs:List Int} {m:Mc} (h:(gi m.p f).k≠6∧(gi m.p f).k≠7∧(gi m.p f).k≠8):mCall n next fuel f xs m=.error 3:=by
 cases fuel <;> unfold mCall <;> rw [if_neg h.1,if_neg h.2.2,if_neg h.2.1]
theorem mCall_prim {n next:Int} {fuel:Nat} {f:Int} {xs:List Int} {m:Mc} (h:(gi m.p f).k=8) (h18:(gi m.p f).n≠18):mCall n next fuel f xs m=mBuilt (gi m.p f).n xs next m:=by
 unfold mBuilt
 cases fuel <;> unfold mCall <;> rw [if_neg oo,if_pos h] <;> simp only [h18,if_false]
theorem mCall_cc0 {n next:Int} {fuel:Nat} {f:Int} {xs:List Int} {m:Mc} (h:IsCC m f) (h1:xs.length≠1):mCall n next fuel f xs m=.error 2:=by
 have e:primArgs (gi m.p f).n≠(xs.length:Int):=by rw [h.2]; intro e; have:primArgs 18=1:=rfl; omega
 cases fuel <;> unfold mCall <;> rw [if_neg (by have:=h.1; omega),if_pos h.1,if_pos e]
def ccM (next:Int) (m:Mc):Mc:=(mSave next [m.s,m.e,m.d] m).add [ndKont (mSaveV [m.s,m.e,m.d] m)]
def ccV (next:Int) (m:Mc):Int:=((mSave next [m.s,m.e,m.d] m).p.length:Int)
theorem mCall_cc {n next:Int} {fuel:Nat} {f:Int} {xs:List Int} {m:Mc} (h:IsCC m f) (h1:xs.length=1):mCall n next (fuel+1) f xs m=mCall n next fuel (gi xs 0) [ccV next m] (ccM next m):=by
 have e:¬ primArgs (gi m.p f).n≠(xs.length:Int):=by rw [h.2,h1]; intro e; exact e rfl
 conv=>lhs; unfold mCall
 rw [if_neg (by have:=h.1; omega),if_pos h.1,if_neg e,if_pos h.2]
 rfl
theorem kc95 {n0 c id n:Nat} {H:Hp} {x1 x2 x3 v w:Value} {m:Mc} {l:List Nd} {li:List Ins} {ld:List Df} {b:Nat} {xs:List Int} (K:Cl n0 c id n H x1 x2 x3 v w [x1,x2,x3] m l li ld b xs) (f:Int) (hf:In m f) (hcc:¬ IsCC m f) (fuel:Nat) :
  RtA Tryz.prog 95 [ptr c 0,.int .i64 f,w] c id H n (MRes (mChk li.length (mCall li.length (m.a+1) fuel f xs m)) c id n [x1,x2,x3]):=by
 obtain ⟨h,hw,hb,hC,hn0,hll,ha,hxs,hoc,hod,hxl,hr,hP⟩:=(show _ from K)
 apply RtA.of
 rw [c95]; unfold S95
 have hc:H c=some (.row [v,.int .i64 m.a,.int .i64 m.s,.int .i64 m.e,.int .i64 m.d,.int .i64 m.t,.int .i64 m.k,.int .i64 m.r,x1,x2,x3] 0 true):=h.hc
 have hcn:=h.cn
 have hid:=h.idn
 have hne:=h.ne
 have gx:=h.li.nAll hf.1 hf.2
 have hok:=hw.at hf
 have hK:∀ (o:Option Obj),Cl n0 c id (n+10) (H.set (n+10) o) x1 x2 x3 v w [x1,x2,x3] m l li ld b xs:=fun o=>⟨h.mv oo m0 m0,hw,hb,hC.mv m0,hn0,hll,ha,hxs.mv oo m0,hoc,hod,hxl,hr,hP⟩
 have six:(gi m.p f).k=6→0≤(gi m.p f).n∧(gi m.p f).n≤1000000000:=fun h=>by rcases hok with h' | h' | h' | h' | h' | h' | h' | h' | h' <;> omega
 have eight:(gi m.p f).k=8→0≤(gi m.p f).n∧(gi m.p f).n≤99:=fun h=>by rcases hok with h' | h' | h' | h' | h' | h' | h' | h' | h' <;> omega
 have seven:(gi m.p f).k=7→In m (gi m.p f).a:=fun h=>by have:=hok.one (.inr h); have:=hf.2; exact ⟨by omega,by omega⟩
 by_cases c6:(gi m.p f).k=6
 ·rw [mCall_fun c6]
  have hn6:=six c6
  generalize gi m.p f=x at gx c6 hn6 ⊢
  obtain ⟨xk,xn,xs',xa,xb⟩:=x
  simp only [Nd.cells] at gx c6 hn6
  refine W1 (A3 hc gx c6) ?_
  obtain ⟨h',_,_,hC',_,_,_,hxs',_,_,_,_,_⟩:=hK (some (.row [.int .i64 6,.int .i64 xn,.string xs',.int .i64 xa,.int .i64 xb] 0 true))
  refine Zp (k122 (h'.mv oo rfl rfl) hw hb hC' hn0 hll oo ⟨6,xn,xs',xa,xb⟩ hn6 (hxs'.up oo) hoc hod hxl) ?_
  rintro _ H2 n2 q2 s2 ⟨q,m',v',id',rfl,e2,e3,e4⟩
  refine W0 trivial ?_
  subst c6
  exact Wp.pure ⟨so,(mm s2),q,m',v',id',rfl,by omega,e3,e4⟩
 by_cases c8:(gi m.p f).k=8
 ·have c18:(gi m.p f).n≠18:=fun h=>hcc ⟨c8,h⟩
  rw [mCall_prim c8 c18]
  have hn8:=eight c8
  generalize gi m.p f=x at gx c8 c18 hn8 ⊢
  obtain ⟨xk,xn,xs',xa,xb⟩:=x
  simp only [Nd.cells] at gx c8 c18 hn8
  refine W1 (A3 hc gx c8) ?_
  obtain ⟨h',_,_,hC',_,_,_,hxs',_,_,_,_,_⟩:=hK (some (.row [.int .i64 8,.int .i64 xn,.string xs',.int .i64 xa,.int .i64 xb] 0 true))
  refine Zp (kp123 ⟨h'.mv oo rfl rfl,hw,hb,hC',hn0,hll,ha,hxs'.up oo,hoc,hod,hxl,hr,hP⟩ xn hn8 c18) ?_
  rintro _ H2 n2 q2 s2 ⟨q,m',v',id',rfl,e2,e3,e4⟩
  refine W0 trivial ?_
  exact Wp.pure ⟨so,(mm s2),q,m',v',id',rfl,by omega,e3,e4⟩
 by_cases c7:(gi m.p f).k=7
 ·rw [mCall_kont c7]
  have hn7:=seven c7
  generalize gi m.p f=x at gx c7 hn7 ⊢
  obtain ⟨xk,xn,xs',xa,xb⟩:=x
  simp only [Nd.cells] at gx c7 hn7
  refine W1 (A3 hc gx c7) ?_
  obtain ⟨h',_,_,hC',_,_,_,hxs',_,_,_,_,_⟩:=hK (some (.row [.int .i64 7,.int .i64 xn,.string xs',.int .i64 xa,.int .i64 xb] 0 true))
  refine Zp (k124 (h'.mv oo rfl rfl) hw hb hC' hn0 hll xa hn7 (hxs'.up oo) hoc hod hxl) ?_
  rintro _ H2 n2 q2 s2 ⟨q,m',v',id',rfl,e2,e3,e4⟩
  refine W0 trivial ?_
  exact Wp.pure ⟨so,(mm s2),q,m',v',id',rfl,by omega,e3,e4⟩
 rw [mCall_no ⟨c6,c7,c8⟩]
 generalize gi m.p f=x at gx c6 c7 c8 ⊢
 obtain ⟨xk,xn,xs',xa,xb⟩:=x
 simp only [Nd.cells] at gx c6 c7 c8
 refine W1 (A5 hc gx c6 c7 c8) ?_
 exact Wp.pure ⟨so,m0,MRes.er (h.mv so m0 m0) (.inr rfl) (by decide)⟩
end Go.Proofs.YtcffcnipmgkjfaaGreat.Ax
set_option linter.unusedVariables false
set_option linter.unusedSimpArgs false
set_option maxHeartbeats 8000000
namespace Go.Proofs.YtcffcnipmgkjfaaGreat.Ax
open Go
theorem In.cc {m:Mc} {y:Int} (h:In m y) (next:Int):In (ccM next m) y:=((h.add _).add _).add _
theorem cc_gi {m:Mc} {y:Int} (h:In m y) (next:Int):gi (ccM next m).p y=gi m.p y:=by
 have h1:=h.add [ndInt next]
 have h2:=h1.add (lNodes (m.add [ndInt next]).p.length [(m.p.length:Int),m.s,m.e,m.d])
 exact ((gi_app h2.2 h.1).trans (gi_app h1.2 h.1)).trans (gi_app h.2 h.1)
theorem cc_kont (m:Mc) (next:Int):gi (ccM next m).p (ccV next m)=ndKont (mSaveV [m.s,m.e,m.d] m):=gi_last _ _
theorem cc_wf {b:Nat} {m:Mc} (h:Wf b m) {next:Int} (hn : -1000000000≤next∧next≤1000000000):Wf (b+7) (ccM next m):=by
 obtain ⟨h1,h2⟩:=h.save (xs:=[m.s,m.e,m.d]) (by
  intro v hv
  simp only [List.mem_cons,List.not_mem_nil,or_false] at hv
  rcases hv with rfl | rfl | rfl
  ·exact h.s
  ·exact h.e
  ·exact h.d) hn
 exact h1.add (kont_ok h2) (by simp)
theorem cc_in (m:Mc) (next:Int):In (ccM next m) (ccV next m):=by
 unfold In ccM ccV Mc.add
 simp only [List.length_append,List.length_cons,List.length_nil]
 omega
def CallI (c n0:Nat) (x1 x2 x3:Value) (l:List Nd) (li:List Ins) (ld:List Df) (fuel:Nat):Prop :=
 ∀ (id n:Nat) (H:Hp) (v w:Value) (m:Mc) (b:Nat) (xs:List Int),Cl n0 c id n H x1 x2 x3 v w [x1,x2,x3] m l li ld b xs→b+10 * fuel≤100000→∀ f,In m f→(IsCC m f→1≤fuel)→(IsCC m f→xs.length=1→IsCC m (gi xs 0)→2≤fuel) →
  RtA Tryz.prog 95 [ptr c 0,.int .i64 f,w] c id H n (MRes (mChk li.length (mCall li.length (m.a+1) fuel f xs m)) c id n [x1,x2,x3])
theorem kq123 {n0 c id n:Nat} {H:Hp} {x1 x2 x3 v w:Value} {m:Mc} {l:List Nd} {li:List Ins} {ld:List Df} {b:Nat} {xs:List Int} {fuel:Nat} (ih:CallI c n0 x1 x2 x3 l li ld fuel) (K:Cl n0 c id n H x1 x2 x3 v w [x1,x2,x3] m l li ld b xs) (hbf:b+7+10 * fuel≤100000) (h2:xs.length=1→IsCC m (gi xs 0)→1≤fuel) :
  RtA Tryz.prog 123 [ptr c 0,.int .i64 18,w] c id H n (MRes (mChk li.length (if xs.length≠1 then .error 2 else mCall li.length (m.a+1) fuel (gi xs 0) [ccV (m.a+1) m] (ccM (m.a+1) m))) c id n [x1,x2,x3]):=by
 obtain ⟨h,hw,hb,hC,hn0,hll,ha,hxs,hoc,hod,hxl,hr,hP⟩:=K
 apply RtA.of
 rw [c123]; unfold S123
 have hc:H c=some (.row [v,.int .i64 m.a,.int .i64 m.s,.int .i64 m.e,.int .i64 m.d,.int .i64 m.t,.int .i64 m.k,.int .i64 m.r,x1,x2,x3] 0 true):=h.hc
 have hcn:=h.cn
 have hid:=h.idn
 have hne:=h.ne
 have hl:=hw.len
 have hlen:=hxs.len
 refine W0 trivial ?_
 refine Zu (argsI' 18 oo _ _) ?_
 intro H1 n1 q1 s1
 have hp18:primArgs 18=1:=rfl
 by_cases c1:xs.length=1
 case neg =>
  rw [if_pos c1]
  refine W1 (A3 hlen hp18 (show ¬ (1:Int)=(xs.length:Int) by omega)) ?_
  exact Wp.pure ⟨so,(mm s1),MRes.er (h.mv so (mm s1) (mm s1)) (.inr rfl) (by decide)⟩
 rw [if_neg (fun h=>h c1)]
 have c1i:(xs.length:Int)=1:=by omega
 have wA:IntKind.i64.wrap (m.a+1)=m.a+1:=w64 oo
 have hx0:=hr _ (gi_mem (l:=xs) (i:=0) oo oo)
 refine W1 (A6 hlen hp18 c1i s1 hc wA) ?_
 refine Zp ((h.mv oo (mm s1) (mm s1)).addI oo (ndInt (m.a+1))) ?_
 rintro _ H2 n2 q2 s2 ⟨rfl,v2,id2,i2,hS2⟩
 have f2:=addLen m [ndInt (m.a+1)]
 simp only [List.length_cons,List.length_nil] at f2
 have hid2:=hS2.idn
 have hc2:H2 c=some (.row [v2,.int .i64 m.a,.int .i64 m.s,.int .i64 m.e,.int .i64 m.d,.int .i64 m.t,.int .i64 m.k,.int .i64 m.r,x1,x2,x3] 0 true):=hS2.hc
 refine W1 hc2 ?_
 refine Wp.bslN eInt [(m.p.length:Int),m.s,m.e,m.d] (by decide) rfl rfl ?_
 refine W0 trivial ?_
 refine Zp ((hS2.mv oo m0 m0).listI (m:=m.add [ndInt (m.a+1)]) ((At.of rfl (Zf _ _ _)).lst oo) (Off.sl oo) (Off.sl oo) (by simp only [List.length_cons,List.length_nil]; omega)) ?_
 rintro _ H3 n3 q3 s3 ⟨rfl,v3,id3,i3,hS3⟩
 have f3:=listLen [(m.p.length:Int),m.s,m.e,m.d] (m.add [ndInt (m.a+1)])
 simp only [List.length_cons,List.length_nil] at f3
 have hid3:=hS3.idn
 rw [saveV_eq m (m.a+1) [m.s,m.e,m.d]]
 refine W1 trivial ?_
 refine Zp ((hS3.mv oo rfl rfl).addI (m:=mSave (m.a+1) [m.s,m.e,m.d] m) (by unfold mSave; omega) (ndKont (mSaveV [m.s,m.e,m.d] m))) ?_
 rintro _ H4 n4 q4 s4 ⟨rfl,v4,id4,i4,hS4⟩
 have hid4:=hS4.idn
 have g4:=(hxs.mv2 (H':=H4) hoc hod (Nat.le_refl _) (mm (A4 s4 s3 s2 s1))).iAll (i:=0) oo oo
 have hm4:∀ i,i < n→i≠c→i≠id→H4 i=H i:=(mm (A4 s4 s3 s2 s1))
 refine W1 (A2 g4 @bsl_i) ?_
 refine Zp (ih id4 _ _ v4 _ (ccM (m.a+1) m) (b+7) [ccV (m.a+1) m] ⟨hS4.mv oo m0 m0,cc_wf hw oo,by omega,hC.mv (fun i hi=>by rw [Zj _ _ oo]; exact hm4 i oo oo oo),by omega,hll,ha,(At.of rfl (Zf _ _ _)).lst oo,Off.sl oo,Off.sl oo,by simp,fun x hx=>by rw [List.mem_singleton] at hx; rw [hx]; exact cc_in _ _,fun h=>by simp at h⟩ oo (gi xs 0) (hx0.cc _) (fun hcc=>h2 c1 (by unfold IsCC at hcc ⊢; rw [cc_gi hx0] at hcc; exact hcc)) (fun _ _ hcc=>by
  have e:gi [ccV (m.a+1) m] 0=ccV (m.a+1) m:=rfl
  unfold IsCC at hcc
  rw [e,cc_kont] at hcc
  exact absurd hcc.1 (show ¬ (7:Int)=8 by decide))) ?_
 rintro _ H5 n5 q5 s5 ⟨q,m',v',id',rfl,e2,e3,e4⟩
 refine W0 trivial ?_
 exact Wp.pure ⟨so,(mm (A2 s5 hm4)),q,m',v',id',rfl,by omega,e3,e4⟩
theorem callI {c n0:Nat} {x1 x2 x3:Value} {l:List Nd} {li:List Ins} {ld:List Df}:∀ fuel,CallI c n0 x1 x2 x3 l li ld fuel:=by
 intro fuel
 induction fuel with
 | zero =>
  intro id n H v w m b xs K hbf f hf h1 h2
  exact kc95 K f hf (fun h=>by have:=h1 h; omega) 0
 | succ fuel ih =>
  intro id n H v w m b xs K hbf f hf h1 h2
  by_cases hcc:IsCC m f
  case neg=>exact kc95 K f hf hcc (fuel+1)
  obtain ⟨h,hw,hb,hC,hn0,hll,ha,hxs,hoc,hod,hxl,hr,hP⟩:=K
  apply RtA.of
  rw [c95]; unfold S95
  have hc:H c=some (.row [v,.int .i64 m.a,.int .i64 m.s,.int .i64 m.e,.int .i64 m.d,.int .i64 m.t,.int .i64 m.k,.int .i64 m.r,x1,x2,x3] 0 true):=h.hc
  have hcn:=h.cn
  have hid:=h.idn
  have hne:=h.ne
  have gx:=h.li.nAll hf.1 hf.2
  have eR:mCall li.length (m.a+1) (fuel+1) f xs m=if xs.length≠1 then .error 2 else mCall li.length (m.a+1) fuel (gi xs 0) [ccV (m.a+1) m] (ccM (m.a+1) m):=by
   by_cases e1:xs.length=1
   ·rw [if_neg (fun h=>h e1),mCall_cc hcc e1]
   ·rw [if_pos e1,mCall_cc0 hcc e1]
  rw [eR]
  have h2':=h2 hcc
  unfold IsCC at hcc
  generalize gi m.p f=x at gx hcc
  obtain ⟨xk,xn,xs',xa,xb⟩:=x
  simp only [Nd.cells] at gx hcc
  obtain ⟨rfl,rfl⟩:=hcc
  refine W1 (A2 hc gx) ?_
  refine Zp (kq123 ih ⟨h.mv oo m0 m0,hw,hb,hC.mv m0,hn0,hll,ha,hxs.mv oo m0,hoc,hod,hxl,hr,hP⟩ oo (fun e1 e2=>by have:=h2' e1 e2; omega)) ?_
  rintro _ H5 n5 q5 s5 ⟨q,m',v',id',rfl,e2,e3,e4⟩
  refine W0 trivial ?_
  exact Wp.pure ⟨so,(mm s5),q,m',v',id',rfl,by omega,e3,e4⟩
theorem k95 {n0 c id n:Nat} {H:Hp} {x1 x2 x3 v w:Value} {m:Mc} {l:List Nd} {li:List Ins} {ld:List Df} {b:Nat} {xs:List Int} (K:Cl n0 c id n H x1 x2 x3 v w [x1,x2,x3] m l li ld b xs) (hb:b≤90000) (f:Int) (hf:In m f) :
  RtA Tryz.prog 95 [ptr c 0,.int .i64 f,w] c id H n (MRes (mChk li.length (mCall li.length (m.a+1) 3 f xs m)) c id n [x1,x2,x3]) :=
 callI 3 id n H v w m b xs K oo f hf (fun _=>by omega) (fun _ _ _=>by omega)
end Go.Proofs.YtcffcnipmgkjfaaGreat.Ax
set_option linter.unusedVariables false
set_option linter.unusedSimpArgs false
set_option maxHeartbeats 8000000
namespace Go.Proofs.YtcffcnipmgkjfaaGreat.Ax
open Go
def rvAt (l:List Int) (i k:Nat):Int:=if k < i∨l.length - 1 - i < k then gi l ((l.length - 1 - k:Nat):Int) else gi l (k:Int)
def rvL (l:List Int) (i:Nat):List Int:=fam (rvAt l i) l.length
theorem rvL_len (l:List Int) (i:Nat):(rvL l i).length=l.length:=fam_len _ _
theorem rvL_gi (l:List Int) (i:Nat) {k:Nat} (h:k < l.length):gi (rvL l i) (k:Int)=rvAt l i k:=fam_gi _ h
theorem rvL_0 (l:List Int):rvL l 0=l:=by
 apply List.ext_getElem (rvL_len l 0)
 intro k h1 h2
 have e:=rvL_gi l 0 h2
 rw [gi_nat h1] at e
 rw [e,rvAt,if_neg oo,gi_nat h2]
theorem rvL_end (l:List Int) {i:Nat} (h:l.length≤2 * i+1):rvL l i=l.reverse:=by
 apply List.ext_getElem (by rw [rvL_len,List.length_reverse])
 intro k h1 h2
 have hk:k < l.length:=by rw [rvL_len] at h1; exact h1
 have e:=rvL_gi l i hk
 rw [gi_nat h1] at e
 rw [e,List.getElem_reverse,rvAt]
 by_cases hc:k < i∨l.length - 1 - i < k
 ·rw [if_pos hc,gi_nat oo]
 ·rw [if_neg hc,gi_nat hk]
  congr 1; omega
theorem rvL_next (l:List Int) {i:Nat} (h:2 * i+1 < l.length):((rvL l i).set i (gi l ((l.length - 1 - i:Nat):Int))).set (l.length - 1 - i) (gi l (i:Int))=rvL l (i+1):=by
 apply List.ext_getElem (by simp [rvL_len])
 intro k h1 h2
 have hk:k < l.length:=by rw [rvL_len] at h2; exact h2
 have e:=rvL_gi l (i+1) hk
 rw [gi_nat h2] at e
 rw [e,List.getElem_set,List.getElem_set,rvAt]
 by_cases c1:l.length - 1 - i=k
 ·subst c1
  rw [if_pos rfl,if_pos oo]
  congr 1; omega
 ·rw [if_neg c1]
  by_cases c2:i=k
  ·subst c2
   rw [if_pos rfl,if_pos oo]
  ·rw [if_neg c2]
   have e2:=rvL_gi l i hk
   rw [gi_nat (by rw [rvL_len]; exact hk)] at e2
   rw [e2,rvAt]
   by_cases c3:k < i∨l.length - 1 - i < k
   ·rw [if_pos c3,if_pos oo]
   ·rw [if_neg c3,if_neg oo]
theorem l94 {id n0:Nat} {H0:Hp} {l:List Int} (hl:l.length≤1000000) (hid:id < n0) (h:H0 id=some (.row (l.flatMap eInt.cells) 1 true)):∀ t n,n0≤n→t 0=sl id 0 l.length→t 2=.int .i64 0→t 3=.int .i64 ((l.length:Int) - 1) →
  Wp (Zi (S94L0 (Call Tryz.prog) Zi) t H0 n) (fun out=>n≤out.n∧(∀ i,i < n0→i≠id→out.H i=H0 i)∧out.e=.exit 0∧out.H id=some (.row (l.reverse.flatMap eInt.cells) 1 true)):=by
 intro t n hn0 e0 e2 e3
 refine Zs (fun d T H' n'=>∃ i:Nat,d=l.length - i∧2 * i≤l.length+1∧n≤n'∧(∀ k,k < n0→k≠id→H' k=H0 k)∧T 0=sl id 0 l.length∧T 2=.int .i64 (i:Int)∧T 3=.int .i64 ((l.length:Int) - 1 - i)∧H' id=some (.row ((rvL l i).flatMap eInt.cells) 1 true)) _ ?_ (l.length - 0) t H0 n ⟨0,rfl,by omega,by omega,fun _ _ _=>rfl,e0,e2,by rw [e3]; simp,by rw [rvL_0]; exact h⟩
 rintro d T H' n' ⟨i,hd,hi,hn,hsm,e0,e2,e3,hat⟩
 unfold S94L0
 by_cases hlt:(i:Int) < (l.length:Int) - 1 - i
 ·have hj:l.length - 1 - i < l.length:=by omega
  have hil:i < l.length:=by omega
  have ej:((l.length:Int) - 1 - i)=((l.length - 1 - i:Nat):Int):=by omega
  have ia:=idx_sl (sz:=1) (id:=id) (k:=.i64) hil
  have ib:=idx_sl (sz:=1) (id:=id) (k:=.i64) hj
  rw [← ej] at ib
  rw [Nat.mul_one] at ia ib
  have hrl:(rvL l i).length=l.length:=rvL_len l i
  have fj:((rvL l i).flatMap eInt.cells)[l.length - 1 - i]?=some (.int .i64 (gi l ((l.length - 1 - i:Nat):Int))):=by
   have:=flat_cell eInt (l:=rvL l i) (j:=l.length - 1 - i) (f:=0) oo (by decide)
   rw [show (l.length - 1 - i) * eInt.sz+0=l.length - 1 - i from by show (l.length - 1 - i) * 1+0=_; omega] at this
   rw [this,← gi_nat oo,rvL_gi l i hj,rvAt,if_neg oo]; rfl
  have fi:((rvL l i).flatMap eInt.cells)[i]?=some (.int .i64 (gi l (i:Int))):=by
   have:=flat_cell eInt (l:=rvL l i) (j:=i) (f:=0) oo (by decide)
   rw [show i * eInt.sz+0=i from by show i * 1+0=_; omega] at this
   rw [this,← gi_nat oo,rvL_gi l i hil,rvAt,if_neg oo]; rfl
  have st1:=st_el1 (E:=eInt) (H:=H') (id:=id) (l:=rvL l i) hat (j:=i) oo (y:=gi l ((l.length - 1 - i:Nat):Int)) (c:=.int .i64 (gi l ((l.length - 1 - i:Nat):Int))) rfl rfl rfl
  have st2:=st_el1 (E:=eInt) (H:=H'.set id (some (.row (((rvL l i).set i (gi l ((l.length - 1 - i:Nat):Int))).flatMap eInt.cells) 1 true))) (id:=id) (l:=(rvL l i).set i (gi l ((l.length - 1 - i:Nat):Int))) (Zf _ _ _) (j:=l.length - 1 - i) (by rw [List.length_set]; omega) (y:=gi l (i:Int)) (c:=.int .i64 (gi l (i:Int))) rfl rfl rfl
  rw [rvL_next l oo] at st2
  have w1:IntKind.i64.wrap ((i:Int)+1)=((i+1:Nat):Int):=by rw [w64 oo]; omega
  have w2:IntKind.i64.wrap ((l.length:Int) - 1 - i - 1)=(l.length:Int) - 1 - ((i+1:Nat):Int):=by rw [w64 oo]; omega
  refine W0 (A8 e0 e2 e3 hlt ia ib @ld_r (A8 hat @rowGet_row fi fj st1 st2 w1 w2)) ?_
  refine Wp.pure (Nxt.go (l.length - (i+1)) oo ⟨i+1,rfl,by omega,by omega,fun k h1 h2=>?_,pp e0,p0,p0,?_⟩)
  ·rw [Zj _ _ h2,Zj _ _ h2]; exact hsm k h1 h2
  ·exact Zf _ _ _
 ·refine W0 (A4 e0 e2 e3 hlt) ?_
  refine Wp.pure (Nxt.exit ⟨so,hsm,rfl,?_⟩)
  simp only
  rw [hat,rvL_end l oo]
theorem k94 {id n:Nat} {H:Hp} {v:Value} {l:List Int} (h:At eInt id H v l) (hid:id < n) (hl:l.length≤1000000) (h1:1≤l.length):RtM Tryz.prog 94 [v] id H n (.tuple ⟨[]⟩) (fun H' n'=>At eInt id H' v l.reverse):=by
 apply RtM.of
 rw [c94]; unfold S94
 rcases h with ⟨_,rfl⟩ | ⟨rfl,h⟩
 ·simp at h1
 have w1:IntKind.i64.wrap ((l.length:Int) - 1)=(l.length:Int) - 1:=w64 oo
 refine W0 (A2 @len_sl w1) ?_
 refine Wp.bind (l94 (n0:=n) hl hid h _ _ oo pa pa p0) ?_
 rintro ⟨oe,ot,oH,on⟩ ⟨f1,f2,f3,f4⟩
 simp only at f1 f2 f3 f4
 refine W0 trivial ?_
 exact Wp.pure ⟨so,f2,rfl,.inr ⟨by rw [List.length_reverse],f4⟩⟩
theorem slice1 {id:Nat} {H:Hp} {v:Value} {l:List Int} (h:At eInt id H v l) (hl:1≤l.length):∃ v',sliceV 1 v (some (.int .i64 1)) none=some v'∧(∀ n,id < n→Li eInt n H v' (l.drop 1))∧(∀ c,id≠c→Off c v'):=by
 have h0:=h.lst (Nat.lt_succ_self id)
 obtain ⟨v',e1,e2⟩:=h0.slice (by decide) (some (.int .i64 1)) none 1 l.length rfl (fun d hd=>by rw [hd]; rfl) hl (Nat.le_refl _)
 have ed:(l.drop 1).take (l.length - 1)=l.drop 1:=List.take_of_length_le (by simp)
 rw [ed] at e2
 refine ⟨v',e1,fun n hn=>e2.up oo,fun c hc=>?_⟩
 rcases h with ⟨_,rfl⟩ | ⟨rfl,h⟩
 ·simp at hl
 by_cases h1:l.length=1
 ·have:sliceV 1 (sl id 0 l.length) (some (.int .i64 1)) none=some emptyS:=by rw [h1]; rfl
  rw [show eInt.sz=1 from rfl,this] at e1
  cases e1
  intro i o a k e
  cases e
 ·have:sliceV 1 (sl id 0 l.length) (some (.int .i64 1)) none=some (sl id (0+1 * 1) (l.length - 1)):=by
   have h2:¬ 1=l.length:=fun h=>h1 h.symm
   simp [sliceV,bnd,hl,h2]
  rw [show eInt.sz=1 from rfl,this] at e1
  cases e1
  exact Off.sl hc
theorem mTakes_step {d:Nat} {m:Mc}:mTakes (d+1) m=(mTake m).bind fun q=>(mTakes d q.2).map fun z=>(z.1++[q.1],z.2):=by
 rw [mTakes]
 cases mTake m with
 | none=>rfl
 | some q =>
  obtain ⟨y,m1⟩:=q
  simp only [Option.bind_some]
  cases mTakes d m1 with
  | none=>rfl
  | some z=>rfl
theorem l58 {c id n0:Nat} {H0:Hp} {v x1 x2 x3:Value} {m:Mc} (h:SM c id n0 H0 [x1,x2,x3] v m) {b:Nat} (hw:Wf b m) (k:Nat) (hk:k≤100):∀ t H n ia,n0≤n→(∀ i,i < n0→H i=H0 i)→n0≤ia→ia < n→H ia=some (.row [] 1 true)→t 0=ptr c 0→t 5=sl ia 0 0→t 22=.int .i64 (k:Int)→t 23=.int .i64 0 →
  Wp (Zi (S58L0 (Call Tryz.prog) Zi) t H n) (fun out=>n≤out.n∧(∀ i,i < n0→i≠c→i≠id→out.H i=H0 i)∧∃ s,SM c id out.n out.H [x1,x2,x3] v { m with s:=s }∧((out.e=.exit 0∧out.t 0=ptr c 0∧∃ ia acc,n0≤ia∧ia < out.n∧At eInt ia out.H (out.t 5) acc∧acc.length=k∧Wf b { m with s:=s }∧(∀ x∈acc,In m x)∧mTakes k m=some (acc.reverse,{ m with s:=s }))∨(out.e=.ret∧out.t 4=.int .i64 7∧mTakes k m=none))):=by
 intro t H n ia hn0 hsm0 hia hian hHa e0 e5 e22 e23
 refine Zs (fun d T H' n'=>∃ (s:Int) (ia:Nat) (acc:List Int),acc.length+d=k∧n≤n'∧(∀ i,i < n0→i≠c→i≠id→H' i=H0 i)∧SM c id n' H' [x1,x2,x3] v { m with s:=s }∧n0≤ia∧ia < n'∧At eInt ia H' (T 5) acc∧Wf b { m with s:=s }∧(∀ x∈acc,In m x)∧T 0=ptr c 0∧T 22=.int .i64 (k:Int)∧T 23=.int .i64 (acc.length:Int)∧mTakes k m=(mTakes d { m with s:=s }).map (fun z=>(z.1++acc.reverse,z.2))) _ ?_ k t H n ⟨m.s,ia,[],by simp,by omega,fun i h1 _ _=>hsm0 i h1,h.mv hn0 (hsm0 _ h.cn) (hsm0 _ h.idn),hia,hian,.inr ⟨e5,hHa⟩,hw,fun x hx=>by simp at hx,e0,e22,e23,?_⟩
 case refine_2 =>
  show mTakes k m=_
  cases hM:mTakes k { m with s:=m.s } with
  | none=>rfl
  | some z=>simp
 rintro d T H' n' ⟨s,ia,acc,hd,hn,hsm,hS,hia,hian,hat,hwS,hin,e0,e22,e23,hT⟩
 unfold S58L0
 have hcn:=h.cn
 have hid:=h.idn
 cases d with
 | zero =>
  have hlt:¬ (acc.length:Int) < (k:Int):=by omega
  refine W0 (A4 e0 e22 e23 hlt) ?_
  refine Wp.pure (Nxt.exit ⟨so,hsm,s,hS.mv so rfl rfl,.inl ⟨rfl,pp e0,ia,acc,hia,so,by simpa [Zk] using hat,by omega,hwS,hin,?_⟩⟩)
  rw [hT]; simp [mTakes]
 | succ d =>
  have hlt:(acc.length:Int) < (k:Int):=by omega
  refine W0 (A4 e0 e22 e23 hlt) ?_
  refine Zp (k93 (hS.mv oo rfl rfl) hwS.s) ?_
  rintro r H1 n1 q1 s1 hR
  rw [mTakes_step] at hT
  cases hM:mTake { m with s:=s } with
  | none =>
   rw [hM] at hR hT
   obtain ⟨rfl,hS1⟩:=hR
   refine W0 trivial ?_
   exact Wp.pure (Nxt.ret ⟨so,(mm (A2 s1 hsm)),s,hS1.mv so rfl rfl,.inr ⟨rfl,p0,by rw [hT]; rfl⟩⟩)
  | some q =>
   obtain ⟨y,m1⟩:=q
   rw [hM] at hR hT
   obtain ⟨rfl,hS1⟩:=hR
   obtain ⟨hw1,hy,rfl⟩:=hwS.take hM
   have hat1:At eInt ia H1 (T 5) acc:=hat.mv (s1 _ oo oo oo)
   obtain ⟨H3,f1,f2,f3⟩:=app_one (id1:=n1+4) (id2:=n1+5) (bytes:=8) y hat1 oo (by decide) oo
   have w1:IntKind.i64.wrap ((acc.length:Int)+1)=(((acc++[y]).length:Nat):Int):=by rw [w64 oo,List.length_append]; simp
   refine W1 (A4 e23 @bsl_i f1 w1) ?_
   refine Wp.pure (Nxt.go d oo ⟨(gi m.p s).b,n1+5,acc++[y],by simp; omega,by omega,fun i h1 h2 h3=>?_,hS1.mv oo (f3 _ oo oo oo) (f3 _ oo oo oo),by omega,by omega,?_,hw1,?_,pp e0,pp e22,p0,?_⟩)
   ·rw [f3 _ oo oo oo,s1 _ oo h2 h3]; exact hsm i h1 h2 h3
   ·simp only [Zk]; exact .inr ⟨rfl,f2⟩
   ·intro x hx
    rcases List.mem_append.1 hx with hx | hx
    ·exact hin x hx
    ·rw [List.mem_singleton] at hx; rw [hx]; exact hy
   ·rw [hT]
    simp only [Option.bind_some]
    show Option.map _ (Option.map _ (mTakes d { m with s:=(gi m.p s).b }))=_
    cases mTakes d { m with s:=(gi m.p s).b } with
    | none=>rfl
    | some z=>simp
theorem k58 {n0 c id n:Nat} {H:Hp} {v x1 x2 x3:Value} {m:Mc} {l:List Nd} {li:List Ins} {ld:List Df} {b:Nat} (h:SM c id n H [x1,x2,x3] v m) (hw:Wf b m) (hb:b≤90000) (hC:Cd n0 H x1 x2 x3 l li ld) (hn0:n0≤c∧n0≤id) (hll:li.length≤400) (ha:0≤m.a∧m.a≤(li.length:Int) - 1) (hp:PoolOk m.p) (many:Int) (hm:0≤many∧many≤4) :
  RtA Tryz.prog 58 [ptr c 0,.int .i64 many] c id H n (MRes (mChk li.length (mCalling li.length many m)) c id n [x1,x2,x3]):=by
 apply RtA.of
 rw [c58]; unfold S58 mCalling
 have hc:H c=some (.row [v,.int .i64 m.a,.int .i64 m.s,.int .i64 m.e,.int .i64 m.d,.int .i64 m.t,.int .i64 m.k,.int .i64 m.r,x1,x2,x3] 0 true):=h.hc
 have hcn:=h.cn
 have hid:=h.idn
 have hne:=h.ne
 have hl:=hw.len
 have wA:IntKind.i64.wrap (m.a+1)=m.a+1:=w64 oo
 have wM:IntKind.i64.wrap (many+1)=((many.toNat+1:Nat):Int):=by rw [w64 oo]; omega
 refine W1 (A2 hc wA) ?_
 refine Zu (k42 (hC.i.mv oo m0) oo _) ?_
 intro H1 n1 q1 s1
 have e9:(0≤m.a+1∧m.a+1≤(li.length:Int) - 1)=(m.a+1 < (li.length:Int)):=propext oo
 by_cases c2:m.a+1 < (li.length:Int)
 case neg =>
  rw [if_pos c2]
  refine W1 (A3 s1 e9 c2) ?_
  exact Wp.pure ⟨so,(mm s1),MRes.er (h.mv so (mm s1) (mm s1)) (.inr rfl) (by decide)⟩
 rw [if_neg (fun h=>h c2)]
 refine W1 (A5 s1 e9 c2 @bsl_zero wM) ?_
 refine Wp.bind (l58 (n0:=n1) (H0:=H1) (h.mv oo (mm s1) (mm s1)) hw (many.toNat+1) oo _ _ _ n1 oo (fun i hi=>Zj _ _ oo) oo oo (Zf _ _ _) pa p0 p0 p0) ?_
 rintro ⟨oe,ot,oH,on⟩ ⟨f1,f2,s,f3,f4⟩
 simp only at f1 f2 f3 f4
 rcases f4 with ⟨rfl,f5,ia,acc,i1,i2,i3,i4,i5,i6,i7⟩ | ⟨rfl,f5,f6⟩
 ·rw [i7]
  refine W0 trivial ?_
  refine Wp.rtm (k94 i3 oo oo oo) ?_
  rintro H2 n2 q2 s2 hat2
  have hrl:acc.reverse.length=many.toNat+1:=by rw [List.length_reverse]; exact i4
  obtain ⟨w,g1,g2,g3⟩:=slice1 hat2 oo
  have g0:=(hat2.lst (n:=n2) oo).iAll (i:=0) oo oo
  have hm2:∀ i,i < n→i≠c→i≠id→H2 i=H i:=fun i h1 h2 h3=>by rw [s2 _ oo oo,f2 _ oo h2 h3,s1 _ oo]
  have hin:∀ x∈acc.reverse,In m x:=fun x hx=>i6 x (List.mem_reverse.1 hx)
  refine W0 (A3 f5 g0 g1) ?_
  refine Zp (k95 (m:={ m with s:=s }) ⟨f3.mv oo (s2 _ oo oo) (s2 _ oo oo),i5,by omega,hC.mv (fun i hi=>hm2 i oo oo oo),hn0,hll,so,g2 _ oo,g3 _ oo,g3 _ oo,by simp; omega,fun x hx=>hin x (List.mem_of_mem_drop hx),fun _=>hp⟩ hb (gi acc.reverse 0) (hin _ (gi_mem oo oo))) ?_
  rintro _ H5 n5 q5 s5 ⟨q,m',v',id',rfl,e2,e3,e4⟩
  refine W0 trivial ?_
  exact Wp.pure ⟨so,(mm (A2 s5 hm2)),q,m',v',id',rfl,by omega,e3,e4⟩
 ·rw [f6]
  refine W0 f5 ?_
  exact Wp.pure ⟨so,(mm (A2 f2 s1)),by simp only [f5]; exact MRes.er f3 (.inr rfl) (by decide)⟩
end Go.Proofs.YtcffcnipmgkjfaaGreat.Ax
set_option linter.unusedVariables false
set_option linter.unusedSimpArgs false
set_option maxHeartbeats 8000000
namespace Go.Proofs.YtcffcnipmgkjfaaGreat.Ax
open Go
theorem k59 {n0 c id n:Nat} {H:Hp} {v x1 x2 x3:Value} {m:Mc} {l:List Nd} {li:List Ins} {ld:List Df} {b:Nat} (h:SM c id n H [x1,x2,x3] v m) (hw:Wf b m) (hb:b≤100000) (hC:Cd n0 H x1 x2 x3 l li ld) (hn0:n0≤c∧n0≤id) (hll:li.length≤400) (hl1:1≤li.length) :
  RtA Tryz.prog 59 [ptr c 0] c id H n (MRes (mChk li.length (mBack m)) c id n [x1,x2,x3]):=by
 apply RtA.of
 rw [c59]; unfold S59 mBack
 have hcn:=h.cn
 have hid:=h.idn
 have hne:=h.ne
 refine W0 trivial ?_
 refine Zp (k93 (h.mv oo rfl rfl) hw.s) ?_
 rintro r H1 n1 q1 s1 hR
 cases hM:mTake m with
 | none =>
  rw [hM] at hR
  obtain ⟨rfl,hS1⟩:=hR
  refine W0 trivial ?_
  exact Wp.pure ⟨so,(mm s1),MRes.er (hS1.mv so rfl rfl) (.inr rfl) (by decide)⟩
 | some q =>
 obtain ⟨y,m1⟩:=q
 rw [hM] at hR
 obtain ⟨rfl,hS1⟩:=hR
 obtain ⟨hw1,hy,-⟩:=hw.take hM
 simp only
 have hl:=hw1.len
 have hc1:H1 c=some (.row [v,.int .i64 m1.a,.int .i64 m1.s,.int .i64 m1.e,.int .i64 m1.d,.int .i64 m1.t,.int .i64 m1.k,.int .i64 m1.r,x1,x2,x3] 0 true):=hS1.hc
 have hid1:=hS1.idn
 have gd:=hS1.li.nAll hw1.d.1 hw1.d.2
 have hokd:=hw1.at hw1.d
 have hd:=hw1.d
 by_cases c1:(gi m1.p m1.d).k=1
 ·rw [if_pos c1,mChk_ok so]
  generalize gi m1.p m1.d=x at gd c1
  obtain ⟨xk,xn,xs,xa,xb⟩:=x
  simp only [Nd.cells] at gd c1
  refine W1 (A3 hc1 gd c1) ?_
  exact Wp.pure ⟨so,(mm s1),MRes.ok (hS1.to so (Zf _ _ _) m0 rfl) (.inr rfl)⟩
 rw [if_neg c1]
 by_cases c5:(gi m1.p m1.d).k=5
 case neg =>
  rw [if_pos c5]
  generalize gi m1.p m1.d=x at gd c1 c5
  obtain ⟨xk,xn,xs,xa,xb⟩:=x
  simp only [Nd.cells] at gd c1 c5
  refine W1 (A4 hc1 gd c1 c5) ?_
  exact Wp.pure ⟨so,(mm s1),MRes.er (hS1.mv so m0 m0) (.inr rfl) (by decide)⟩
 rw [if_neg (fun h=>h c5)]
 have hpr:=hokd.pair c5
 have hst:In m1 (gi m1.p m1.d).a:=⟨by omega,by omega⟩
 generalize gi m1.p m1.d=x at gd c1 c5 hst ⊢
 obtain ⟨xk,xn,xs,xa,xb⟩:=x
 simp only [Nd.cells] at gd c1 c5 hst
 simp only
 subst c5
 refine W1 (A3 hc1 gd c1) ?_
 refine Wp.rtn (kw96 (hS1.li.mv oo m0) (hw1.w hb) (show c < _ by omega) ((Zj _ _ oo).trans hc1) rfl xa hst.1 hst.2) ?_
 rintro _ H2 n2 q2 s2 ⟨u,rfl,idu,iu1,iu2,hU⟩
 have hch:=fun (i:Int) (h0:0≤i) (h1:i < ((Zq m1.p xa).1.length:Int))=>hw1.chain hst h0 h1
 have hul:=(hU.lst iu2).len
 have hU1:=hU.lst iu2
 have hnu:notTup u=true:=by rcases hU with ⟨h,_⟩ | ⟨h,_⟩ <;> rw [h] <;> rfl
 generalize hR:(if (Zq m1.p xa).2=true∧(Zq m1.p xa).1.length=3∧(gi m1.p (gi (Zq m1.p xa).1 0)).k=3 then .ok (mPut y { m1 with a:=(gi m1.p (gi (Zq m1.p xa).1 0)).n,s:=gi (Zq m1.p xa).1 1,e:=gi (Zq m1.p xa).1 2,d:=xb }) else .error 7:MR)=res
 generalize hC0:Zq m1.p xa=C at hU hch hul hU1 hR ⊢
 obtain ⟨ch,ok⟩:=C
 simp only at hU hch hul hU1 hR ⊢
 have hm2:∀ i,i < n1→H2 i=H1 i:=fun i hi=>by rw [s2 _ oo,Zj _ _ oo]
 have hb2:H2 (n1+15)=some (.row [.int .i64 5,.int .i64 xn,.string xs,.int .i64 xa,.int .i64 xb] 0 true):=by rw [s2 _ oo]; exact Zf _ _ _
 have fin:∀ (H':Hp) (n':Nat),n1≤n'→(∀ i,i < n1→H' i=H1 i)→¬ (ok=true∧ch.length=3∧(gi m1.p (gi ch 0)).k=3)→Wp (some (Value.int .i64 7,H',n')) (fun q=>n≤q.2.2∧(∀ i,i < n→i≠c→i≠id→q.2.1 i=H i)∧MRes (mChk li.length res) c id n [x1,x2,x3] q.1 q.2.1 q.2.2):=by
  intro H' n' h1 h2 h3
  rw [if_neg h3] at hR
  rw [← hR]
  exact Wp.pure ⟨so,fun i hi a1 a2=>by simp only; rw [h2 _ oo]; exact s1 i oo a1 a2,MRes.er (hS1.mv h1 (h2 _ oo) (h2 _ hid1)) (.inr rfl) (by decide)⟩
 cases ok with
 | false =>
  refine W1 trivial ?_
  refine fin _ _ ?_ ?_ (fun h=>by cases h.1)
  ·omega
  ·exact hm2
 | true =>
 by_cases c4:ch.length=3
 case neg =>
  have c4i:¬ (ch.length:Int)=3:=by omega
  refine W1 (A2 hul c4i) ?_
  refine fin _ _ ?_ ?_ (fun h=>c4 h.2.1)
  ·omega
  ·exact hm2
 have c4i:(ch.length:Int)=3:=by omega
 have r0:=hch 0 oo oo
 have g0:=hU1.iAll (i:=0) oo oo
 have gx:=(hS1.li.mv (H':=H2) (Nat.le_refl _) hm2).nAll r0.1 r0.2
 have hok:=hw1.at r0
 by_cases c3:(gi m1.p (gi ch 0)).k=3
 case neg =>
  refine W1 (A7 hul c4i hm2 hc1 g0 gx c3) ?_
  refine fin _ _ ?_ ?_ (fun h=>c3 h.2.2)
  ·omega
  ·exact hm2
 have hnum:=hok.num c3
 rw [if_pos ⟨rfl,c4,c3⟩] at hR
 subst hR
 refine W1 (A7 hul c4i hm2 hc1 g0 gx c3) ?_
 refine Zu (k42 (hC.i.mv oo (fun i hi=>by rw [hm2 _ oo]; exact s1 i oo oo oo)) oo _) ?_
 intro H3 n3 q3 s3
 have hm3:∀ i,i < n1→H3 i=H1 i:=fun i hi=>by rw [s3 _ oo]; exact hm2 i hi
 by_cases c6:0≤(gi m1.p (gi ch 0)).n∧(gi m1.p (gi ch 0)).n≤(li.length:Int) - 1
 case neg =>
  rw [mChk_no c6]
  refine W1 (A4 s3 hm2 hc1 c6) ?_
  exact Wp.pure ⟨so,(mm (A2 hm3 s1)),MRes.er (hS1.mv so (mm hm3) (mm hm3)) (.inr rfl) (by decide)⟩
 rw [mChk_ok c6]
 have k0:=(hU1.mv (H':=H3) (m:=n3) oo (mm s3)).iAll (i:=0) oo oo
 have k1:=(hU1.mv (H':=H3) (m:=n3) oo (mm s3)).iAll (i:=1) oo oo
 have k2:=(hU1.mv (H':=H3) (m:=n3) oo (mm s3)).iAll (i:=2) oo oo
 have gy:=(hS1.li.mv (H':=H3) (Nat.le_refl _) hm3).nAll r0.1 r0.2
 have hb3:H3 (n1+15)=some (.row [.int .i64 5,.int .i64 xn,.string xs,.int .i64 xa,.int .i64 xb] 0 true):=by rw [s3 _ oo]; exact hb2
 have hc3:H3 c=some (.row [v,.int .i64 m1.a,.int .i64 m1.s,.int .i64 m1.e,.int .i64 m1.d,.int .i64 m1.t,.int .i64 m1.k,.int .i64 m1.r,x1,x2,x3] 0 true):=by rw [hm3 _ oo]; exact hc1
 refine W1 (A8 hc3 hb3 c6 @and_self @k0 @k1 @k2 gy) ?_
 refine Zp (k97 (m:={ m1 with a:=(gi m1.p (gi ch 0)).n,s:=gi ch 1,e:=gi ch 2,d:=xb }) (hS1.to oo (Zf _ _ _) (mm hm3) rfl) so _) ?_
 rintro _ H4 n4 q4 s4 ⟨rfl,v4,id4,i4,hS4⟩
 refine W0 trivial ?_
 exact Wp.pure ⟨so,(mm (A3 s4 hm3 s1)),MRes.ok (hS4.mv so rfl rfl) (.inl oo)⟩
end Go.Proofs.YtcffcnipmgkjfaaGreat.Ax
set_option linter.unusedVariables false
set_option linter.unusedSimpArgs false
set_option maxHeartbeats 8000000
namespace Go.Proofs.YtcffcnipmgkjfaaGreat.Ax
open Go
def PlR (c id n:Nat) (H:Hp) (R:List Value) (res:MR) (o:Out):Prop :=
 n≤o.n∧(∀ i,i < n→i≠c→i≠id→o.H i=H i)∧∃ m' v' id',(n≤id'∨id'=id)∧SM c id' o.n o.H R v' m' ∧
  ((o.e=.normal∧o.t 0=ptr c 0∧∃ q nx,o.t 6=.int .i64 q∧o.t 5=.int .i64 nx∧((q≠0∧res=.error q)∨(q=0∧res=.ok { m' with a:=nx })))∨(o.e=.ret∧o.t 4=.int .i64 7∧res=.error 7))
theorem go_res {res:MR} {next q:Int} {m':Mc} (h:match res with | .ok m1=>q=0∧m'=m1 | .error h=>q=h∧h≠0):(q≠0∧mGo next res=.error q)∨(q=0∧mGo next res=.ok { m' with a:=next }):=by
 cases res with
 | ok m1=>obtain ⟨rfl,rfl⟩:=h; exact .inr ⟨rfl,rfl⟩
 | error e=>obtain ⟨rfl,h0⟩:=h; exact .inl ⟨h0,rfl⟩
theorem InsOk.rng {x:Ins} {k m a:Int} (h:InsOk x k m a) (hk:k≤3000) (hm:m≤400) (ha:0≤a):0≤x.n∧x.n≤3000∧0≤x.i∧x.i≤4:=by
 rcases h with h | h | h | h | h | h | h <;> omega
theorem k60 {n0 c id n:Nat} {H:Hp} {v x1 x2 x3:Value} {m:Mc} {l:List Nd} {li:List Ins} {ld:List Df} {b:Nat} (h:SM c id n H [x1,x2,x3] v m) (hw:Wf b m) (hb:b≤3000) (hC:Cd n0 H x1 x2 x3 l li ld) (hn0:n0≤c∧n0≤id) (hk:CodeOk l li ld) (x:Ins) (ha:0≤m.a∧m.a≤(li.length:Int) - 1) (hx:InsOk x l.length li.length m.a) :
  RtA Tryz.prog 60 [ptr c 0,.agg ⟨x.cells⟩] c id H n (MRes (mChk li.length (mPlain l ld x m)) c id n [x1,x2,x3]):=by
 apply RtA.of
 rw [c60]; unfold S60
 have hll:=hk.2.1
 have hlp:=hk.1.2
 have hrg:=hx.rng oo oo ha.1
 have hc:H c=some (.row [v,.int .i64 m.a,.int .i64 m.s,.int .i64 m.e,.int .i64 m.d,.int .i64 m.t,.int .i64 m.k,.int .i64 m.r,x1,x2,x3] 0 true):=h.hc
 have hcn:=h.cn
 have hid:=h.idn
 have hne:=h.ne
 have hl:=hw.len
 have wA:IntKind.i64.wrap (m.a+1)=m.a+1:=w64 oo
 generalize hres:mPlain l ld x m=res
 unfold mPlain at hres
 obtain ⟨xo,xn,xi,xs⟩:=x
 simp only at hrg hres
 refine W1 (A3 @Ins.cells.eq_1 hc wA) ?_
 have hm1:∀ o i,i < n→(H.set n o) i=H i:=fun o i hi=>Zj _ _ oo
 refine Wp.bind (R:=PlR c id n H [x1,x2,x3] res) ?_ ?_
 ·by_cases c1:xo=1
  ·rw [decide_eq_true c1]
   rw [if_pos c1] at hres
   rw [c1]
   have hxn:0≤xn∧xn < (l.length:Int):=by
    rcases hx with hx | hx | hx | hx | hx | hx | hx <;> simp only at hx <;> omega
   have hcl:=cpRun_len m.p l xn
   refine W1 hc ?_
   refine Zp (k98 (h.mv oo m0 m0) (hC.p.mv oo m0) (hC.p.off oo) (hC.p.off oo) hk.1 xn hxn oo) ?_
   rintro _ H2 n2 q2 s2 ⟨rfl,v2,id2,i2,hS2⟩
   refine W0 trivial ?_
   refine Zp (k97 (m:={ m with p:=(cpRun m.p l xn).1 }) (hS2.mv oo rfl rfl) so _) ?_
   rintro _ H3 n3 q3 s3 ⟨rfl,v3,id3,i3,hS3⟩
   refine W0 trivial ?_
   have hi2:n≤id2∨id2=id:=by omega
   exact Wp.pure ⟨so,fun i a1 a2 a3=>by simp only; rw [s3 i oo a2 oo,s2 i oo a2 a3,hm1 _ _ a1],_,v3,id3,.inl (by have:=hS2.idn; omega),hS3,.inl ⟨rfl,pa,0,m.a+1,p0,p0,.inr ⟨rfl,hres.symm⟩⟩⟩
  rw [decide_eq_false c1]
  rw [if_neg c1] at hres
  by_cases c2:xo=2
  ·rw [if_pos c2] at hres
   have hx20:xn≤20∧xi≤3:=by
    rcases hx with hx | hx | hx | hx | hx | hx | hx <;> simp only at hx <;> omega
   rw [c2]
   refine W1 trivial ?_
   refine Zp (k99 (h.mv oo m0 m0) hw oo xn xi oo oo) ?_
   rintro _ H2 n2 q2 s2 ⟨q,m',v',id',rfl,e2,e3,e4⟩
   refine W0 trivial ?_
   refine Wp.pure ⟨so,(mm s2),m',v',id',by omega,e3,.inl ⟨rfl,pa,q,m.a+1,p0,p0,?_⟩⟩
   rw [← hres]
   exact go_res e4
  rw [if_neg c2] at hres
  by_cases c3:xo=3
  ·rw [if_pos c3] at hres
   rw [c3]
   refine W1 ((show ¬ (3:Int)=2 by decide)) ?_
   refine Zp (k100 (h.mv oo m0 m0) oo (hC.mv m0) hn0 hk xs) ?_
   rintro _ H2 n2 q2 s2 ⟨q,m',v',id',rfl,e2,e3,e4⟩
   refine W0 trivial ?_
   refine Wp.pure ⟨so,(mm s2),m',v',id',by omega,e3,.inl ⟨rfl,pa,q,m.a+1,p0,p0,?_⟩⟩
   rw [← hres]
   exact go_res e4
  rw [if_neg c3] at hres
  by_cases c5:xo=5
  ·rw [if_pos c5] at hres
   rw [c5]
   refine W1 (A2 (show ¬ (5:Int)=2 by decide) (show ¬ (5:Int)=3 by decide)) ?_
   exact Wp.pure ⟨so,m0,m,v,id,.inr rfl,h.mv so m0 m0,.inl ⟨rfl,pa,0,xn,p0,p0,.inr ⟨rfl,hres.symm⟩⟩⟩
  rw [if_neg c5] at hres
  by_cases c6:xo=6
  ·rw [if_pos c6] at hres
   rw [c6]
   have w1:IntKind.i64.wrap (8 * xn)=8 * xn:=w64 oo
   have w2:IntKind.i64.wrap (8 * xn+xi)=8 * xn+xi:=w64 oo
   refine W1 (A6 (show ¬ (6:Int)=2 by decide) (show ¬ (6:Int)=3 by decide) (show ¬ (6:Int)=5 by decide) hc w1 w2) ?_
   refine Zp (k101 (h.mv oo m0 m0) oo (ndFun (8 * xn+xi) m.e)) ?_
   rintro _ H2 n2 q2 s2 ⟨rfl,v2,id2,i2,hS2⟩
   refine W0 trivial ?_
   refine Zp (k97 (m:=m.add [ndFun (8 * xn+xi) m.e]) (hS2.mv oo rfl rfl) (by have:=addLen m [ndFun (8 * xn+xi) m.e]; simp only [List.length_cons,List.length_nil] at this; omega) _) ?_
   rintro _ H3 n3 q3 s3 ⟨rfl,v3,id3,i3,hS3⟩
   refine W0 trivial ?_
   exact Wp.pure ⟨so,(mm (A2 s3 s2)),_,v3,id3,.inl oo,hS3,.inl ⟨rfl,pa,0,m.a+1,p0,p0,.inr ⟨rfl,hres.symm⟩⟩⟩
  rw [if_neg c6] at hres
  refine W1 (A4 c2 c3 c5 c6) ?_
  refine Zp (k93 (h.mv oo m0 m0) hw.s) ?_
  rintro r H2 n2 q2 s2 hR
  cases hM:mTake m with
  | none =>
   rw [hM] at hR hres
   obtain ⟨rfl,hS2⟩:=hR
   refine W0 trivial ?_
   exact Wp.pure ⟨so,(mm s2),m,v,id,.inr rfl,hS2.mv so rfl rfl,.inr ⟨rfl,p0,hres.symm⟩⟩
  | some q =>
   obtain ⟨y,m1⟩:=q
   rw [hM] at hR hres
   obtain ⟨rfl,hS2⟩:=hR
   obtain ⟨hw1,hy,ep⟩:=hw.take hM
   have hy1:In m1 y:=by rw [ep]; exact hy
   simp only at hres
   have hc2:H2 c=some (.row [v,.int .i64 m1.a,.int .i64 m1.s,.int .i64 m1.e,.int .i64 m1.d,.int .i64 m1.t,.int .i64 m1.k,.int .i64 m1.r,x1,x2,x3] 0 true):=hS2.hc
   have hid2:=hS2.idn
   have gy:=hS2.li.nAll hy1.1 hy1.2
   have b2:H2 n=some (.row [.int .i64 xo,.int .i64 xn,.int .i64 xi,.string xs] 0 true):=by simp (disch:=omega) only [s2,Zf]
   have eqa:m1.a=m.a:=by rw [ep]
   generalize gi m1.p y=z at gy hres
   obtain ⟨zk,zn,zs,za,zb⟩:=z
   simp only [Nd.cells] at gy hres
   have hS3:∀ n',n2≤n'→SM c id n' (H2.set (n2+11) (some (.row [.int .i64 zk,.int .i64 zn,.string zs,.int .i64 za,.int .i64 zb] 0 true))) [x1,x2,x3] v m1:=fun n' hn'=>hS2.mv hn' (Zj _ _ (by have:=hS2.cn; omega)) (Zj _ _ oo)
   have hm3:∀ i,i < n→i≠c→i≠id→(H2.set (n2+11) (some (.row [.int .i64 zk,.int .i64 zn,.string zs,.int .i64 za,.int .i64 zb] 0 true))) i=H i:=fun i a1 a2 a3=>by rw [Zj _ _ oo,s2 i oo a2 a3,hm1 _ _ a1]
   by_cases c4:xo=4
   ·by_cases z2:zk=2
    ·by_cases z0:zn=0
     ·rw [if_pos ⟨c4,z2,z0⟩] at hres
      rw [z2,z0] at gy hS3 hm3
      rw [c4] at b2
      refine W1 (A3 hc2 gy b2) ?_
      exact Wp.pure ⟨so,hm3,m1,v,id,.inr rfl,hS3 _ so,.inl ⟨rfl,pa,0,xn,p0,p0,.inr ⟨rfl,hres.symm⟩⟩⟩
     ·rw [if_neg (fun h=>z0 h.2.2)] at hres
      rw [z2] at gy hS3 hm3
      rw [c4] at b2
      refine W1 (A4 hc2 gy b2 z0) ?_
      exact Wp.pure ⟨so,hm3,m1,v,id,.inr rfl,hS3 _ so,.inl ⟨rfl,pa,0,m.a+1,p0,p0,.inr ⟨rfl,by rw [← hres]⟩⟩⟩
    ·rw [if_neg (fun h=>z2 h.2.1)] at hres
     rw [c4] at b2
     refine W1 (A4 hc2 gy b2 z2) ?_
     exact Wp.pure ⟨so,hm3,m1,v,id,.inr rfl,hS3 _ so,.inl ⟨rfl,pa,0,m.a+1,p0,p0,.inr ⟨rfl,by rw [← hres]⟩⟩⟩
   ·rw [if_neg (fun h=>c4 h.1)] at hres
    refine W1 (A4 hc2 gy b2 c4) ?_
    exact Wp.pure ⟨so,hm3,m1,v,id,.inr rfl,hS3 _ so,.inl ⟨rfl,pa,0,m.a+1,p0,p0,.inr ⟨rfl,by rw [← hres]⟩⟩⟩
 ·rintro ⟨oe,ot,oH,on⟩ ⟨f1,f2,m',v',id',f3,f4,f5⟩
  simp only at f1 f2 f3 f4 f5
  have hc3:oH c=some (.row [v',.int .i64 m'.a,.int .i64 m'.s,.int .i64 m'.e,.int .i64 m'.d,.int .i64 m'.t,.int .i64 m'.k,.int .i64 m'.r,x1,x2,x3] 0 true):=f4.hc
  have hidn:=f4.idn
  have hcn':=f4.cn
  rcases f5 with ⟨rfl,g0,q,nx,g6,g5,⟨hq,hr⟩ | ⟨rfl,hr⟩⟩ | ⟨rfl,g4,hr⟩
  ·rw [hr]
   refine W1 (A5 g0 g5 g6 hq hc3) ?_
   refine Wp.pure ⟨so,fun i a1 a2 a3=>by simp only; rw [Zj _ _ a2]; exact f2 i a1 a2 a3,?_⟩
   simp only [Zk,g6,Nat.reduceEqDiff,↓reduceIte]
   exact MRes.er (f4.to (m':={ m' with a:=nx }) oo (Zf _ _ _) (Zj _ _ f4.ne) rfl) f3 hq
  ·rw [hr]
   refine W1 (A4 g0 g5 g6 hc3) ?_
   refine Zu (k42 ((hC.i.mv (H':=oH) (m:=on) oo (fun i hi=>f2 i oo oo oo)).up oo) oo _) ?_
   intro H5 n5 q5 s5
   by_cases c9:0≤nx∧nx≤(li.length:Int) - 1
   ·rw [mChk_ok c9]
    refine W1 (A7 c9 @and_self s5 hc3 g0 g5 g6) ?_
    refine Wp.pure ⟨so,fun i a1 a2 a3=>by simp only; rw [Zj _ _ a2,s5 _ oo]; exact f2 i a1 a2 a3,?_⟩
    simp only [Zk,g6,Nat.reduceEqDiff,↓reduceIte]
    exact MRes.ok (f4.to (m':={ m' with a:=nx }) oo (Zf _ _ _) (by rw [Zj _ _ f4.ne,s5 _ oo]) rfl) f3
   ·rw [mChk_no c9]
    refine W1 (A6 c9 s5 hc3 g0 g5 g6) ?_
    exact Wp.pure ⟨so,fun i a1 a2 a3=>by simp only; rw [s5 _ oo]; exact f2 i a1 a2 a3,MRes.er (f4.mv so (s5 _ oo) (s5 _ oo)) f3 (by decide)⟩
  ·rw [hr]
   refine W0 g4 ?_
   exact Wp.pure ⟨so,f2,by simp only [g4]; exact MRes.er f4 f3 (by decide)⟩
end Go.Proofs.YtcffcnipmgkjfaaGreat.Ax
set_option linter.unusedVariables false
set_option linter.unusedSimpArgs false
set_option maxHeartbeats 8000000
namespace Go.Proofs.YtcffcnipmgkjfaaGreat.Ax
open Go
theorem mRaw_err {l:List Nd} {li:List Ins} {ld:List Df} {m:Mc} {q:Int} (h:mChk li.length (mRaw l li ld m)=.error q):mEnd li.length m (mRaw l li ld m)=mFail m q:=by
 rw [← mEnd_chk,h]; rfl
theorem mRaw_ok {l:List Nd} {li:List Ins} {ld:List Df} {m m1:Mc} (h:mChk li.length (mRaw l li ld m)=.ok m1):mEnd li.length m (mRaw l li ld m)=if 3000 < m1.p.length then mFail m 6 else m1:=by
 rw [← mEnd_chk,h]
 have ha:0≤m1.a∧m1.a≤(li.length:Int) - 1:=by
  cases hr:mRaw l li ld m with
  | error e=>rw [hr] at h; cases h
  | ok m2 =>
   rw [hr] at h
   by_cases hc:0≤m2.a∧m2.a≤(li.length:Int) - 1
   ·rw [mChk_ok hc] at h; cases h; exact hc
   ·rw [mChk_no hc] at h; cases h
 unfold mEnd
 simp only
 rw [if_neg (fun h=>h ha)]
structure MOk (l:List Nd) (li:List Ins) (ld:List Df) (m:Mc):Prop where
 k:CodeOk l li ld
 p:PoolOk m.p
 w:Wf 3000 m
 a:0≤m.a∧m.a≤(li.length:Int) - 1
theorem MachOk.mok {l:List Nd} {li:List Ins} {ld:List Df} {m:Mc} (h:MachOk l li ld m.p m.a m.s m.e m.d m.t m.k m.r) (ht:m.t=0):MOk l li ld m:=by
 obtain ⟨h1,h2,h3,h4,h5,h6⟩:=h
 refine ⟨h1,h2,⟨h2.1,h3,h4,h5,h2.2⟩,?_⟩
 rcases h6 with h | h | h | h
 ·exact h.2.1
 ·omega
 ·omega
 ·omega
theorem MOk.ins {l:List Nd} {li:List Ins} {ld:List Df} {m:Mc} (h:MOk l li ld m):InsOk (gi li m.a) l.length li.length m.a:=by
 have:=h.k.2.2.2.1 m.a.toNat (by have:=h.a; omega)
 rw [show (m.a.toNat:Int)=m.a by have:=h.a; omega] at this
 exact this
abbrev mcV (u:Value) (m:Mc):Value:=.agg ⟨[u,.int .i64 m.a,.int .i64 m.s,.int .i64 m.e,.int .i64 m.d,.int .i64 m.t,.int .i64 m.k,.int .i64 m.r]⟩
theorem k29 {n:Nat} {H:Hp} {v x1 x2 x3:Value} {m:Mc} {l:List Nd} {li:List Ins} {ld:List Df} (hm:Li eNode n H v m.p) (hC:Cd n H x1 x2 x3 l li ld) (hM:MOk l li ld m) :
  RtN Tryz.prog 29 [.agg ⟨[x1,x2,x3]⟩,mcV v m] H n (fun w H' n'=>∃ u,w=mcV u (mEnd li.length m (mRaw l li ld m))∧New eNode n n' H' u (mEnd li.length m (mRaw l li ld m)).p):=by
 apply RtN.mk
 rw [c29]; unfold S29 mcV
 have hll:=hM.k.2.1
 have ha:=hM.a
 have hpl:=hM.w.len
 refine W1 trivial ?_
 refine Wp.rtn (k28 (hm.mv oo m0) oo m.a m.s m.e m.d m.t m.k m.r) ?_
 rintro _ H1 n1 q1 s1 ⟨u,rfl,id,i1,i2,i3⟩
 have gi1:=(hC.i.mv (H':=H1.set (n+7) (some (.row [u,.int .i64 m.a,.int .i64 m.s,.int .i64 m.e,.int .i64 m.d,.int .i64 m.t,.int .i64 m.k,.int .i64 m.r,x1,x2,x3] 0 true))) (Nat.le_refl _) (mm s1)).sAll (i:=m.a) ha.1 oo
 have hins:=hM.ins
 have hS0:SM (n+7) id n1 (H1.set (n+7) (some (.row [u,.int .i64 m.a,.int .i64 m.s,.int .i64 m.e,.int .i64 m.d,.int .i64 m.t,.int .i64 m.k,.int .i64 m.r,x1,x2,x3] 0 true))) [x1,x2,x3] u m:=⟨Zf _ _ _,rfl,i3.mv (Zj _ _ oo),by omega,by omega,by omega⟩
 have hres:mRaw l li ld m=if (gi li m.a).op=7 then mCalling li.length (gi li m.a).i m else if (gi li m.a).op=8 then mBack m else mPlain l ld (gi li m.a) m:=rfl
 generalize gi li m.a=x at gi1 hins hres
 obtain ⟨xo,xn,xi,xs⟩:=x
 simp only [Ins.cells] at gi1 hres
 refine W1 (A2 s1 gi1) ?_
 have hm1:∀ o i,i < n+7→((H1.set (n+7) (some (.row [u,.int .i64 m.a,.int .i64 m.s,.int .i64 m.e,.int .i64 m.d,.int .i64 m.t,.int .i64 m.k,.int .i64 m.r,x1,x2,x3] 0 true))).set (n1+7) o) i=((((H.set n (some (.row [x1,x2,x3] 0 true))).set (n+1) (some (.row [v,.int .i64 m.a,.int .i64 m.s,.int .i64 m.e,.int .i64 m.d,.int .i64 m.t,.int .i64 m.k,.int .i64 m.r] 0 true))).set (n+2) (some (.row [nilS,.int .i64 0,.int .i64 0,.int .i64 0,.int .i64 0,.int .i64 0,.int .i64 0,.int .i64 0] 0 true)))) i:=fun o i hi=>by rw [Zj _ _ oo,Zj _ _ oo,s1 _ oo]
 refine Wp.bind (R:=fun (o:Out)=>o.e=.normal∧n1≤o.n∧(∀ i,i < n+7→i≠id→o.H i=((((H.set n (some (.row [x1,x2,x3] 0 true))).set (n+1) (some (.row [v,.int .i64 m.a,.int .i64 m.s,.int .i64 m.e,.int .i64 m.d,.int .i64 m.t,.int .i64 m.k,.int .i64 m.r] 0 true))).set (n+2) (some (.row [nilS,.int .i64 0,.int .i64 0,.int .i64 0,.int .i64 0,.int .i64 0,.int .i64 0,.int .i64 0] 0 true)))) i)∧o.t 3=ptr (n+1) 0∧o.t 4=ptr (n+2) 0∧o.t 5=ptr (n+7) 0∧∃ q m' v' id',o.t 6=.int .i64 q∧n+9≤id'∧SM (n+7) id' o.n o.H [x1,x2,x3] v' m'∧(match mChk li.length (mRaw l li ld m) with | .ok m1=>q=0∧m'=m1 | .error h=>q=h∧h≠0)) ?_ ?_
 ·have hCs:∀ o,Cd n ((H1.set (n+7) (some (.row [u,.int .i64 m.a,.int .i64 m.s,.int .i64 m.e,.int .i64 m.d,.int .i64 m.t,.int .i64 m.k,.int .i64 m.r,x1,x2,x3] 0 true))).set (n1+7) o) x1 x2 x3 l li ld:=fun o=>hC.mv (fun i hi=>by rw [Zj _ _ oo,Zj _ _ oo,s1 _ oo,Zj _ _ oo,Zj _ _ oo,Zj _ _ oo])
  have hSs:∀ o k,n1≤k→SM (n+7) id k ((H1.set (n+7) (some (.row [u,.int .i64 m.a,.int .i64 m.s,.int .i64 m.e,.int .i64 m.d,.int .i64 m.t,.int .i64 m.k,.int .i64 m.r,x1,x2,x3] 0 true))).set (n1+7) o) [x1,x2,x3] u m:=fun o k hk=>hS0.mv hk (Zj _ _ oo) (Zj _ _ oo)
  by_cases c7:xo=7
  ·rw [if_pos c7] at hres
   rw [decide_eq_true c7,hres,c7]
   have hxi:0≤xi∧xi≤4:=(hins.rng (by have:=hM.k.1.2; omega) oo ha.1).2.2
   refine W1 trivial ?_
   refine Zp (k58 (hSs _ _ oo) hM.w oo (hCs _) ⟨by omega,by omega⟩ hll ha hM.p xi hxi) ?_
   rintro _ H2 n2 q2 s2 ⟨q,m',v',id',rfl,e2,e3,e4⟩
   refine W0 trivial ?_
   exact Wp.pure ⟨rfl,so,fun i a1 a2=>by simp only; rw [s2 i oo oo a2]; exact hm1 _ _ a1,p0,p0,p0,q,m',v',id',p0,by omega,e3,e4⟩
  rw [if_neg c7] at hres
  rw [decide_eq_false c7]
  by_cases c8:xo=8
  ·rw [if_pos c8] at hres
   rw [hres,c8]
   refine W1 trivial ?_
   refine Zp (k59 (hSs _ _ oo) hM.w oo (hCs _) ⟨by omega,by omega⟩ hll oo) ?_
   rintro _ H2 n2 q2 s2 ⟨q,m',v',id',rfl,e2,e3,e4⟩
   refine W0 trivial ?_
   exact Wp.pure ⟨rfl,so,fun i a1 a2=>by simp only; rw [s2 i oo oo a2]; exact hm1 _ _ a1,p0,p0,p0,q,m',v',id',p0,by omega,e3,e4⟩
  rw [if_neg c8] at hres
  rw [hres]
  refine W1 c8 ?_
  refine Zp (k60 (hSs _ _ oo) hM.w oo (hCs _) ⟨by omega,by omega⟩ hM.k ⟨xo,xn,xi,xs⟩ ha hins) ?_
  rintro _ H2 n2 q2 s2 ⟨q,m',v',id',rfl,e2,e3,e4⟩
  refine W0 trivial ?_
  exact Wp.pure ⟨rfl,so,fun i a1 a2=>by simp only; rw [s2 i oo oo a2]; exact hm1 _ _ a1,p0,p0,p0,q,m',v',id',p0,by omega,e3,e4⟩
 rintro ⟨oe,ot,oH,on⟩ ⟨f1,f2,f3,f4,f5,f6,q,m',v',id',f7,f8,hS,hR⟩
 simp only at f1 f2 f3 f4 f5 f6 f7 hS
 have hb1:oH (n+1)=some (.row [v,.int .i64 m.a,.int .i64 m.s,.int .i64 m.e,.int .i64 m.d,.int .i64 m.t,.int .i64 m.k,.int .i64 m.r] 0 true):=by rw [f3 _ oo oo]; simp (disch:=omega) only [Zj,Zf]
 have hb2:oH (n+2)=some (.row [nilS,.int .i64 0,.int .i64 0,.int .i64 0,.int .i64 0,.int .i64 0,.int .i64 0,.int .i64 0] 0 true):=by rw [f3 _ oo oo]; simp (disch:=omega) only [Zj,Zf]
 have hbm:∀ i,i < n→oH i=H i:=fun i hi=>by rw [f3 _ oo oo]; simp (disch:=omega) only [Zj,Zf]
 have hc':oH (n+7)=some (.row [v',.int .i64 m'.a,.int .i64 m'.s,.int .i64 m'.e,.int .i64 m'.d,.int .i64 m'.t,.int .i64 m'.k,.int .i64 m'.r,x1,x2,x3] 0 true):=hS.hc
 have hid':=hS.idn
 have hlv:=hS.li.len
 cases hX:mChk li.length (mRaw l li ld m) with
 | error e =>
  rw [hX] at hR
  obtain ⟨rfl,hq⟩:=hR
  rw [mRaw_err hX]
  refine W1 (A6 f4 f5 f6 f7 hq hb1) ?_
  refine Wp.rtn (k61 (hm.mv oo hbm) oo m.a m.s m.e m.d m.t m.k m.r q) ?_
  rintro _ H5 n5 q5 s5 ⟨u5,rfl,id5,j1,j2,j3⟩
  refine W1 (A6 f4 f5 f6 f7 s5 hb2) ?_
  exact Wp.pure ⟨so,(mm (A2 s5 hbm)),u5,rfl,id5,by omega,so,j3.mv m0⟩
 | ok m1 =>
  rw [hX] at hR
  obtain ⟨rfl,rfl⟩:=hR
  rw [mRaw_ok hX]
  by_cases c9:3000 < m'.p.length
  ·rw [if_pos c9]
   have c9i:(3000:Int) < (m'.p.length:Int):=by omega
   refine W1 (A8 f4 f5 f6 f7 hc' hlv c9i hb1) ?_
   refine Wp.rtn (k61 (hm.mv oo hbm) oo m.a m.s m.e m.d m.t m.k m.r 6) ?_
   rintro _ H5 n5 q5 s5 ⟨u5,rfl,id5,j1,j2,j3⟩
   refine W1 (A6 f4 f5 f6 f7 s5 hb2) ?_
   exact Wp.pure ⟨so,(mm (A2 s5 hbm)),u5,rfl,id5,by omega,so,j3.mv m0⟩
  ·rw [if_neg c9]
   have c9i:¬ (3000:Int) < (m'.p.length:Int):=by omega
   refine W1 (A8 f4 f5 f6 f7 hc' hlv c9i hb2) ?_
   exact Wp.pure ⟨so,(mm hbm),v',rfl,id',by omega,so,hS.at_.mv m0⟩
end Go.Proofs.YtcffcnipmgkjfaaGreat.Ax
set_option linter.unusedVariables false
set_option linter.unusedSimpArgs false
set_option maxHeartbeats 8000000
namespace Go.Proofs.YtcffcnipmgkjfaaGreat.Ax
open Go
theorem k10 {n:Nat} {H:Hp} {v vl vd vm:Value} {l m:List Nd} {li:List Ins} {ld:List Df} (hv:Li eNode n H v l) (hvl:Li eIns n H vl li) (hvd:Li eDef n H vd ld) (hs:∀ x∈l,x.s.size≤1048576) (hsl:∀ x∈li,x.s.size≤1048576) (hsd:∀ x∈ld,x.s.size≤1048576) (hl:l.length≤1048576) (hll:li.length≤1048576) (hld:ld.length≤1048576) (hm:Li eNode n H vm m) (hsm:∀ x∈m,x.s.size≤1048576) (hlm:m.length≤1048576) (a s e d t k r:Int) :
  RtN Tryz.prog 10 [.agg ⟨[v,vl,vd]⟩,.agg ⟨[vm,.int .i64 a,.int .i64 s,.int .i64 e,.int .i64 d,.int .i64 t,.int .i64 k,.int .i64 r]⟩] H n (fun w H' n'=>∃ u,w=mcV u (stepM l li ld ⟨m,a,s,e,d,t,k,r⟩)∧New eNode n n' H' u (stepM l li ld ⟨m,a,s,e,d,t,k,r⟩).p):=by
 apply RtN.mk
 rw [c10]; unfold S10
 refine W1 trivial ?_
 refine Zu (k18 (hv.mv oo m0) (hvl.mv oo m0) (hvd.mv oo m0) hs hsl hsd hl hll hld (hm.mv oo m0) hsm hlm a s e d t k r) ?_
 intro H1 n1 q1 s1
 by_cases hok:MachOk l li ld m a s e d t k r
 case neg =>
  have hA:(stepM l li ld ⟨m,a,s,e,d,t,k,r⟩)=⟨[],0,0,0,0,3,7,0⟩:=by unfold stepM; rw [if_pos hok]
  rw [hA]
  refine W1 (A2 s1 hok) ?_
  exact Wp.pure ⟨so,(mm s1),nilS,rfl,⟨n,by omega,so,At.nil⟩⟩
 by_cases ht:t=0
 case neg =>
  have hA:(stepM l li ld ⟨m,a,s,e,d,t,k,r⟩)=⟨m,a,s,e,d,t,k,r⟩:=by unfold stepM; rw [if_neg (fun h=>h hok),if_pos ht]
  rw [hA]
  refine W1 (A3 s1 hok ht) ?_
  refine Wp.rtn (k28 (hm.mv oo (mm s1)) hlm a s e d t k r) ?_
  rintro _ Hz nz qz sz ⟨u,rfl,id,i1,i2,i3⟩
  refine W1 (A2 sz s1) ?_
  exact Wp.pure ⟨so,(mm (A2 sz s1)),u,rfl,⟨id,by omega,so,i3.mv m0⟩⟩
 have hA:(stepM l li ld ⟨m,a,s,e,d,t,k,r⟩)=mEnd li.length ⟨m,a,s,e,d,t,k,r⟩ (mRaw l li ld ⟨m,a,s,e,d,t,k,r⟩):=by unfold stepM; rw [if_neg (fun h=>h hok),if_neg (fun h=>h ht)]
 rw [hA]
 have hmo:MOk l li ld ⟨m,a,s,e,d,t,k,r⟩:=MachOk.mok (m:=⟨m,a,s,e,d,t,k,r⟩) hok ht
 generalize hX:mEnd _ _ _=X
 subst ht
 refine W1 (A2 s1 hok) ?_
 refine Wp.rtn (k29 (m:=⟨m,a,s,e,d,0,k,r⟩) (hm.mv oo (mm s1)) ⟨hv.mv oo (mm s1),hvl.mv oo (mm s1),hvd.mv oo (mm s1)⟩ hmo) ?_
 rintro _ Hz nz qz sz ⟨u,rfl,id,i1,i2,i3⟩
 rw [hX] at i3 ⊢
 refine W1 (A2 sz s1) ?_
 exact Wp.pure ⟨so,(mm (A2 sz s1)),u,rfl,⟨id,by omega,so,i3.mv m0⟩⟩
def FrOk (m:Mc) (st many:Int):Prop:=(Zq m.p st).2=true∧((Zq m.p st).1.length:Int)=many∧(gi m.p (gi (Zq m.p st).1 0)).k=3
theorem k121 {n:Nat} {H:Hp} {v:Value} {m:Mc} {b:Nat} (h:Li eNode n H v m.p) (hw:Wf b m) (hb:b≤100000) (st:Int) (hst:In m st) (many:Int) (hmn:1≤many∧many≤4) :
  RtN Tryz.prog 121 [.agg ⟨[v]⟩,.int .i64 st,.int .i64 many] H n (fun r H' n'=>∃ u,(FrOk m st many∧r=.tuple ⟨[.int .i64 (gi m.p (gi (Zq m.p st).1 0)).n,u,.bool true]⟩∧∃ iu,n≤iu∧iu < n'∧Li eInt n' H' u ((Zq m.p st).1.drop 1)∧∀ c,iu≠c→Off c u)∨(¬ FrOk m st many∧r=.tuple ⟨[.int .i64 0,u,.bool false]⟩)):=by
 apply RtN.mk
 rw [c121]; unfold S121
 refine W1 trivial ?_
 refine Wp.rtn (kw139 (h.mv oo m0) (hw.w hb) st hst.1 hst.2) ?_
 rintro _ H1 n1 q1 s1 ⟨u,rfl,idu,iu1,iu2,hU⟩
 have hch:=fun (i:Int) (h0:0≤i) (h1:i < ((Zq m.p st).1.length:Int))=>hw.chain hst h0 h1
 have hul:=(hU.lst iu2).len
 have hU1:=hU.lst iu2
 have hnu:notTup u=true:=by rcases hU with ⟨h,_⟩ | ⟨h,_⟩ <;> rw [h] <;> rfl
 have hLo:listOf m.p st=if (Zq m.p st).2=true then ((Zq m.p st).1,true) else ([],false):=rfl
 unfold FrOk
 generalize Zq m.p st=C at hch hLo ⊢
 obtain ⟨ch,ok⟩:=C
 simp only at hch hLo ⊢
 have fin:∀ (H':Hp) (n':Nat) (u:Value),n≤n'→(∀ i,i < n→H' i=H i)→¬ (ok=true∧(ch.length:Int)=many∧(gi m.p (gi ch 0)).k=3)→Wp (some (Value.tuple ⟨[.int .i64 0,u,.bool false]⟩,H',n')) (fun q=>n≤q.2.2∧(∀ i,i < n→q.2.1 i=H i)∧∃ u,((ok=true∧(ch.length:Int)=many∧(gi m.p (gi ch 0)).k=3)∧q.1=.tuple ⟨[.int .i64 (gi m.p (gi ch 0)).n,u,.bool true]⟩∧∃ iu,n≤iu∧iu < q.2.2∧Li eInt q.2.2 q.2.1 u (ch.drop 1)∧∀ c,iu≠c→Off c u)∨(¬ (ok=true∧(ch.length:Int)=many∧(gi m.p (gi ch 0)).k=3)∧q.1=.tuple ⟨[.int .i64 0,u,.bool false]⟩)) :=
  fun H' n' u h1 h2 h3=>Wp.pure ⟨h1,h2,u,.inr ⟨h3,rfl⟩⟩
 generalize hQ:(fun q:Value × Hp × Nat=>n≤q.2.2∧(∀ i,i < n→q.2.1 i=H i)∧∃ u,((ok=true∧(ch.length:Int)=many∧(gi m.p (gi ch 0)).k=3)∧q.1=.tuple ⟨[.int .i64 (gi m.p (gi ch 0)).n,u,.bool true]⟩∧∃ iu,n≤iu∧iu < q.2.2∧Li eInt q.2.2 q.2.1 u (ch.drop 1)∧∀ c,iu≠c→Off c u)∨(¬ (ok=true∧(ch.length:Int)=many∧(gi m.p (gi ch 0)).k=3)∧q.1=.tuple ⟨[.int .i64 0,u,.bool false]⟩))=Q at fin ⊢
 cases ok with
 | false =>
  rw [if_neg (by decide)] at hLo
  rw [hLo]
  refine W1 @bsl_zero ?_
  refine fin _ _ _ ?_ ?_ (fun h=>by cases h.1)
  ·omega
  ·exact (mm s1)
 | true =>
 rw [if_pos rfl] at hLo
 rw [hLo] at hul hU hU1 ⊢
 simp only at hul hU hU1 ⊢
 by_cases c4:(ch.length:Int)=many
 case neg =>
  refine W1 (A3 hul c4 @bsl_zero) ?_
  refine fin _ _ _ ?_ ?_ (fun h=>c4 h.2.1)
  ·omega
  ·exact (mm s1)
 have r0:=hch 0 oo oo
 have g0:=hU1.iAll (i:=0) oo oo
 have gx:=(h.mv (H':=H1) (Nat.le_refl _) (mm s1)).nAll r0.1 r0.2
 by_cases c3:(gi m.p (gi ch 0)).k=3
 case neg =>
  refine W1 (A7 hul c4 s1 g0 gx c3 @bsl_zero) ?_
  refine fin _ _ _ ?_ ?_ (fun h=>c3 h.2.2)
  ·omega
  ·exact (mm s1)
 obtain ⟨w,e1,e2,e3⟩:=slice1 hU oo
 have hnw:notTup w=true:=by
  have:=(e2 n1 iu2)
  obtain ⟨⟨_,⟨_,rfl | ⟨i,o,q,c,rfl⟩⟩ | ⟨i,o,c,cs,e,rw,rfl,_⟩⟩,_⟩:=this <;> rfl
 refine W1 (A8 hul c4 s1 g0 gx c3 e1 hnw) ?_
 rw [← hQ]
 exact Wp.pure ⟨so,(mm s1),w,.inl ⟨⟨rfl,c4,c3⟩,rfl,idu,by omega,so,(e2 n1 iu2).up so,e3⟩⟩
end Go.Proofs.YtcffcnipmgkjfaaGreat.Ax
set_option linter.unusedVariables false
set_option linter.unusedSimpArgs false
set_option maxHeartbeats 8000000
namespace Go.Proofs.YtcffcnipmgkjfaaGreat.Ax
open Go
theorem kp138 {n0 c id n:Nat} {H:Hp} {x1 x2 x3 v w:Value} {m:Mc} {l:List Nd} {li:List Ins} {ld:List Df} {b:Nat} {xs:List Int} (K:Cl n0 c id n H x1 x2 x3 v w [] m l li ld b xs) (k:Int) (hk:0≤k∧k≤99) (h18:k≠18) :
  RtA Tryz.prog 138 [.agg ⟨[x1,x2,x3]⟩,ptr c 0,.int .i64 k,w,.int .i64 (m.a+1)] c id H n (MRes (mBuilt k xs (m.a+1) m) c id n []):=by
 obtain ⟨h,hw,hb,hC,hn0,hll,ha,hxs,hoc,hod,hxl,hr,hP⟩:=K
 apply RtA.of
 rw [c138]; unfold S138 mBuilt
 have hcn:=h.cn
 have hid:=h.idn
 have hne:=h.ne
 have hl:=hw.len
 have hlen:=hxs.len
 refine W1 hlen ?_
 refine Zu (argsS' k hk _ _) ?_
 intro H1 n1 q1 s1
 by_cases c1:primArgs k=(xs.length:Int)
 case neg =>
  rw [if_pos c1]
  refine W1 ((show ¬ (xs.length:Int)=primArgs k from fun h=>c1 h.symm)) ?_
  exact Wp.pure ⟨so,(mm s1),MRes.er (h.mv so (mm s1) (mm s1)) (.inr rfl) (by decide)⟩
 rw [if_neg (fun h=>h c1)]
 have hk1:=primArgs_pos c1
 by_cases c2:12 < k
 ·rw [if_pos c2]
  refine W1 (A3 c1 h18 c2) ?_
  refine Zp ((h.mv oo (mm s1) (mm s1)).listS (hxs.mv oo (mm s1)) hoc hod oo) ?_
  rintro _ H2 n2 q2 s2 ⟨rfl,v2,id2,i2,hS2⟩
  generalize mListV xs m=r2
  generalize mList xs m=m2 at hS2 ⊢
  have hc2:H2 c=some (.row [v2,.int .i64 m2.a,.int .i64 m2.s,.int .i64 m2.e,.int .i64 m2.d,.int .i64 m2.t,.int .i64 m2.k,.int .i64 m2.r] 0 true):=hS2.hc
  refine W1 hc2 ?_
  exact Wp.pure ⟨so,(mm (A2 s2 s1)),MRes.ok (hS2.to so (Zf _ _ _) (Zj _ _ hS2.ne) rfl) (.inl oo)⟩
 rw [if_neg c2]
 refine W1 (A3 c1 h18 c2) ?_
 refine Zp (k153 (h.mv oo (mm s1) (mm s1)) (hw.w hb) (fun x hx=>by have:=hw.ok.sz x hx; omega) (hxs.mv oo (mm s1)) k (fun h11=>hP (by rw [h11] at c1; have:primArgs 11=2:=rfl; omega)) oo c1.symm hr) ?_
 rintro _ H2 n2 q2 s2 hP2
 unfold mPrim
 cases hO:primOut m.p k xs with
 | bad q =>
  rw [hO] at hP2
  obtain ⟨rfl,hS2⟩:=hP2
  rcases primOut_badk hO with rfl | rfl
  ·refine W0 trivial ?_
   exact Wp.pure ⟨so,(mm (A2 s2 s1)),MRes.er (hS2.mv so rfl rfl) (.inr rfl) (by decide)⟩
  ·refine W0 trivial ?_
   exact Wp.pure ⟨so,(mm (A2 s2 s1)),MRes.er (hS2.mv so rfl rfl) (.inr rfl) (by decide)⟩
 | old i =>
  rw [hO] at hP2
  obtain ⟨rfl,hS2⟩:=hP2
  simp only
  refine W0 trivial ?_
  refine Zp (kM83 (m:=m) (hS2.mv oo rfl rfl) oo i) ?_
  rintro _ H3 n3 q3 s3 ⟨rfl,v3,id3,i3,hS3⟩
  have hc3:H3 c=some (.row [v3,.int .i64 (mPut i m).a,.int .i64 (mPut i m).s,.int .i64 (mPut i m).e,.int .i64 (mPut i m).d,.int .i64 (mPut i m).t,.int .i64 (mPut i m).k,.int .i64 (mPut i m).r] 0 true):=hS3.hc
  generalize mPut i m=m3 at hS3 hc3 ⊢
  refine W1 hc3 ?_
  exact Wp.pure ⟨so,(mm (A3 s3 s2 s1)),MRes.ok (hS3.to so (Zf _ _ _) (Zj _ _ hS3.ne) rfl) (.inl oo)⟩
 | add x =>
  rw [hO] at hP2
  obtain ⟨rfl,v2,id2,i2,hS2⟩:=hP2
  simp only
  have hl2:=addLen m [x]
  simp only [List.length_cons,List.length_nil] at hl2
  refine W0 trivial ?_
  refine Zp (kM83 (m:=m.add [x]) (hS2.mv oo rfl rfl) oo _) ?_
  rintro _ H3 n3 q3 s3 ⟨rfl,v3,id3,i3,hS3⟩
  generalize mPut m.p.length (m.add [x])=m3 at hS3 ⊢
  have hc3:H3 c=some (.row [v3,.int .i64 m3.a,.int .i64 m3.s,.int .i64 m3.e,.int .i64 m3.d,.int .i64 m3.t,.int .i64 m3.k,.int .i64 m3.r] 0 true):=hS3.hc
  refine W1 hc3 ?_
  exact Wp.pure ⟨so,(mm (A3 s3 s2 s1)),MRes.ok (hS3.to so (Zf _ _ _) (Zj _ _ hS3.ne) rfl) (.inl oo)⟩
theorem drop1_gi {l:List Int} {i:Nat} (h:i+1 < l.length):gi (l.drop 1) (i:Int)=gi l ((i+1:Nat):Int):=by
 rw [gi_nat (by simp; omega),gi_nat h,List.getElem_drop]
 congr 1; omega
theorem kc120 {n0 c id n:Nat} {H:Hp} {x1 x2 x3 v w:Value} {m:Mc} {l:List Nd} {li:List Ins} {ld:List Df} {b:Nat} {xs:List Int} (K:Cl n0 c id n H x1 x2 x3 v w [] m l li ld b xs) (f:Int) (hf:In m f) (hcc:¬ IsCC m f) (fuel:Nat) :
  RtA Tryz.prog 120 [.agg ⟨[x1,x2,x3]⟩,ptr c 0,.int .i64 f,w,.int .i64 (m.a+1)] c id H n (MRes (mCall li.length (m.a+1) fuel f xs m) c id n []):=by
 obtain ⟨h,hw,hb,hC,hn0,hll,ha,hxs,hoc,hod,hxl,hr,hP⟩:=(show _ from K)
 apply RtA.of
 rw [c120]; unfold S120
 have hc:H c=some (.row [v,.int .i64 m.a,.int .i64 m.s,.int .i64 m.e,.int .i64 m.d,.int .i64 m.t,.int .i64 m.k,.int .i64 m.r] 0 true):=h.hc
 have hcn:=h.cn
 have hid:=h.idn
 have hne:=h.ne
 have hl:=hw.len
 have hlen:=hxs.len
 have gx:=(h.li.mv (H':=H.set n (some (.row [x1,x2,x3] 0 true))) (Nat.le_refl _) m0).nAll hf.1 hf.2
 have hok:=hw.at hf
 have six:(gi m.p f).k=6→0≤(gi m.p f).n∧(gi m.p f).n≤1000000000:=fun h=>by rcases hok with h' | h' | h' | h' | h' | h' | h' | h' | h' <;> omega
 have eight:(gi m.p f).k=8→0≤(gi m.p f).n∧(gi m.p f).n≤99:=fun h=>by rcases hok with h' | h' | h' | h' | h' | h' | h' | h' | h' <;> omega
 have seven:(gi m.p f).k=7→In m (gi m.p f).a:=fun h=>by have:=hok.one (.inr h); have:=hf.2; exact ⟨by omega,by omega⟩
 by_cases c6:(gi m.p f).k=6
 ·rw [mCall_fun c6]
  have hn6:=six c6
  generalize gi m.p f=x at gx c6 hn6 ⊢
  obtain ⟨xk,xn,xst,xa,xb⟩:=x
  simp only [Nd.cells] at gx c6 hn6
  subst c6
  unfold mEnter
  simp only
  have hrem:xn.tmod 8=xn % 8:=Int.tmod_eq_emod_of_nonneg hn6.1
  have hquo:=quoE hn6
  have hil:=hC.i.len
  by_cases c1:xn % 8=(xs.length:Int)
  case neg =>
   rw [if_pos c1]
   refine W1 (A5 hc gx hlen hrem c1) ?_
   exact Wp.pure ⟨so,m0,MRes.er (h.mv so m0 m0) (.inr rfl) (by decide)⟩
  rw [if_neg (fun h=>h c1)]
  by_cases c2:xn / 8 < (li.length:Int)
  case neg =>
   rw [if_pos c2]
   refine W1 (A8 hc gx hlen hrem c1 hquo hil (show (li.length:Int)≤xn / 8 by omega)) ?_
   exact Wp.pure ⟨so,m0,MRes.er (h.mv so m0 m0) (.inr rfl) (by decide)⟩
  rw [if_neg (fun h=>h c2)]
  refine W1 (A8 hc gx hlen hrem c1 hquo hil (show ¬ (li.length:Int)≤xn / 8 by omega)) ?_
  generalize hH1:(H.set n (some (.row [x1,x2,x3] 0 true))).set (n+10) (some (.row [.int .i64 6,.int .i64 xn,.string xst,.int .i64 xa,.int .i64 xb] 0 true))=H1
  have s1:∀ i,i < n→H1 i=H i:=fun i hi=>by rw [← hH1]; simp (disch:=omega) only [Zj]
  have b1:H1 (n+10)=some (.row [.int .i64 6,.int .i64 xn,.string xst,.int .i64 xa,.int .i64 xb] 0 true):=by rw [← hH1]; exact Zf _ _ _
  refine Zp ((h.mv oo (mm s1) (mm s1)).addS oo (ndInt (m.a+1))) ?_
  rintro _ H2 n2 q2 s2 ⟨rfl,v2,id2,i2,hS2⟩
  have f2:=addLen m [ndInt (m.a+1)]
  simp only [List.length_cons,List.length_nil] at f2
  generalize hm2:m.add [ndInt (m.a+1)]=m2 at hS2 f2
  have hs2:m2.s=m.s∧m2.e=m.e:=by subst hm2; exact ⟨rfl,rfl⟩
  have b2:H2 (n+10)=some (.row [.int .i64 6,.int .i64 xn,.string xst,.int .i64 xa,.int .i64 xb] 0 true):=by rw [s2 _ oo oo oo]; exact b1
  have hc2:H2 c=some (.row [v2,.int .i64 m2.a,.int .i64 m2.s,.int .i64 m2.e,.int .i64 m2.d,.int .i64 m2.t,.int .i64 m2.k,.int .i64 m2.r] 0 true):=hS2.hc
  have hid2:=hS2.idn
  refine W1 hc2 ?_
  refine Wp.bslN eInt [(m.p.length:Int),m2.s,m2.e] (by decide) rfl rfl ?_
  refine W0 trivial ?_
  refine Zp ((hS2.mv oo m0 m0).listS ((At.of rfl (Zf _ _ _)).lst oo) (Off.sl oo) (Off.sl oo) (by simp only [List.length_cons,List.length_nil]; omega)) ?_
  rintro _ H3 n3 q3 s3 ⟨rfl,v3,id3,i3,hS3⟩
  have f3:=listLen [(m.p.length:Int),m2.s,m2.e] m2
  simp only [List.length_cons,List.length_nil] at f3
  generalize hr3:mListV [(m.p.length:Int),m2.s,m2.e] m2=r3
  generalize hm3:mList [(m.p.length:Int),m2.s,m2.e] m2=m3 at hS3 f3
  have hc3:H3 c=some (.row [v3,.int .i64 m3.a,.int .i64 m3.s,.int .i64 m3.e,.int .i64 m3.d,.int .i64 m3.t,.int .i64 m3.k,.int .i64 m3.r] 0 true):=hS3.hc
  have hid3:=hS3.idn
  refine W1 hc3 ?_
  refine Zp ((hS3.mv oo rfl rfl).addS oo (ndPair r3 m3.d)) ?_
  rintro _ H4 n4 q4 s4 ⟨rfl,v4,id4,i4,hS4⟩
  have f4:=addLen m3 [ndPair r3 m3.d]
  simp only [List.length_cons,List.length_nil] at f4
  generalize hm4:m3.add [ndPair r3 m3.d]=m4 at hS4 f4
  have hc4:H4 c=some (.row [v4,.int .i64 m4.a,.int .i64 m4.s,.int .i64 m4.e,.int .i64 m4.d,.int .i64 m4.t,.int .i64 m4.k,.int .i64 m4.r] 0 true):=hS4.hc
  have hid4:=hS4.idn
  refine W1 hc4 ?_
  refine Zp ((hS4.to (m':={ m4 with d:=(m3.p.length:Int) }) oo (Zf _ _ _) (Zj _ _ hS4.ne) rfl).listS (hxs.mv2 hoc hod oo (mm (A4 s4 s3 s2 s1))) hoc (hxs.off oo) so) ?_
  rintro _ H5 n5 q5 s5 ⟨rfl,v5,id5,i5,hS5⟩
  have f5:=listLen xs { m4 with d:=(m3.p.length:Int) }
  generalize hr5:mListV xs { m4 with d:=(m3.p.length:Int) }=r5
  generalize hm5:mList xs { m4 with d:=(m3.p.length:Int) }=m5 at hS5 f5
  have hc5:H5 c=some (.row [v5,.int .i64 m5.a,.int .i64 m5.s,.int .i64 m5.e,.int .i64 m5.d,.int .i64 m5.t,.int .i64 m5.k,.int .i64 m5.r] 0 true):=hS5.hc
  have hid5:=hS5.idn
  have b5:H5 (n+10)=some (.row [.int .i64 6,.int .i64 xn,.string xst,.int .i64 xa,.int .i64 xb] 0 true):=by simp (disch:=omega) only [s5,s4,s3,Zj,b2]
  simp only at f5
  refine W1 (A2 hc5 b5) ?_
  refine Zp ((hS5.mv oo rfl rfl).addS oo (ndPair r5 xa)) ?_
  rintro _ H6 n6 q6 s6 ⟨rfl,v6,id6,i6,hS6⟩
  have f6:=addLen m5 [ndPair r5 xa]
  simp only [List.length_cons,List.length_nil] at f6
  generalize hm6:m5.add [ndPair r5 xa]=m6 at hS6 f6
  have hc6:H6 c=some (.row [v6,.int .i64 m6.a,.int .i64 m6.s,.int .i64 m6.e,.int .i64 m6.d,.int .i64 m6.t,.int .i64 m6.k,.int .i64 m6.r] 0 true):=hS6.hc
  have hid6:=hS6.idn
  refine W1 hc6 ?_
  refine Zp ((hS6.to (m':={ m6 with e:=(m5.p.length:Int) }) oo (Zf _ _ _) (Zj _ _ hS6.ne) rfl).addS so ndNil) ?_
  rintro _ H7 n7 q7 s7 ⟨rfl,v7,id7,i7,hS7⟩
  have hid7:=hS7.idn
  have b7:H7 (n+10)=some (.row [.int .i64 6,.int .i64 xn,.string xst,.int .i64 xa,.int .i64 xb] 0 true):=by simp (disch:=omega) only [s7,s6,Zj,b5]
  generalize hm7:Mc.add { m6 with e:=(m5.p.length:Int) } [ndNil]=m7 at hS7
  have hc7:H7 c=some (.row [v7,.int .i64 m7.a,.int .i64 m7.s,.int .i64 m7.e,.int .i64 m7.d,.int .i64 m7.t,.int .i64 m7.k,.int .i64 m7.r] 0 true):=hS7.hc
  refine W1 (A3 hc7 b7 hquo) ?_
  refine Wp.pure ⟨so,(mm (A7 s7 s6 s5 s4 s3 s2 s1)),MRes.ok (v':=v7) (id':=id7) ?_ (.inl oo)⟩
  have hfin:SM c id7 (n7+8) _ [] v7 { m7 with s:=(m6.p.length:Int),a:=xn / 8 }:=hS7.to oo (Zf _ _ _) (Zj _ _ hS7.ne) rfl
  refine cast ?_ hfin
  have e1:=saveV_eq m (m.a+1) [m.s,m.e]
  rw [hm2] at e1
  rw [← hm7,← hm6,← hr5,← hm5,← hm4,← hm3,← hr3,hs2.1,hs2.2,e1,← hm2]
  rfl
 by_cases c8:(gi m.p f).k=8
 ·have c18:(gi m.p f).n≠18:=fun h=>hcc ⟨c8,h⟩
  rw [mCall_prim c8 c18]
  have hn8:=eight c8
  generalize gi m.p f=x at gx c8 c18 hn8 ⊢
  obtain ⟨xk,xn,xs',xa,xb⟩:=x
  simp only [Nd.cells] at gx c8 c18 hn8
  refine W1 (A3 hc gx c8) ?_
  refine Zp (kp138 ⟨h.mv oo m0 m0,hw,hb,hC.mv m0,hn0,hll,ha,hxs.mv oo m0,hoc,hod,hxl,hr,hP⟩ xn hn8 c18) ?_
  rintro _ H2 n2 q2 s2 ⟨q,m',v',id',rfl,e2,e3,e4⟩
  refine W0 trivial ?_
  exact Wp.pure ⟨so,(mm s2),q,m',v',id',rfl,by omega,e3,e4⟩
 by_cases c7:(gi m.p f).k=7
 ·rw [mCall_kont c7]
  have hn7:=seven c7
  generalize gi m.p f=x at gx c7 hn7 ⊢
  obtain ⟨xk,xn,xs',xa,xb⟩:=x
  simp only [Nd.cells] at gx c7 hn7
  simp only
  by_cases c1:xs.length=1
  case neg =>
   rw [show mResume xa xs m=.error 2 from if_pos c1]
   refine W1 (A5 hc gx c7 hlen (show ¬ (xs.length:Int)=1 by omega)) ?_
   exact Wp.pure ⟨so,m0,MRes.er (h.mv so m0 m0) (.inr rfl) (by decide)⟩
  have c1i:(xs.length:Int)=1:=by omega
  refine W1 (A5 hc gx c7 hlen c1i) ?_
  refine Wp.rtn (k121 (h.li.mv oo m0) hw hb xa hn7 4 (by decide)) ?_
  rintro _ H2 n2 q2 s2 ⟨u,⟨hF,rfl,iu,iu1,iu2,hU,hO⟩ | ⟨hF,rfl⟩⟩
  ·have hF':(Zq m.p xa).2=true∧(Zq m.p xa).1.length=4∧(gi m.p (gi (Zq m.p xa).1 0)).k=3:=⟨hF.1,by have:=hF.2.1; omega,hF.2.2⟩
   have hR:mResume xa xs m=.ok (mPut (gi xs 0) { m with a:=(gi m.p (gi (Zq m.p xa).1 0)).n,s:=gi (Zq m.p xa).1 1,e:=gi (Zq m.p xa).1 2,d:=gi (Zq m.p xa).1 3 }):=by
    unfold mResume
    rw [if_neg (fun h=>h c1),if_pos hF']
   rw [hR]
   have h4:=hF'.2.1
   generalize (Zq m.p xa).1=ch at hU h4 ⊢
   have hdl:(ch.drop 1).length=3:=by simp [h4]
   have d0:=drop1_gi (l:=ch) (i:=0) oo
   have d1:=drop1_gi (l:=ch) (i:=1) oo
   have d2:=drop1_gi (l:=ch) (i:=2) oo
   generalize hN:(gi m.p (gi ch 0)).n=an
   have m2:∀ i,i < n→H2 i=H i:=(mm s2)
   have hc2:H2 c=some (.row [v,.int .i64 m.a,.int .i64 m.s,.int .i64 m.e,.int .i64 m.d,.int .i64 m.t,.int .i64 m.k,.int .i64 m.r] 0 true):=by rw [m2 _ hcn]; exact hc
   have hx:=fun (cs:List Value)=>(hxs.mv2 (H':=H2.set c (some (.row cs 0 true))) hoc hod (Nat.le_refl _) (mm m2)).iAll (i:=0) oo oo
   have k0:=fun (cs:List Value)=>(hU.mv1 (H':=H2.set c (some (.row cs 0 true))) (hO c oo) (Nat.le_refl _) m0).iAll (i:=0) oo oo
   have k1:=fun (cs:List Value)=>(hU.mv1 (H':=H2.set c (some (.row cs 0 true))) (hO c oo) (Nat.le_refl _) m0).iAll (i:=1) oo oo
   have k2:=fun (cs:List Value)=>(hU.mv1 (H':=H2.set c (some (.row cs 0 true))) (hO c oo) (Nat.le_refl _) m0).iAll (i:=2) oo oo
   rw [show gi (ch.drop 1) 0=gi ch 1 from d0] at k0
   rw [show gi (ch.drop 1) 1=gi ch 2 from d1] at k1
   rw [show gi (ch.drop 1) 2=gi ch 3 from d2] at k2
   refine W1 (A8 hc2 ((k0 []).1) ((k1 []).1) ((k2 []).1) ((hx []).1) (fun cs=>(k0 cs).2) (fun cs=>(k1 cs).2) (A2 (fun cs=>(k2 cs).2) (fun cs=>(hx cs).2))) ?_
   refine Zp (kM83 (m:={ m with a:=an,s:=gi ch 1,e:=gi ch 2,d:=gi ch 3 }) (h.to oo (Zf _ _ _) (mm m2) rfl) so _) ?_
   rintro _ H3 n3 q3 s3 ⟨rfl,v3,id3,i3,hS3⟩
   refine W0 trivial ?_
   exact Wp.pure ⟨so,(mm (A2 s3 m2)),MRes.ok (hS3.mv so rfl rfl) (.inl oo)⟩
  ·have hF':¬ ((Zq m.p xa).2=true∧(Zq m.p xa).1.length=4∧(gi m.p (gi (Zq m.p xa).1 0)).k=3):=fun h=>hF ⟨h.1,by have:=h.2.1; omega,h.2.2⟩
   have hR:mResume xa xs m=.error 7:=by
    unfold mResume
    rw [if_neg (fun h=>h c1),if_neg hF']
   rw [hR]
   refine W0 trivial ?_
   exact Wp.pure ⟨so,(mm s2),MRes.er (h.mv so (mm s2) (mm s2)) (.inr rfl) (by decide)⟩
 rw [mCall_no ⟨c6,c7,c8⟩]
 generalize gi m.p f=x at gx c6 c7 c8 ⊢
 obtain ⟨xk,xn,xs',xa,xb⟩:=x
 simp only [Nd.cells] at gx c6 c7 c8
 refine W1 (A5 hc gx c6 c7 c8) ?_
 exact Wp.pure ⟨so,m0,MRes.er (h.mv so m0 m0) (.inr rfl) (by decide)⟩
end Go.Proofs.YtcffcnipmgkjfaaGreat.Ax
set_option linter.unusedVariables false
set_option linter.unusedSimpArgs false
set_option maxHeartbeats 8000000
namespace Go.Proofs.YtcffcnipmgkjfaaGreat.Ax
open Go
def CallS (c n0:Nat) (x1 x2 x3:Value) (l:List Nd) (li:List Ins) (ld:List Df) (fuel:Nat):Prop :=
 ∀ (id n:Nat) (H:Hp) (v w:Value) (m:Mc) (b:Nat) (xs:List Int),Cl n0 c id n H x1 x2 x3 v w [] m l li ld b xs→b+10 * fuel≤100000→∀ f,In m f→(IsCC m f→1≤fuel)→(IsCC m f→xs.length=1→IsCC m (gi xs 0)→2≤fuel) →
  RtA Tryz.prog 120 [.agg ⟨[x1,x2,x3]⟩,ptr c 0,.int .i64 f,w,.int .i64 (m.a+1)] c id H n (MRes (mCall li.length (m.a+1) fuel f xs m) c id n [])
theorem kq138 {n0 c id n:Nat} {H:Hp} {x1 x2 x3 v w:Value} {m:Mc} {l:List Nd} {li:List Ins} {ld:List Df} {b:Nat} {xs:List Int} {fuel:Nat} (ih:CallS c n0 x1 x2 x3 l li ld fuel) (K:Cl n0 c id n H x1 x2 x3 v w [] m l li ld b xs) (hbf:b+7+10 * fuel≤100000) (h2:xs.length=1→IsCC m (gi xs 0)→1≤fuel) :
  RtA Tryz.prog 138 [.agg ⟨[x1,x2,x3]⟩,ptr c 0,.int .i64 18,w,.int .i64 (m.a+1)] c id H n (MRes (if xs.length≠1 then .error 2 else mCall li.length (m.a+1) fuel (gi xs 0) [ccV (m.a+1) m] (ccM (m.a+1) m)) c id n []):=by
 obtain ⟨h,hw,hb,hC,hn0,hll,ha,hxs,hoc,hod,hxl,hr,hP⟩:=K
 apply RtA.of
 rw [c138]; unfold S138
 have hcn:=h.cn
 have hid:=h.idn
 have hne:=h.ne
 have hl:=hw.len
 have hlen:=hxs.len
 refine W1 hlen ?_
 refine Zu (argsS' 18 oo _ _) ?_
 intro H1 n1 q1 s1
 have hp18:primArgs 18=1:=rfl
 by_cases c1:xs.length=1
 case neg =>
  rw [if_pos c1]
  refine W1 (A2 hp18 (show ¬ (xs.length:Int)=1 by omega)) ?_
  exact Wp.pure ⟨so,(mm s1),MRes.er (h.mv so (mm s1) (mm s1)) (.inr rfl) (by decide)⟩
 rw [if_neg (fun h=>h c1)]
 have c1i:(xs.length:Int)=1:=by omega
 have hx0:=hr _ (gi_mem (l:=xs) (i:=0) oo oo)
 refine W1 (A2 hp18 c1i) ?_
 refine Zp ((h.mv oo (mm s1) (mm s1)).addS oo (ndInt (m.a+1))) ?_
 rintro _ H2 n2 q2 s2 ⟨rfl,v2,id2,i2,hS2⟩
 have f2:=addLen m [ndInt (m.a+1)]
 simp only [List.length_cons,List.length_nil] at f2
 have hid2:=hS2.idn
 have hc2:H2 c=some (.row [v2,.int .i64 m.a,.int .i64 m.s,.int .i64 m.e,.int .i64 m.d,.int .i64 m.t,.int .i64 m.k,.int .i64 m.r] 0 true):=hS2.hc
 refine W1 hc2 ?_
 refine Wp.bslN eInt [(m.p.length:Int),m.s,m.e,m.d] (by decide) rfl rfl ?_
 refine W0 trivial ?_
 refine Zp ((hS2.mv oo m0 m0).listS (m:=m.add [ndInt (m.a+1)]) ((At.of rfl (Zf _ _ _)).lst oo) (Off.sl oo) (Off.sl oo) (by simp only [List.length_cons,List.length_nil]; omega)) ?_
 rintro _ H3 n3 q3 s3 ⟨rfl,v3,id3,i3,hS3⟩
 have f3:=listLen [(m.p.length:Int),m.s,m.e,m.d] (m.add [ndInt (m.a+1)])
 simp only [List.length_cons,List.length_nil] at f3
 have hid3:=hS3.idn
 rw [saveV_eq m (m.a+1) [m.s,m.e,m.d]]
 refine W1 trivial ?_
 refine Zp ((hS3.mv oo rfl rfl).addS (m:=mSave (m.a+1) [m.s,m.e,m.d] m) (by unfold mSave; omega) (ndKont (mSaveV [m.s,m.e,m.d] m))) ?_
 rintro _ H4 n4 q4 s4 ⟨rfl,v4,id4,i4,hS4⟩
 have hid4:=hS4.idn
 have hm4:∀ i,i < n→i≠c→i≠id→H4 i=H i:=(mm (A4 s4 s3 s2 s1))
 have b4:H4 n=some (.row [x1,x2,x3] 0 true):=by rw [s4 _ oo oo oo,s3 _ oo oo oo,Zj _ _ oo,s2 _ oo oo oo,s1 _ oo]; exact Zf _ _ _
 have g4:=(hxs.mv2 (H':=H4) hoc hod (Nat.le_refl _) (mm hm4)).iAll (i:=0) oo oo
 refine W1 (A3 b4 g4 @bsl_i) ?_
 refine Zp (ih id4 _ _ v4 _ (ccM (m.a+1) m) (b+7) [ccV (m.a+1) m] ⟨hS4.mv oo m0 m0,cc_wf hw oo,by omega,hC.mv (fun i hi=>by rw [Zj _ _ oo]; exact hm4 i oo oo oo),by omega,hll,ha,(At.of rfl (Zf _ _ _)).lst oo,Off.sl oo,Off.sl oo,by simp,fun x hx=>by rw [List.mem_singleton] at hx; rw [hx]; exact cc_in _ _,fun h=>by simp at h⟩ oo (gi xs 0) (hx0.cc _) (fun hcc=>h2 c1 (by unfold IsCC at hcc ⊢; rw [cc_gi hx0] at hcc; exact hcc)) (fun _ _ hcc=>by
  have e:gi [ccV (m.a+1) m] 0=ccV (m.a+1) m:=rfl
  unfold IsCC at hcc
  rw [e,cc_kont] at hcc
  exact absurd hcc.1 (show ¬ (7:Int)=8 by decide))) ?_
 rintro _ H5 n5 q5 s5 ⟨q,m',v',id',rfl,e2,e3,e4⟩
 refine W0 trivial ?_
 exact Wp.pure ⟨so,(mm (A2 s5 hm4)),q,m',v',id',rfl,by omega,e3,e4⟩
theorem callS {c n0:Nat} {x1 x2 x3:Value} {l:List Nd} {li:List Ins} {ld:List Df}:∀ fuel,CallS c n0 x1 x2 x3 l li ld fuel:=by
 intro fuel
 induction fuel with
 | zero =>
  intro id n H v w m b xs K hbf f hf h1 h2
  exact kc120 K f hf (fun h=>by have:=h1 h; omega) 0
 | succ fuel ih =>
  intro id n H v w m b xs K hbf f hf h1 h2
  by_cases hcc:IsCC m f
  case neg=>exact kc120 K f hf hcc (fuel+1)
  obtain ⟨h,hw,hb,hC,hn0,hll,ha,hxs,hoc,hod,hxl,hr,hP⟩:=K
  apply RtA.of
  rw [c120]; unfold S120
  have hc:H c=some (.row [v,.int .i64 m.a,.int .i64 m.s,.int .i64 m.e,.int .i64 m.d,.int .i64 m.t,.int .i64 m.k,.int .i64 m.r] 0 true):=h.hc
  have hcn:=h.cn
  have hid:=h.idn
  have hne:=h.ne
  have gx:=(h.li.mv (H':=H.set n (some (.row [x1,x2,x3] 0 true))) (Nat.le_refl _) m0).nAll hf.1 hf.2
  have eR:mCall li.length (m.a+1) (fuel+1) f xs m=if xs.length≠1 then .error 2 else mCall li.length (m.a+1) fuel (gi xs 0) [ccV (m.a+1) m] (ccM (m.a+1) m):=by
   by_cases e1:xs.length=1
   ·rw [if_neg (fun h=>h e1),mCall_cc hcc e1]
   ·rw [if_pos e1,mCall_cc0 hcc e1]
  rw [eR]
  have h2':=h2 hcc
  unfold IsCC at hcc
  generalize gi m.p f=x at gx hcc
  obtain ⟨xk,xn,xs',xa,xb⟩:=x
  simp only [Nd.cells] at gx hcc
  obtain ⟨rfl,rfl⟩:=hcc
  refine W1 (A2 hc gx) ?_
  refine Zp (kq138 ih ⟨h.mv oo m0 m0,hw,hb,hC.mv m0,hn0,hll,ha,hxs.mv oo m0,hoc,hod,hxl,hr,hP⟩ oo (fun e1 e2=>by have:=h2' e1 e2; omega)) ?_
  rintro _ H5 n5 q5 s5 ⟨q,m',v',id',rfl,e2,e3,e4⟩
  refine W0 trivial ?_
  exact Wp.pure ⟨so,(mm s5),q,m',v',id',rfl,by omega,e3,e4⟩
theorem k120 {n0 c id n:Nat} {H:Hp} {x1 x2 x3 v w:Value} {m:Mc} {l:List Nd} {li:List Ins} {ld:List Df} {b:Nat} {xs:List Int} (K:Cl n0 c id n H x1 x2 x3 v w [] m l li ld b xs) (hb:b≤90000) (f:Int) (hf:In m f) :
  RtA Tryz.prog 120 [.agg ⟨[x1,x2,x3]⟩,ptr c 0,.int .i64 f,w,.int .i64 (m.a+1)] c id H n (MRes (mCall li.length (m.a+1) 3 f xs m) c id n []) :=
 callS 3 id n H v w m b xs K oo f hf (fun _=>by omega) (fun _ _ _=>by omega)
theorem k90 {c id n:Nat} {H:Hp} {v:Value} {m:Mc} {b:Nat} (h:SM c id n H [] v m) (hw:Wf b m) (hb:b≤100000) :
  RtA Tryz.prog 90 [ptr c 0] c id H n (MRes (mBack m) c id n []):=by
 apply RtA.of
 rw [c90]; unfold S90 mBack
 have hcn:=h.cn
 have hid:=h.idn
 have hne:=h.ne
 refine W0 trivial ?_
 refine Zp (k87 (h.mv oo rfl rfl) hw.s) ?_
 rintro r H1 n1 q1 s1 hR
 cases hM:mTake m with
 | none =>
  rw [hM] at hR
  obtain ⟨rfl,hS1⟩:=hR
  refine W0 trivial ?_
  exact Wp.pure ⟨so,(mm s1),MRes.er (hS1.mv so rfl rfl) (.inr rfl) (by decide)⟩
 | some q =>
 obtain ⟨y,m1⟩:=q
 rw [hM] at hR
 obtain ⟨rfl,hS1⟩:=hR
 obtain ⟨hw1,hy,-⟩:=hw.take hM
 simp only
 have hl:=hw1.len
 have hc1:H1 c=some (.row [v,.int .i64 m1.a,.int .i64 m1.s,.int .i64 m1.e,.int .i64 m1.d,.int .i64 m1.t,.int .i64 m1.k,.int .i64 m1.r] 0 true):=hS1.hc
 have hid1:=hS1.idn
 have hcn1:=hS1.cn
 have gd:=hS1.li.nAll hw1.d.1 hw1.d.2
 have hokd:=hw1.at hw1.d
 have hd:=hw1.d
 by_cases c1:(gi m1.p m1.d).k=1
 ·rw [if_pos c1]
  generalize gi m1.p m1.d=x at gd c1
  obtain ⟨xk,xn,xs,xa,xb⟩:=x
  simp only [Nd.cells] at gd c1
  refine W1 (A3 hc1 gd c1) ?_
  exact Wp.pure ⟨so,(mm s1),MRes.ok (hS1.to so (Zf _ _ _) m0 rfl) (.inr rfl)⟩
 rw [if_neg c1]
 by_cases c5:(gi m1.p m1.d).k=5
 case neg =>
  rw [if_pos c5]
  generalize gi m1.p m1.d=x at gd c1 c5
  obtain ⟨xk,xn,xs,xa,xb⟩:=x
  simp only [Nd.cells] at gd c1 c5
  refine W1 (A4 hc1 gd c1 c5) ?_
  exact Wp.pure ⟨so,(mm s1),MRes.er (hS1.mv so m0 m0) (.inr rfl) (by decide)⟩
 rw [if_neg (fun h=>h c5)]
 have hpr:=hokd.pair c5
 have hst:In m1 (gi m1.p m1.d).a:=⟨by omega,by omega⟩
 generalize gi m1.p m1.d=x at gd c1 c5 hst ⊢
 obtain ⟨xk,xn,xs,xa,xb⟩:=x
 simp only [Nd.cells] at gd c1 c5 hst
 simp only
 subst c5
 refine W1 (A3 hc1 gd c1) ?_
 refine Wp.rtn (k121 (hS1.li.mv oo m0) hw1 hb xa hst 3 (by decide)) ?_
 rintro _ H2 n2 q2 s2 ⟨u,⟨hF,rfl,iu,iu1,iu2,hU,hO⟩ | ⟨hF,rfl⟩⟩
 ·have hF':(Zq m1.p xa).2=true∧(Zq m1.p xa).1.length=3∧(gi m1.p (gi (Zq m1.p xa).1 0)).k=3:=⟨hF.1,by have:=hF.2.1; omega,hF.2.2⟩
  rw [if_pos hF']
  have h4:=hF'.2.1
  generalize (Zq m1.p xa).1=ch at hU h4 ⊢
  have hdl:(ch.drop 1).length=2:=by simp [h4]
  have d0:=drop1_gi (l:=ch) (i:=0) oo
  have d1:=drop1_gi (l:=ch) (i:=1) oo
  generalize hN:(gi m1.p (gi ch 0)).n=an
  have m2:∀ i,i < n1→H2 i=H1 i:=fun i hi=>by rw [s2 _ oo,Zj _ _ oo]
  have b2:H2 (n1+13)=some (.row [.int .i64 5,.int .i64 xn,.string xs,.int .i64 xa,.int .i64 xb] 0 true):=by rw [s2 _ oo]; exact Zf _ _ _
  have hc2:H2 c=some (.row [v,.int .i64 m1.a,.int .i64 m1.s,.int .i64 m1.e,.int .i64 m1.d,.int .i64 m1.t,.int .i64 m1.k,.int .i64 m1.r] 0 true):=by rw [m2 _ hcn1]; exact hc1
  have k0:=fun (cs:List Value)=>(hU.mv1 (H':=H2.set c (some (.row cs 0 true))) (hO c oo) (Nat.le_refl _) m0).iAll (i:=0) oo oo
  have k1:=fun (cs:List Value)=>(hU.mv1 (H':=H2.set c (some (.row cs 0 true))) (hO c oo) (Nat.le_refl _) m0).iAll (i:=1) oo oo
  rw [show gi (ch.drop 1) 0=gi ch 1 from d0] at k0
  rw [show gi (ch.drop 1) 1=gi ch 2 from d1] at k1
  refine W1 (A6 hc2 b2 ((k0 []).1) ((k1 []).1) (fun cs=>(k0 cs).2) (fun cs=>(k1 cs).2)) ?_
  refine Zp (kM83 (m:={ m1 with a:=an,s:=gi ch 1,e:=gi ch 2,d:=xb }) (hS1.to oo (Zf _ _ _) (mm m2) rfl) so _) ?_
  rintro _ H3 n3 q3 s3 ⟨rfl,v3,id3,i3,hS3⟩
  refine W0 trivial ?_
  exact Wp.pure ⟨so,(mm (A3 s3 m2 s1)),MRes.ok (hS3.mv so rfl rfl) (.inl oo)⟩
 ·have hF':¬ ((Zq m1.p xa).2=true∧(Zq m1.p xa).1.length=3∧(gi m1.p (gi (Zq m1.p xa).1 0)).k=3):=fun h=>hF ⟨h.1,by have:=h.2.1; omega,h.2.2⟩
  rw [if_neg hF']
  refine W0 trivial ?_
  exact Wp.pure ⟨so,(mm (A2 s2 s1)),MRes.er (hS1.mv so (mm s2) (mm s2)) (.inr rfl) (by decide)⟩
end Go.Proofs.YtcffcnipmgkjfaaGreat.Ax
set_option linter.unusedVariables false
set_option linter.unusedSimpArgs false
set_option maxHeartbeats 8000000
namespace Go.Proofs.YtcffcnipmgkjfaaGreat.Ax
open Go
theorem rep_set {p:Nat} {y:Int} {acc:List Int}:(List.replicate (p+1) (0:Int)++acc).set p y=List.replicate p 0++(y :: acc):=by
 rw [List.replicate_succ',List.append_assoc,List.set_append_right _ _ (by simp)]
 simp
theorem l89 {c id n0 cb ia:Nat} {H0:Hp} {v:Value} {m:Mc} (h:SM c id n0 H0 [] v m) {b:Nat} (hw:Wf b m) (k:Nat) (hk:k≤100) (next:Value) (hia:ia < n0) (hic:ia≠c) (hii:ia≠id) (hHa:H0 ia=some (.row ((List.replicate k (0:Int)).flatMap eInt.cells) 1 true)):∀ t n,n0≤n→t 1=ptr c 0→t 3=next→t 4=ptr cb 0→t 9=sl ia 0 k→t 10=.int .i64 ((k:Int) - 1) →
  Wp (Zi (S89L0 (Call Tryz.prog) Zi) t H0 n) (fun out=>n≤out.n∧(∀ i,i < n0→i≠c→i≠id→i≠ia→out.H i=H0 i)∧∃ s,SM c id out.n out.H [] v { m with s:=s }∧((out.e=.exit 0∧out.t 1=ptr c 0∧out.t 3=next∧out.t 4=ptr cb 0∧out.t 9=sl ia 0 k∧∃ acc,out.H ia=some (.row (acc.flatMap eInt.cells) 1 true)∧acc.length=k∧Wf b { m with s:=s }∧(∀ x∈acc,In m x)∧mTakes (k+1) m=(mTakes 1 { m with s:=s }).map (fun z=>(z.1++acc,z.2)))∨(out.e=.ret∧out.t 8=.int .i64 7∧mTakes (k+1) m=none))):=by
 intro t n hn0 e1 e3 e4 e9 e10
 refine Zs (fun d T H' n'=>∃ (s:Int) (acc:List Int),acc.length+d=k∧n≤n'∧(∀ i,i < n0→i≠c→i≠id→i≠ia→H' i=H0 i)∧SM c id n' H' [] v { m with s:=s }∧H' ia=some (.row ((List.replicate d (0:Int)++acc).flatMap eInt.cells) 1 true)∧Wf b { m with s:=s }∧(∀ x∈acc,In m x)∧T 1=ptr c 0∧T 3=next∧T 4=ptr cb 0∧T 9=sl ia 0 k∧T 10=.int .i64 ((d:Int) - 1)∧mTakes (k+1) m=(mTakes (d+1) { m with s:=s }).map (fun z=>(z.1++acc,z.2))) _ ?_ k t H0 n ⟨m.s,[],by simp,by omega,fun i _ _ _ _=>rfl,h.mv hn0 rfl rfl,by simpa using hHa,hw,fun x hx=>by simp at hx,e1,e3,e4,e9,e10,?_⟩
 case refine_2 =>
  show mTakes (k+1) m=_
  cases hM:mTakes (k+1) { m with s:=m.s } with
  | none=>rfl
  | some z=>simp
 rintro d T H' n' ⟨s,acc,hd,hn,hsm,hS,hHa',hwS,hin,e1,e3,e4,e9,e10,hT⟩
 unfold S89L0
 have hcn:=h.cn
 have hid:=h.idn
 cases d with
 | zero =>
  have hlt:¬ (0:Int)≤((0:Nat):Int) - 1:=by omega
  refine W0 (A3 e1 e10 hlt) ?_
  refine Wp.pure (Nxt.exit ⟨so,hsm,s,hS.mv so rfl rfl,.inl ⟨rfl,pp e1,pp e3,pp e4,pp e9,acc,by simpa using hHa',by omega,hwS,hin,hT⟩⟩)
 | succ d =>
  have hlt:(0:Int)≤((d+1:Nat):Int) - 1:=by omega
  have ed:((d+1:Nat):Int) - 1=(d:Int):=by omega
  refine W0 (A3 e1 e10 hlt) ?_
  refine Zp (k87 (hS.mv oo rfl rfl) hwS.s) ?_
  rintro r H1 n1 q1 s1 hR
  rw [mTakes_step (d:=d+1) (m:={ m with s:=s })] at hT
  cases hM:mTake { m with s:=s } with
  | none =>
   rw [hM] at hR hT
   obtain ⟨rfl,hS1⟩:=hR
   refine W0 trivial ?_
   exact Wp.pure (Nxt.ret ⟨so,(mm (A2 s1 hsm)),s,hS1.mv so rfl rfl,.inr ⟨rfl,p0,by rw [hT]; rfl⟩⟩)
  | some q =>
   obtain ⟨y,m1⟩:=q
   rw [hM] at hR hT
   obtain ⟨rfl,hS1⟩:=hR
   obtain ⟨hw1,hy,rfl⟩:=hwS.take hM
   have hHa1:H1 ia=some (.row ((List.replicate (d+1) (0:Int)++acc).flatMap eInt.cells) 1 true):=by rw [s1 _ oo hic hii]; exact hHa'
   have hdl:d < (List.replicate (d+1) (0:Int)++acc).length:=by simp; omega
   have ix:=idx_sl (sz:=1) (id:=ia) (k:=.i64) (show d < k by omega)
   rw [Nat.mul_one] at ix
   have st1:=st_el1 (E:=eInt) (H:=H1) (id:=ia) (l:=List.replicate (d+1) (0:Int)++acc) hHa1 (j:=d) hdl (y:=y) (c:=.int .i64 y) rfl rfl rfl
   rw [rep_set] at st1
   have w1:IntKind.i64.wrap ((d:Int) - 1)=(d:Int) - 1:=w64 oo
   refine W0 (A6 e9 e10 ed ix st1 w1) ?_
   refine Wp.pure (Nxt.go d oo ⟨(gi m.p s).b,y :: acc,by simp; omega,by omega,fun i h1 h2 h3 h4=>?_,hS1.mv oo (Zj _ _ (fun e=>hic e.symm)) (Zj _ _ (fun e=>hii e.symm)),Zf _ _ _,hw1,?_,pp e1,pp e3,pp e4,pp e9,p0,?_⟩)
   ·rw [Zj _ _ h4,s1 _ oo h2 h3]; exact hsm i h1 h2 h3 h4
   ·intro x hx
    rcases List.mem_cons.1 hx with hx | hx
    ·rw [hx]; exact hy
    ·exact hin x hx
   ·rw [hT]
    simp only [Option.bind_some]
    show Option.map _ (Option.map _ (mTakes (d+1) { m with s:=(gi m.p s).b }))=_
    cases mTakes (d+1) { m with s:=(gi m.p s).b } with
    | none=>rfl
    | some z=>simp
theorem k89 {n0 c id n:Nat} {H:Hp} {v x1 x2 x3:Value} {m:Mc} {l:List Nd} {li:List Ins} {ld:List Df} {b:Nat} (h:SM c id n H [] v m) (hw:Wf b m) (hb:b≤90000) (hC:Cd n0 H x1 x2 x3 l li ld) (hn0:n0≤c∧n0≤id) (hll:li.length≤400) (ha:0≤m.a∧m.a≤(li.length:Int) - 1) (hp:PoolOk m.p) (many:Int) (hm:0≤many∧many≤4) :
  RtA Tryz.prog 89 [.agg ⟨[x1,x2,x3]⟩,ptr c 0,.int .i64 many,.int .i64 (m.a+1)] c id H n (MRes (mCalling li.length many m) c id n []):=by
 apply RtA.of
 rw [c89]; unfold S89
 obtain ⟨k,rfl⟩:=Int.eq_ofNat_of_zero_le hm.1
 have hcn:=h.cn
 have hid:=h.idn
 have hne:=h.ne
 have hl:=hw.len
 have hmk:mks (n+3) 1 8 [.int .i64 0] (.int .i64 (k:Int)) (.int .i64 (k:Int)) (H.set n (some (.row [x1,x2,x3] 0 true)))=some (sl (n+3) 0 k,(H.set n (some (.row [x1,x2,x3] 0 true))).set (n+3) (some (.row ((List.replicate k (0:Int)).flatMap eInt.cells) 1 true))):=mks_new eInt 0 _ (by decide) oo
 have wM:IntKind.i64.wrap ((k:Int) - 1)=(k:Int) - 1:=w64 oo
 have hcalling:mCalling li.length (k:Int) m=if ¬ m.a+1 < (li.length:Int) then .error 7 else match mTakes (k+1) m with
  | none=>.error 7
  | some (vs,m1)=>mCall li.length (m.a+1) 3 (gi vs 0) (vs.drop 1) m1:=rfl
 refine W1 (A2 hmk wM) ?_
 refine Wp.bind (l89 (n0:=n+8) (cb:=n) (ia:=n+3) (H0:=(H.set n (some (.row [x1,x2,x3] 0 true))).set (n+3) (some (.row ((List.replicate k (0:Int)).flatMap eInt.cells) 1 true))) (h.mv oo m0 m0) hw k oo (.int .i64 (m.a+1)) oo oo oo (Zf _ _ _) _ _ oo pa pa p0 p0 p0) ?_
 rintro ⟨oe,ot,oH,on⟩ ⟨f1,f2,s,f3,f4⟩
 simp only at f1 f2 f3 f4
 have hmO:∀ i,i < n→i≠c→i≠id→oH i=H i:=fun i h1 h2 h3=>by rw [f2 _ oo h2 h3 oo,Zj _ _ oo,Zj _ _ oo]
 rcases f4 with ⟨rfl,g1,g3,g4,g9,acc,i3,i4,i5,i6,i7⟩ | ⟨rfl,f5,f6⟩
 ·refine W0 g1 ?_
  refine Zp (k87 (f3.mv oo rfl rfl) i5.s) ?_
  rintro r H1 n1 q1 s1 hR
  rw [show mTakes 1 { m with s:=s }=_ from mTakes_step (d:=0) (m:={ m with s:=s })] at i7
  have b1:H1 n=some (.row [x1,x2,x3] 0 true):=by rw [s1 _ oo oo oo,f2 _ oo oo oo oo,Zj _ _ oo]; exact Zf _ _ _
  have hil:=hC.i.len
  cases hM:mTake { m with s:=s } with
  | none =>
   rw [hM] at hR i7
   obtain ⟨rfl,hS1⟩:=hR
   have hE:mCalling li.length (k:Int) m=.error 7:=by
    rw [hcalling,i7]
    split <;> rfl
   rw [hE]
   refine W0 (A3 g1 g3 g4) ?_
   exact Wp.pure ⟨so,(mm (A2 s1 hmO)),MRes.er (hS1.mv so rfl rfl) (.inr rfl) (by decide)⟩
  | some q =>
   obtain ⟨y,m1⟩:=q
   rw [hM] at hR i7
   obtain ⟨rfl,hS1⟩:=hR
   obtain ⟨hw1,hy,rfl⟩:=i5.take hM
   have i8:mTakes (k+1) m=some (y :: acc,{ m with s:=(gi m.p s).b }):=by rw [i7]; rfl
   by_cases c2:m.a+1 < (li.length:Int)
   case neg =>
    have hE:mCalling li.length (k:Int) m=.error 7:=by
     rw [hcalling,if_pos c2]
    rw [hE]
    refine W1 (A6 g1 g3 g4 b1 hil (show (li.length:Int)≤m.a+1 by omega)) ?_
    exact Wp.pure ⟨so,(mm (A2 s1 hmO)),MRes.er (hS1.mv so rfl rfl) (.inr rfl) (by decide)⟩
   have hE:mCalling li.length (k:Int) m=mCall li.length (m.a+1) 3 y acc { m with s:=(gi m.p s).b }:=by
    rw [hcalling,if_neg (fun h=>h c2),i8]; rfl
   rw [hE]
   have hat:At eInt (n+3) H1 (sl (n+3) 0 k) acc:=.inr ⟨by rw [i4],by rw [s1 _ oo oo oo]; exact i3⟩
   have hm1:∀ i,i < n→i≠c→i≠id→H1 i=H i:=fun i h1 h2 h3=>by rw [s1 _ oo h2 h3]; exact hmO i h1 h2 h3
   refine W1 (A7 g1 g3 g4 g9 b1 hil (show ¬ (li.length:Int)≤m.a+1 by omega)) ?_
   refine Zp (k120 (m:={ m with s:=(gi m.p s).b }) ⟨hS1.mv oo rfl rfl,hw1,by omega,hC.mv (fun i hi=>hm1 i oo oo oo),hn0,hll,so,hat.lst oo,Off.sl oo,Off.sl oo,by omega,i6,fun _=>hp⟩ hb y hy) ?_
   rintro _ H5 n5 q5 s5 ⟨q,m',v',id',rfl,e2,e3,e4⟩
   refine W0 trivial ?_
   exact Wp.pure ⟨so,(mm (A2 s5 hm1)),q,m',v',id',rfl,by omega,e3,e4⟩
 ·have hE:mCalling li.length (k:Int) m=.error 7:=by
   rw [hcalling,f6]
   split <;> rfl
  rw [hE]
  refine W0 f5 ?_
  exact Wp.pure ⟨so,hmO,by simp only [f5]; exact MRes.er f3 (.inr rfl) (by decide)⟩
end Go.Proofs.YtcffcnipmgkjfaaGreat.Ax
set_option linter.unusedVariables false
set_option linter.unusedSimpArgs false
set_option maxHeartbeats 8000000
namespace Go.Proofs.YtcffcnipmgkjfaaGreat.Ax
open Go
def DoR (c id n:Nat) (H:Hp) (res:MR) (o:Out):Prop :=
 n≤o.n∧(∀ i,i < n→i≠c→i≠id→o.H i=H i)∧∃ m' v' id',(n≤id'∨id'=id)∧SM c id' o.n o.H [] v' m' ∧
  ((o.e=.normal∧o.t 1=ptr c 0∧∃ nx,o.t 7=.int .i64 nx∧res=.ok { m' with a:=nx })∨(o.e=.ret∧∃ q,o.t 6=.int .i64 q∧(match res with | .ok m1=>q=0∧m'=m1 | .error h=>q=h∧h≠0)))
def doM (l:List Nd) (li:List Ins) (ld:List Df) (x:Ins) (m:Mc):MR:=if x.op=7 then mCalling li.length x.i m else if x.op=8 then mBack m else mPlain l ld x m
theorem k52 {n0 c id n:Nat} {H:Hp} {v x1 x2 x3:Value} {m:Mc} {l:List Nd} {li:List Ins} {ld:List Df} {b:Nat} (h:SM c id n H [] v m) (hw:Wf b m) (hb:b≤3000) (hC:Cd n0 H x1 x2 x3 l li ld) (hn0:n0≤c∧n0≤id) (hk:CodeOk l li ld) (hp:PoolOk m.p) (x:Ins) (ha:0≤m.a∧m.a≤(li.length:Int) - 1) (hx:InsOk x l.length li.length m.a) :
  RtA Tryz.prog 52 [.agg ⟨[x1,x2,x3]⟩,ptr c 0,.agg ⟨x.cells⟩] c id H n (MRes (doM l li ld x m) c id n []):=by
 apply RtA.of
 rw [c52]; unfold S52
 have hll:=hk.2.1
 have hlp:=hk.1.2
 have hrg:=hx.rng oo oo ha.1
 have hc:H c=some (.row [v,.int .i64 m.a,.int .i64 m.s,.int .i64 m.e,.int .i64 m.d,.int .i64 m.t,.int .i64 m.k,.int .i64 m.r] 0 true):=h.hc
 have hcn:=h.cn
 have hid:=h.idn
 have hne:=h.ne
 have hl:=hw.len
 have wA:IntKind.i64.wrap (m.a+1)=m.a+1:=w64 oo
 generalize hres:doM l li ld x m=res
 unfold doM mPlain at hres
 obtain ⟨xo,xn,xi,xs⟩:=x
 simp only at hrg hres
 refine W1 (A3 @Ins.cells.eq_1 hc wA) ?_
 generalize hH1:(H.set n (some (.row [x1,x2,x3] 0 true))).set (n+1) (some (.row [.int .i64 xo,.int .i64 xn,.int .i64 xi,.string xs] 0 true))=H1
 have s1:∀ i,i < n→H1 i=H i:=fun i hi=>by rw [← hH1]; simp (disch:=omega) only [Zj]
 have ba:H1 n=some (.row [x1,x2,x3] 0 true):=by rw [← hH1,Zj _ _ oo]; exact Zf _ _ _
 have bb:H1 (n+1)=some (.row [.int .i64 xo,.int .i64 xn,.int .i64 xi,.string xs] 0 true):=by rw [← hH1]; exact Zf _ _ _
 have hc1:H1 c=some (.row [v,.int .i64 m.a,.int .i64 m.s,.int .i64 m.e,.int .i64 m.d,.int .i64 m.t,.int .i64 m.k,.int .i64 m.r] 0 true):=by rw [s1 _ hcn]; exact hc
 clear hH1
 have hS1:∀ k,n≤k→SM c id k H1 [] v m:=fun k hk=>h.mv hk (s1 _ hcn) (s1 _ hid)
 have hC1:Cd n0 H1 x1 x2 x3 l li ld:=hC.mv (fun i hi=>s1 i oo)
 refine Wp.bind (R:=DoR c id n H res) ?_ ?_
 ·by_cases c1:xo=1
  ·rw [decide_eq_true c1]
   rw [if_neg oo,if_neg oo,if_pos c1] at hres
   rw [c1] at bb
   have hxn:0≤xn∧xn < (l.length:Int):=by
    rcases hx with hx | hx | hx | hx | hx | hx | hx <;> simp only at hx <;> omega
   have hcl:=cpRun_len m.p l xn
   refine W1 (A2 ba bb) ?_
   refine Zp (k84 (hS1 _ oo) (hC1.p.up oo) (hC1.p.off oo) (hC1.p.off oo) hk.1 xn hxn oo) ?_
   rintro _ H2 n2 q2 s2 ⟨rfl,v2,id2,i2,hS2⟩
   refine W0 trivial ?_
   refine Zp (kM83 (m:={ m with p:=(cpRun m.p l xn).1 }) (hS2.mv oo rfl rfl) so _) ?_
   rintro _ H3 n3 q3 s3 ⟨rfl,v3,id3,i3,hS3⟩
   refine W0 trivial ?_
   have hi2:n≤id2∨id2=id:=by omega
   exact Wp.pure ⟨so,fun i a1 a2 a3=>by simp only; rw [s3 i oo a2 oo,s2 i oo a2 a3,s1 _ a1],_,v3,id3,.inl (by have:=hS2.idn; omega),hS3,.inl ⟨rfl,pa,m.a+1,p0,hres.symm⟩⟩
  rw [decide_eq_false c1]
  by_cases c2:xo=2
  ·rw [if_neg oo,if_neg oo,if_neg c1,if_pos c2] at hres
   have hx20:xn≤20∧xi≤3:=by
    rcases hx with hx | hx | hx | hx | hx | hx | hx <;> simp only at hx <;> omega
   rw [c2] at bb ⊢
   refine W1 (A3 ba bb hc1) ?_
   refine Zu (k85 ((hS1 _ oo).li) hw xn oo m.e hw.e) ?_
   intro H2 n2 q2 s2
   unfold mVar at hres
   cases hF:mNth m.p xn.toNat m.e with
   | none =>
    rw [hF] at hres
    refine W0 (A2 @nthV.eq_1 @nthV.eq_2) ?_
    exact Wp.pure ⟨so,(mm (A2 s2 s1)),m,v,id,.inr rfl,(hS1 n (Nat.le_refl _)).mv so (mm s2) (mm s2),.inr ⟨rfl,7,p0,by rw [← hres]; exact ⟨rfl,by decide⟩⟩⟩
   | some f =>
    rw [hF] at hres
    simp only at hres
    have hf:=mNth_rng hw _ _ hw.e _ hF
    refine W1 (A5 @nthV.eq_1 @nthV.eq_2 s2 hc1 bb) ?_
    refine Zu (k85 ((hS1 n (Nat.le_refl _)).li.mv oo (mm s2)) hw xi oo f hf) ?_
    intro H3 n3 q3 s3
    cases hG:mNth m.p xi.toNat f with
    | none =>
     rw [hG] at hres
     refine W0 (A2 @nthV.eq_1 @nthV.eq_2) ?_
     exact Wp.pure ⟨so,(mm (A3 s3 s2 s1)),m,v,id,.inr rfl,(hS1 n (Nat.le_refl _)).mv so (mm (A2 s3 s2)) (mm (A2 s3 s2)),.inr ⟨rfl,7,p0,by rw [← hres]; exact ⟨rfl,by decide⟩⟩⟩
    | some y =>
     rw [hG] at hres
     refine W0 (A2 @nthV.eq_1 @nthV.eq_2) ?_
     refine Zp (kM83 ((hS1 n (Nat.le_refl _)).mv oo (mm (A2 s3 s2)) (mm (A2 s3 s2))) oo y) ?_
     rintro _ H4 n4 q4 s4 ⟨rfl,v4,id4,i4,hS4⟩
     refine W0 trivial ?_
     exact Wp.pure ⟨so,(mm (A4 s4 s3 s2 s1)),_,v4,id4,.inl oo,hS4,.inl ⟨rfl,pa,m.a+1,p0,hres.symm⟩⟩
  by_cases c3:xo=3
  ·rw [if_neg oo,if_neg oo,if_neg c1,if_neg c2,if_pos c3] at hres
   rw [c3] at bb ⊢
   refine W1 (A3 ba bb (show ¬ (3:Int)=2 by decide)) ?_
   refine Zp (k86 (hS1 _ oo) oo hC1 hn0 hk xs) ?_
   rintro _ H2 n2 q2 s2 ⟨q,m',v',id',rfl,e2,e3,e4⟩
   cases hG:mGlobal ld xs m with
   | ok m1 =>
    rw [hG] at e4 hres
    obtain ⟨rfl,rfl⟩:=e4
    refine W0 trivial ?_
    exact Wp.pure ⟨so,(mm (A2 s2 s1)),m',v',id',by omega,e3.mv so rfl rfl,.inl ⟨rfl,pa,m.a+1,p0,hres.symm⟩⟩
   | error g =>
    rw [hG] at e4 hres
    obtain ⟨rfl,hq⟩:=e4
    refine W0 hq ?_
    exact Wp.pure ⟨so,(mm (A2 s2 s1)),m',v',id',by omega,e3.mv so rfl rfl,.inr ⟨rfl,q,p0,by rw [← hres]; exact ⟨rfl,hq⟩⟩⟩
  by_cases c4:xo=4
  ·rw [if_neg oo,if_neg oo,if_neg c1,if_neg c2,if_neg c3,if_neg oo,if_neg oo] at hres
   rw [c4] at bb hres ⊢
   refine W1 (A2 (show ¬ (4:Int)=2 by decide) (show ¬ (4:Int)=3 by decide)) ?_
   refine Zp (k87 (hS1 _ oo) hw.s) ?_
   rintro r H2 n2 q2 s2 hR
   cases hM:mTake m with
   | none =>
    rw [hM] at hR hres
    obtain ⟨rfl,hS2⟩:=hR
    refine W0 trivial ?_
    exact Wp.pure ⟨so,(mm (A2 s2 s1)),m,v,id,.inr rfl,hS2.mv so rfl rfl,.inr ⟨rfl,7,p0,by rw [← hres]; exact ⟨rfl,by decide⟩⟩⟩
   | some q =>
    obtain ⟨y,m1⟩:=q
    rw [hM] at hR hres
    obtain ⟨rfl,hS2⟩:=hR
    obtain ⟨hw1,hy,ep⟩:=hw.take hM
    have hy1:In m1 y:=by rw [ep]; exact hy
    simp only [true_and] at hres
    have hc2:H2 c=some (.row [v,.int .i64 m1.a,.int .i64 m1.s,.int .i64 m1.e,.int .i64 m1.d,.int .i64 m1.t,.int .i64 m1.k,.int .i64 m1.r] 0 true):=hS2.hc
    have hid2:=hS2.idn
    have hcn2:=hS2.cn
    have gy:=hS2.li.nAll hy1.1 hy1.2
    have b2:H2 (n+1)=some (.row [.int .i64 4,.int .i64 xn,.int .i64 xi,.string xs] 0 true):=by rw [s2 _ oo oo oo]; exact bb
    generalize gi m1.p y=z at gy hres
    obtain ⟨zk,zn,zs,za,zb⟩:=z
    simp only [Nd.cells] at gy hres
    have hS3:∀ n',n2≤n'→SM c id n' (H2.set (n2+10) (some (.row [.int .i64 zk,.int .i64 zn,.string zs,.int .i64 za,.int .i64 zb] 0 true))) [] v m1:=fun n' hn'=>hS2.mv hn' (Zj _ _ oo) (Zj _ _ oo)
    have hm3:∀ i,i < n→i≠c→i≠id→(H2.set (n2+10) (some (.row [.int .i64 zk,.int .i64 zn,.string zs,.int .i64 za,.int .i64 zb] 0 true))) i=H i:=fun i a1 a2 a3=>by rw [Zj _ _ oo,s2 i oo a2 a3,s1 _ a1]
    by_cases z2:zk=2
    ·by_cases z0:zn=0
     ·rw [if_pos ⟨z2,z0⟩] at hres
      rw [z2,z0] at gy hS3 hm3
      refine W1 (A3 hc2 gy b2) ?_
      exact Wp.pure ⟨so,hm3,m1,v,id,.inr rfl,hS3 _ so,.inl ⟨rfl,pa,xn,p0,hres.symm⟩⟩
     ·rw [if_neg (fun h=>z0 h.2)] at hres
      rw [z2] at gy hS3 hm3
      refine W1 (A4 hc2 gy b2 z0) ?_
      exact Wp.pure ⟨so,hm3,m1,v,id,.inr rfl,hS3 _ so,.inl ⟨rfl,pa,m.a+1,p0,hres.symm⟩⟩
    ·rw [if_neg (fun h=>z2 h.1)] at hres
     refine W1 (A4 hc2 gy b2 z2) ?_
     exact Wp.pure ⟨so,hm3,m1,v,id,.inr rfl,hS3 _ so,.inl ⟨rfl,pa,m.a+1,p0,hres.symm⟩⟩
  by_cases c5:xo=5
  ·rw [if_neg oo,if_neg oo,if_neg c1,if_neg c2,if_neg c3,if_pos c5] at hres
   rw [c5] at bb ⊢
   refine W1 (A4 bb (show ¬ (5:Int)=2 by decide) (show ¬ (5:Int)=3 by decide) (show ¬ (5:Int)=4 by decide)) ?_
   exact Wp.pure ⟨so,(mm s1),m,v,id,.inr rfl,hS1 _ so,.inl ⟨rfl,pa,xn,p0,hres.symm⟩⟩
  by_cases c6:xo=6
  ·rw [if_neg oo,if_neg oo,if_neg c1,if_neg c2,if_neg c3,if_neg c5,if_pos c6] at hres
   rw [c6] at bb ⊢
   have w1:IntKind.i64.wrap (8 * xn)=8 * xn:=w64 oo
   have w2:IntKind.i64.wrap (8 * xn+xi)=8 * xn+xi:=w64 oo
   refine W1 (A8 bb (show ¬ (6:Int)=2 by decide) (show ¬ (6:Int)=3 by decide) (show ¬ (6:Int)=4 by decide) (show ¬ (6:Int)=5 by decide) hc1 w1 w2) ?_
   refine Zp ((hS1 _ oo).addS oo (ndFun (8 * xn+xi) m.e)) ?_
   rintro _ H2 n2 q2 s2 ⟨rfl,v2,id2,i2,hS2⟩
   refine W0 trivial ?_
   refine Zp (kM83 (m:=m.add [ndFun (8 * xn+xi) m.e]) (hS2.mv oo rfl rfl) (by have:=addLen m [ndFun (8 * xn+xi) m.e]; simp only [List.length_cons,List.length_nil] at this; omega) _) ?_
   rintro _ H3 n3 q3 s3 ⟨rfl,v3,id3,i3,hS3⟩
   refine W0 trivial ?_
   exact Wp.pure ⟨so,(mm (A3 s3 s2 s1)),_,v3,id3,.inl oo,hS3,.inl ⟨rfl,pa,m.a+1,p0,hres.symm⟩⟩
  by_cases c7:xo=7
  ·rw [if_pos c7] at hres
   have hxi:0≤xi∧xi≤4:=hrg.2.2
   rw [c7] at bb ⊢
   refine W1 (A7 ba bb (show ¬ (7:Int)=2 by decide) (show ¬ (7:Int)=3 by decide) (show ¬ (7:Int)=4 by decide) (show ¬ (7:Int)=5 by decide) (show ¬ (7:Int)=6 by decide)) ?_
   refine Zp (k89 (hS1 _ oo) hw oo hC1 hn0 hll ha hp xi hxi) ?_
   rintro _ H2 n2 q2 s2 ⟨q,m',v',id',rfl,e2,e3,e4⟩
   refine W0 trivial ?_
   exact Wp.pure ⟨so,(mm (A2 s2 s1)),m',v',id',by omega,e3,.inr ⟨rfl,q,p0,by rw [← hres]; exact e4⟩⟩
  by_cases c8:xo=8
  ·rw [if_neg c7,if_pos c8] at hres
   rw [c8] at bb ⊢
   refine W1 (A8 ba bb (show ¬ (8:Int)=2 by decide) (show ¬ (8:Int)=3 by decide) (show ¬ (8:Int)=4 by decide) (show ¬ (8:Int)=5 by decide) (show ¬ (8:Int)=6 by decide) (show ¬ (8:Int)=7 by decide)) ?_
   refine Zp (k90 (hS1 _ oo) hw oo) ?_
   rintro _ H2 n2 q2 s2 ⟨q,m',v',id',rfl,e2,e3,e4⟩
   refine W0 trivial ?_
   exact Wp.pure ⟨so,(mm (A2 s2 s1)),m',v',id',by omega,e3,.inr ⟨rfl,q,p0,by rw [← hres]; exact e4⟩⟩
  rw [if_neg c7,if_neg c8,if_neg c1,if_neg c2,if_neg c3,if_neg c5,if_neg c6] at hres
  have c9:xo=9:=by
   rcases hx with hx | hx | hx | hx | hx | hx | hx <;> simp only at hx <;> omega
  rw [c9] at bb hres ⊢
  refine W1 (A8 ba bb (show ¬ (9:Int)=2 by decide) (show ¬ (9:Int)=3 by decide) (show ¬ (9:Int)=4 by decide) (show ¬ (9:Int)=5 by decide) (show ¬ (9:Int)=6 by decide) (A2 (show ¬ (9:Int)=7 by decide) (show ¬ (9:Int)=8 by decide))) ?_
  refine Zp (k87 (hS1 _ oo) hw.s) ?_
  rintro r H2 n2 q2 s2 hR
  cases hM:mTake m with
  | none =>
   rw [hM] at hR hres
   obtain ⟨rfl,hS2⟩:=hR
   refine W0 trivial ?_
   exact Wp.pure ⟨so,(mm (A2 s2 s1)),m,v,id,.inr rfl,hS2.mv so rfl rfl,.inr ⟨rfl,7,p0,by rw [← hres]; exact ⟨rfl,by decide⟩⟩⟩
  | some q =>
   obtain ⟨y,m1⟩:=q
   rw [hM] at hR hres
   obtain ⟨rfl,hS2⟩:=hR
   simp only at hres
   rw [if_neg (fun h=>absurd h.1 (by decide))] at hres
   refine W0 trivial ?_
   exact Wp.pure ⟨so,(mm (A2 s2 s1)),m1,v,id,.inr rfl,hS2.mv so rfl rfl,.inl ⟨rfl,pa,m.a+1,p0,hres.symm⟩⟩
 ·rintro ⟨oe,ot,oH,on⟩ ⟨f1,f2,m',v',id',f3,f4,f5⟩
  simp only at f1 f2 f3 f4 f5
  have hc3:oH c=some (.row [v',.int .i64 m'.a,.int .i64 m'.s,.int .i64 m'.e,.int .i64 m'.d,.int .i64 m'.t,.int .i64 m'.k,.int .i64 m'.r] 0 true):=f4.hc
  rcases f5 with ⟨rfl,g0,nx,g5,hr⟩ | ⟨rfl,q,g6,hr⟩
  ·rw [hr]
   refine W1 (A3 g0 g5 hc3) ?_
   exact Wp.pure ⟨so,fun i a1 a2 a3=>by simp only; rw [Zj _ _ a2]; exact f2 i a1 a2 a3,MRes.ok (f4.to (m':={ m' with a:=nx }) so (Zf _ _ _) (Zj _ _ f4.ne) rfl) f3⟩
  ·refine W0 g6 ?_
   refine Wp.pure ⟨so,f2,?_⟩
   simp only [g6]
   exact ⟨q,m',v',id',rfl,f3,f4,hr⟩
end Go.Proofs.YtcffcnipmgkjfaaGreat.Ax
set_option linter.unusedVariables false
set_option linter.unusedSimpArgs false
set_option maxHeartbeats 8000000
namespace Go.Proofs.YtcffcnipmgkjfaaGreat.Ax
open Go
theorem k24 {n:Nat} {H:Hp} {v x1 x2 x3:Value} {m:Mc} {l:List Nd} {li:List Ins} {ld:List Df} (hm:Li eNode n H v m.p) (hC:Cd n H x1 x2 x3 l li ld) (hM:MOk l li ld m) :
  RtN Tryz.prog 24 [.agg ⟨[x1,x2,x3]⟩,mcV v m] H n (fun w H' n'=>∃ u,w=mcV u (mEnd li.length m (mRaw l li ld m))∧New eNode n n' H' u (mEnd li.length m (mRaw l li ld m)).p):=by
 apply RtN.mk
 rw [c24]; unfold S24
 have hll:=hM.k.2.1
 have ha:=hM.a
 have hpl:=hM.w.len
 have hins:=hM.ins
 refine W1 trivial ?_
 refine Wp.rtn (k23 (hm.mv oo m0) oo m.a m.s m.e m.d m.t m.k m.r) ?_
 rintro _ H1 n1 q1 s1 ⟨u,rfl,id,i1,i2,i3⟩
 generalize hM0:H1.set (n+5) (some (.row [nilS,.int .i64 0,.int .i64 0,.int .i64 0,.int .i64 0,.int .i64 0,.int .i64 0,.int .i64 0] 0 true))=M0
 have gi1:=(hC.i.mv (H':=H1.set (n+5) (some (.row [u,.int .i64 m.a,.int .i64 m.s,.int .i64 m.e,.int .i64 m.d,.int .i64 m.t,.int .i64 m.k,.int .i64 m.r] 0 true))) (Nat.le_refl _) (mm s1)).sAll (i:=m.a) ha.1 oo
 have hS0:SM (n+5) id n1 (H1.set (n+5) (some (.row [u,.int .i64 m.a,.int .i64 m.s,.int .i64 m.e,.int .i64 m.d,.int .i64 m.t,.int .i64 m.k,.int .i64 m.r] 0 true))) [] u m:=⟨Zf _ _ _,rfl,i3.mv (Zj _ _ oo),by omega,by omega,by omega⟩
 have hres:mRaw l li ld m=doM l li ld (gi li m.a) m:=rfl
 generalize gi li m.a=x at gi1 hins hres
 obtain ⟨xo,xn,xi,xs⟩:=x
 simp only [Ins.cells] at gi1
 subst hM0
 refine W1 (A2 s1 gi1) ?_
 refine Zp (k52 (hS0.mv oo rfl rfl) hM.w oo (hC.mv (mm s1)) ⟨by omega,by omega⟩ hM.k hM.p ⟨xo,xn,xi,xs⟩ ha hins) ?_
 rintro _ H2 n2 q2 s2 ⟨q,m',v',id',rfl,e2,hS,hR⟩
 rw [← hres] at hR
 have hm2:∀ i,i < n+5→H2 i=((((H.set n (some (.row [x1,x2,x3] 0 true))).set (n+1) (some (.row [v,.int .i64 m.a,.int .i64 m.s,.int .i64 m.e,.int .i64 m.d,.int .i64 m.t,.int .i64 m.k,.int .i64 m.r] 0 true))).set (n+2) (some (.row [nilS,.int .i64 0,.int .i64 0,.int .i64 0,.int .i64 0,.int .i64 0,.int .i64 0,.int .i64 0] 0 true)))) i:=fun i hi=>by rw [s2 _ oo oo oo,Zj _ _ oo,s1 _ oo]
 have hb0:H2 n=some (.row [x1,x2,x3] 0 true):=by rw [hm2 _ oo]; simp (disch:=omega) only [Zj,Zf]
 have hb1:H2 (n+1)=some (.row [v,.int .i64 m.a,.int .i64 m.s,.int .i64 m.e,.int .i64 m.d,.int .i64 m.t,.int .i64 m.k,.int .i64 m.r] 0 true):=by rw [hm2 _ oo]; simp (disch:=omega) only [Zj,Zf]
 have hb2:H2 (n+2)=some (.row [nilS,.int .i64 0,.int .i64 0,.int .i64 0,.int .i64 0,.int .i64 0,.int .i64 0,.int .i64 0] 0 true):=by rw [hm2 _ oo]; simp (disch:=omega) only [Zj,Zf]
 have hbm:∀ i,i < n→H2 i=H i:=fun i hi=>by rw [hm2 _ oo]; simp (disch:=omega) only [Zj,Zf]
 have hc':H2 (n+5)=some (.row [v',.int .i64 m'.a,.int .i64 m'.s,.int .i64 m'.e,.int .i64 m'.d,.int .i64 m'.t,.int .i64 m'.k,.int .i64 m'.r] 0 true):=hS.hc
 have hid':=hS.idn
 have hlv:=hS.li.len
 have hil:=hC.i.len
 have wL:IntKind.i64.wrap ((li.length:Int) - 1)=(li.length:Int) - 1:=w64 oo
 cases hX:mRaw l li ld m with
 | error e =>
  rw [hX] at hR
  obtain ⟨rfl,hq⟩:=hR
  rw [show mEnd li.length m (.error q)=mFail m q from rfl]
  refine W1 (A2 hq hb1) ?_
  refine Wp.rtn (k53 (hm.mv oo hbm) oo m.a m.s m.e m.d m.t m.k m.r q) ?_
  rintro _ H5 n5 q5 s5 ⟨u5,rfl,id5,j1,j2,j3⟩
  refine W1 (A2 s5 hb2) ?_
  exact Wp.pure ⟨so,(mm (A2 s5 hbm)),u5,rfl,id5,by omega,so,j3.mv m0⟩
 | ok m1 =>
  rw [hX] at hR
  obtain ⟨rfl,rfl⟩:=hR
  unfold mEnd
  simp only
  by_cases c8:0≤m'.a∧m'.a≤(li.length:Int) - 1
  case neg =>
   rw [if_pos c8]
   refine W1 (A7 hc' hb0 hil wL @k47 c8 hb1) ?_
   refine Wp.rtn (k53 (hm.mv oo hbm) oo m.a m.s m.e m.d m.t m.k m.r 7) ?_
   rintro _ H5 n5 q5 s5 ⟨u5,rfl,id5,j1,j2,j3⟩
   refine W1 (A2 s5 hb2) ?_
   exact Wp.pure ⟨so,(mm (A2 s5 hbm)),u5,rfl,id5,by omega,so,j3.mv m0⟩
  rw [if_neg (fun h=>h c8)]
  by_cases c9:3000 < m'.p.length
  ·rw [if_pos c9]
   have c9i:(3000:Int) < (m'.p.length:Int):=by omega
   refine W1 (A8 hc' hb0 hil wL @k47 c8 @and_self (A3 hlv c9i hb1)) ?_
   refine Wp.rtn (k53 (hm.mv oo hbm) oo m.a m.s m.e m.d m.t m.k m.r 6) ?_
   rintro _ H5 n5 q5 s5 ⟨u5,rfl,id5,j1,j2,j3⟩
   refine W1 (A2 s5 hb2) ?_
   exact Wp.pure ⟨so,(mm (A2 s5 hbm)),u5,rfl,id5,by omega,so,j3.mv m0⟩
  ·rw [if_neg c9]
   have c9i:¬ (3000:Int) < (m'.p.length:Int):=by omega
   refine W1 (A8 hc' hb0 hil wL @k47 c8 @and_self (A3 hlv c9i hb2)) ?_
   exact Wp.pure ⟨so,(mm hbm),v',rfl,id',by omega,so,hS.at_.mv m0⟩
theorem mEnd_len (n:Int) (m:Mc) (r:MR):(mEnd n m r).p.length≤max m.p.length 3000:=by
 unfold mEnd
 cases r with
 | error h=>exact Nat.le_max_left _ _
 | ok m1 =>
  simp only
  split
  ·exact Nat.le_max_left _ _
  ·split
   ·exact Nat.le_max_left _ _
   ·rename_i h; omega
theorem stepM_len (l:List Nd) (li:List Ins) (ld:List Df) (m:Mc) (h:m.p.length≤1048576):(stepM l li ld m).p.length≤1048576:=by
 unfold stepM
 split
 ·simp
 ·split
  ·exact h
  ·have:=mEnd_len li.length m (mRaw l li ld m); omega
theorem k7 {n:Nat} {H:Hp} {v vl vd vm:Value} {l m:List Nd} {li:List Ins} {ld:List Df} (hv:Li eNode n H v l) (hvl:Li eIns n H vl li) (hvd:Li eDef n H vd ld) (hs:∀ x∈l,x.s.size≤1048576) (hsl:∀ x∈li,x.s.size≤1048576) (hsd:∀ x∈ld,x.s.size≤1048576) (hl:l.length≤1048576) (hll:li.length≤1048576) (hld:ld.length≤1048576) (hm:Li eNode n H vm m) (hsm:∀ x∈m,x.s.size≤1048576) (hlm:m.length≤1048576) (a s e d t k r:Int) :
  RtN Tryz.prog 7 [.agg ⟨[v,vl,vd]⟩,.agg ⟨[vm,.int .i64 a,.int .i64 s,.int .i64 e,.int .i64 d,.int .i64 t,.int .i64 k,.int .i64 r]⟩] H n (fun w H' n'=>∃ u,w=mcV u (stepM l li ld ⟨m,a,s,e,d,t,k,r⟩)∧New eNode n n' H' u (stepM l li ld ⟨m,a,s,e,d,t,k,r⟩).p):=by
 apply RtN.mk
 rw [c7]; unfold S7
 refine W1 trivial ?_
 refine Zu (k19 (hv.mv oo m0) (hvl.mv oo m0) (hvd.mv oo m0) hs hsl hsd hl hll hld (hm.mv oo m0) hsm hlm a s e d t k r) ?_
 intro H1 n1 q1 s1
 by_cases hok:MachOk l li ld m a s e d t k r
 case neg =>
  have hA:(stepM l li ld ⟨m,a,s,e,d,t,k,r⟩)=⟨[],0,0,0,0,3,7,0⟩:=by unfold stepM; rw [if_pos hok]
  rw [hA]
  refine W1 (A2 s1 hok) ?_
  exact Wp.pure ⟨so,(mm s1),nilS,rfl,⟨n,by omega,so,At.nil⟩⟩
 by_cases ht:t=0
 case neg =>
  have hA:(stepM l li ld ⟨m,a,s,e,d,t,k,r⟩)=⟨m,a,s,e,d,t,k,r⟩:=by unfold stepM; rw [if_neg (fun h=>h hok),if_pos ht]
  rw [hA]
  refine W1 (A3 s1 hok ht) ?_
  refine Wp.rtn (k23 (hm.mv oo (mm s1)) hlm a s e d t k r) ?_
  rintro _ Hz nz qz sz ⟨u,rfl,id,i1,i2,i3⟩
  refine W1 (A2 sz s1) ?_
  exact Wp.pure ⟨so,(mm (A2 sz s1)),u,rfl,⟨id,by omega,so,i3.mv m0⟩⟩
 have hA:(stepM l li ld ⟨m,a,s,e,d,t,k,r⟩)=mEnd li.length ⟨m,a,s,e,d,t,k,r⟩ (mRaw l li ld ⟨m,a,s,e,d,t,k,r⟩):=by unfold stepM; rw [if_neg (fun h=>h hok),if_neg (fun h=>h ht)]
 rw [hA]
 have hmo:MOk l li ld ⟨m,a,s,e,d,t,k,r⟩:=MachOk.mok (m:=⟨m,a,s,e,d,t,k,r⟩) hok ht
 generalize hX:mEnd _ _ _=X
 subst ht
 refine W1 (A2 s1 hok) ?_
 refine Wp.rtn (k24 (m:=⟨m,a,s,e,d,0,k,r⟩) (hm.mv oo (mm s1)) ⟨hv.mv oo (mm s1),hvl.mv oo (mm s1),hvd.mv oo (mm s1)⟩ hmo) ?_
 rintro _ Hz nz qz sz ⟨u,rfl,id,i1,i2,i3⟩
 rw [hX] at i3 ⊢
 refine W1 (A2 sz s1) ?_
 exact Wp.pure ⟨so,(mm (A2 sz s1)),u,rfl,⟨id,by omega,so,i3.mv m0⟩⟩
end Go.Proofs.YtcffcnipmgkjfaaGreat.Ax
set_option linter.unusedVariables false
set_option linter.unusedSimpArgs false
set_option maxHeartbeats 4000000
namespace Go.Proofs.YtcffcnipmgkjfaaGreat.Ax
open Go
def iMark (k:Int) (i:Nat):Ins:=⟨k+4 * i,k+4 * i+1,k+4 * i+2,mText (k+4 * i+3)⟩
def dMark (k:Int) (i:Nat):Df:=⟨mText (k+3 * i),k+3 * i+1,k+3 * i+2⟩
theorem l34 {id n0:Nat} {H0:Hp} {l:List Ins} {k:Int} (hk:0≤k∧k≤100000000) (hl:l.length≤10000000) (hid:id < n0) (h:H0 id=some (.row (l.flatMap eIns.cells) 4 true)):∀ t n,n0≤n→t 0=sl id 0 l.length→t 1=.int .i64 k→t 5=.int .i64 0 →
  Wp (Zi (S34L0 (Call Tryz.prog) Zi) t H0 n) (fun o=>n≤o.n∧(∀ i,i < n0→i≠id→o.H i=H0 i)∧o.e=.exit 0∧o.t 1=.int .i64 (k+4 * l.length)∧o.H id=some (.row ((fam (iMark k) l.length).flatMap eIns.cells) 4 true)):=by
 intro t n hn0 e0 e1 e5
 refine Zs (fun d t H n'=>∃ (j:Nat),j+d=l.length∧n≤n'∧(∀ i,i < n0→i≠id→H i=H0 i)∧t 0=sl id 0 l.length∧t 1=.int .i64 (k+4 * j)∧t 5=.int .i64 j∧H id=some (.row ((fam (iMark k) j++l.drop j).flatMap eIns.cells) 4 true)) _ ?_ l.length t H0 n ⟨0,by omega,by omega,fun _ _ _=>rfl,e0,by simpa using e1,e5,by simpa [fam] using h⟩
 rintro d t H n' ⟨j,hj,hn,s0,e0,e1,e5,hH⟩
 unfold S34L0
 by_cases hlt:j < l.length
 ·have hlti:(j:Int) < l.length:=by omega
  have hw:=wj (j:=j) (len:=l.length) hlt oo
  have w1:IntKind.i64.wrap (k+4 * (j:Int)+1)=k+4 * j+1:=w64 oo
  have w2:IntKind.i64.wrap (k+4 * (j:Int)+1+1)=k+4 * j+2:=by rw [w64 oo]; omega
  have w3:IntKind.i64.wrap (k+4 * (j:Int)+2+1)=k+4 * j+3:=by rw [w64 oo]; omega
  have w4:IntKind.i64.wrap (k+4 * (j:Int)+3+1)=k+4 * ((j+1:Nat):Int):=by rw [w64 oo]; omega
  have hset:=fam_set (iMark k) hlt
  have hjl:j < (fam (iMark k) j++l.drop j).length:=by rw [fam_drop_len _ oo]; exact hlt
  generalize hL:fam (iMark k) j++l.drop j=L at *
  have hix:=idx_sl (sz:=4) (id:=id) (k:=.i64) hlt
  rcases hx:L[j] with ⟨xo,xn,xi,xs⟩
  have t0:st false 1 (ptr id (j * 4)) (.int .i64 (k+4 * j)) H=some (H.set id (some (.row ((L.set j ⟨k+4 * j,xn,xi,xs⟩).flatMap eIns.cells) 4 true))):=st_fc (E:=eIns) hH hjl (f:=0) (by decide) (y:=⟨k+4 * j,xn,xi,xs⟩) (c:=.int .i64 (k+4 * j)) rfl (by rw [hx]; rfl)
  have t1:=st_fc (E:=eIns) (Zf H id (some (.row ((L.set j ⟨k+4 * j,xn,xi,xs⟩).flatMap eIns.cells) 4 true))) (by rw [List.length_set]; exact hjl) (f:=1) (by decide) (y:=⟨k+4 * j,k+4 * j+1,xi,xs⟩) (c:=.int .i64 (k+4 * j+1)) rfl (by rw [List.getElem_set_self]; rfl)
  rw [List.set_set,Hp_set_set] at t1
  have t2:=st_fc (E:=eIns) (Zf H id (some (.row ((L.set j ⟨k+4 * j,k+4 * j+1,xi,xs⟩).flatMap eIns.cells) 4 true))) (by rw [List.length_set]; exact hjl) (f:=2) (by decide) (y:=⟨k+4 * j,k+4 * j+1,k+4 * j+2,xs⟩) (c:=.int .i64 (k+4 * j+2)) rfl (by rw [List.getElem_set_self]; rfl)
  rw [List.set_set,Hp_set_set] at t2
  refine W0 (A8 e0 e1 e5 hlti hix t0 w1 (A4 t1 w2 t2 w3)) ?_
  refine Zu (k66 (k+4 * j+3) oo _ _) ?_
  intro H1 n1 q1 s1
  have hH1:H1 id=some (.row ((L.set j ⟨k+4 * j,k+4 * j+1,k+4 * j+2,xs⟩).flatMap eIns.cells) 4 true):=by simp (disch:=omega) only [s1,Zf]
  have t3:=st_fc (E:=eIns) hH1 (by rw [List.length_set]; exact hjl) (f:=3) (by decide) (y:=iMark k j) (c:=.string (mText (k+4 * j+3))) rfl (by rw [List.getElem_set_self]; rfl)
  rw [List.set_set,hset] at t3
  refine W0 (A7 e0 e1 e5 hix t3 w4 hw) ?_
  exact Wp.pure (Nxt.go (d - 1) oo ⟨j+1,by omega,by omega,(mm (A2 s1 s0)),pp e0,p0,p0,Zf _ _ _⟩)
 ·have hlti:¬ (j:Int) < l.length:=by omega
  refine W0 (A4 e0 e1 e5 hlti) ?_
  have hjl:j=l.length:=by omega
  subst hjl
  exact Wp.pure (Nxt.exit ⟨Nat.le_trans hn (Nat.le_add_right _ _),s0,rfl,pp e1,by simpa using hH⟩)
theorem k34 {id n:Nat} {H:Hp} {v:Value} {l:List Ins} (h:At eIns id H v l) (hid:id < n) (k:Int) (hk:0≤k∧k≤100000000) (hl:l.length≤10000000):RtM Tryz.prog 34 [v,.int .i64 k] id H n (.int .i64 (k+4 * l.length)) (fun H' n'=>At eIns id H' v (fam (iMark k) l.length)):=by
 apply RtM.of
 rw [c34]; unfold S34
 rcases h with ⟨rfl,rfl⟩ | ⟨rfl,h⟩
 ·rw [Loop_eq]
  unfold S34L0
  simp(disch:=omega)only[↓reduceIte,Zh,↓X0,X1,Nat.reduceEqDiff,Int.reduceEq,Nat.reduceAdd,Nat.reduceSub,thenO]
  exact Wp.pure ⟨so,fun _ _ _=>rfl,pa,.inl ⟨rfl,rfl⟩⟩
 ·refine Wp.bind (l34 hk hl hid h _ _ oo pa pa p0) ?_
  rintro ⟨oe,ot,oH,on⟩ ⟨f1,f2,rfl,f4,f5⟩
  simp only at f1 f2 f4 f5
  simp(disch:=omega)only[↓reduceIte,Zh,↓X0,X1,Nat.reduceEqDiff,Int.reduceEq,Nat.reduceAdd,Nat.reduceSub,f4]
  exact Wp.pure ⟨so,f2,rfl,.inr ⟨by rw [fam_len],f5⟩⟩
theorem l35 {id n0:Nat} {H0:Hp} {l:List Df} {k:Int} (hk:0≤k∧k≤100000000) (hl:l.length≤10000000) (hid:id < n0) (h:H0 id=some (.row (l.flatMap eDef.cells) 3 true)):∀ t n,n0≤n→t 0=sl id 0 l.length→t 1=.int .i64 k→t 5=.int .i64 0 →
  Wp (Zi (S35L0 (Call Tryz.prog) Zi) t H0 n) (fun o=>n≤o.n∧(∀ i,i < n0→i≠id→o.H i=H0 i)∧o.e=.exit 0∧o.t 1=.int .i64 (k+3 * l.length)∧o.H id=some (.row ((fam (dMark k) l.length).flatMap eDef.cells) 3 true)):=by
 intro t n hn0 e0 e1 e5
 refine Zs (fun d t H n'=>∃ (j:Nat),j+d=l.length∧n≤n'∧(∀ i,i < n0→i≠id→H i=H0 i)∧t 0=sl id 0 l.length∧t 1=.int .i64 (k+3 * j)∧t 5=.int .i64 j∧H id=some (.row ((fam (dMark k) j++l.drop j).flatMap eDef.cells) 3 true)) _ ?_ l.length t H0 n ⟨0,by omega,by omega,fun _ _ _=>rfl,e0,by simpa using e1,e5,by simpa [fam] using h⟩
 rintro d t H n' ⟨j,hj,hn,s0,e0,e1,e5,hH⟩
 unfold S35L0
 by_cases hlt:j < l.length
 ·have hlti:(j:Int) < l.length:=by omega
  have hw:=wj (j:=j) (len:=l.length) hlt oo
  have w1:IntKind.i64.wrap (k+3 * (j:Int)+1)=k+3 * j+1:=w64 oo
  have w2:IntKind.i64.wrap (k+3 * (j:Int)+1+1)=k+3 * j+2:=by rw [w64 oo]; omega
  have w4:IntKind.i64.wrap (k+3 * (j:Int)+2+1)=k+3 * ((j+1:Nat):Int):=by rw [w64 oo]; omega
  have hset:=fam_set (dMark k) hlt
  have hjl:j < (fam (dMark k) j++l.drop j).length:=by rw [fam_drop_len _ oo]; exact hlt
  generalize hL:fam (dMark k) j++l.drop j=L at *
  have hix:=idx_sl (sz:=3) (id:=id) (k:=.i64) hlt
  rcases hx:L[j] with ⟨xs,xa,xr⟩
  refine W0 (A4 e0 e1 e5 hlti) ?_
  refine Zu (k66 (k+3 * j) oo _ _) ?_
  intro H1 n1 q1 s1
  have hH1:H1 id=some (.row (L.flatMap eDef.cells) 3 true):=by simp (disch:=omega) only [s1,hH]
  have t0:st false 1 (ptr id (j * 3)) (.string (mText (k+3 * j))) H1=some (H1.set id (some (.row ((L.set j ⟨mText (k+3 * j),xa,xr⟩).flatMap eDef.cells) 3 true))):=st_fc (E:=eDef) hH1 hjl (f:=0) (by decide) (y:=⟨mText (k+3 * j),xa,xr⟩) (c:=.string (mText (k+3 * j))) rfl (by rw [hx]; rfl)
  have t1:=st_fc (E:=eDef) (Zf H1 id (some (.row ((L.set j ⟨mText (k+3 * j),xa,xr⟩).flatMap eDef.cells) 3 true))) (by rw [List.length_set]; exact hjl) (f:=1) (by decide) (y:=⟨mText (k+3 * j),k+3 * j+1,xr⟩) (c:=.int .i64 (k+3 * j+1)) rfl (by rw [List.getElem_set_self]; rfl)
  rw [List.set_set,Hp_set_set] at t1
  have t2:=st_fc (E:=eDef) (Zf H1 id (some (.row ((L.set j ⟨mText (k+3 * j),k+3 * j+1,xr⟩).flatMap eDef.cells) 3 true))) (by rw [List.length_set]; exact hjl) (f:=2) (by decide) (y:=dMark k j) (c:=.int .i64 (k+3 * j+2)) rfl (by rw [List.getElem_set_self]; rfl)
  rw [List.set_set,Hp_set_set,hset] at t2
  refine W0 (A8 e0 e1 e5 hix t0 w1 t1 (A4 w2 t2 w4 hw)) ?_
  exact Wp.pure (Nxt.go (d - 1) oo ⟨j+1,by omega,by omega,(mm (A2 s1 s0)),pp e0,p0,p0,Zf _ _ _⟩)
 ·have hlti:¬ (j:Int) < l.length:=by omega
  refine W0 (A4 e0 e1 e5 hlti) ?_
  have hjl:j=l.length:=by omega
  subst hjl
  exact Wp.pure (Nxt.exit ⟨Nat.le_trans hn (Nat.le_add_right _ _),s0,rfl,pp e1,by simpa using hH⟩)
theorem k35 {id n:Nat} {H:Hp} {v:Value} {l:List Df} (h:At eDef id H v l) (hid:id < n) (k:Int) (hk:0≤k∧k≤100000000) (hl:l.length≤10000000):RtM Tryz.prog 35 [v,.int .i64 k] id H n (.int .i64 (k+3 * l.length)) (fun H' n'=>At eDef id H' v (fam (dMark k) l.length)):=by
 apply RtM.of
 rw [c35]; unfold S35
 rcases h with ⟨rfl,rfl⟩ | ⟨rfl,h⟩
 ·rw [Loop_eq]
  unfold S35L0
  simp(disch:=omega)only[↓reduceIte,Zh,↓X0,X1,Nat.reduceEqDiff,Int.reduceEq,Nat.reduceAdd,Nat.reduceSub,thenO]
  exact Wp.pure ⟨so,fun _ _ _=>rfl,pa,.inl ⟨rfl,rfl⟩⟩
 ·refine Wp.bind (l35 hk hl hid h _ _ oo pa pa p0) ?_
  rintro ⟨oe,ot,oH,on⟩ ⟨f1,f2,rfl,f4,f5⟩
  simp only at f1 f2 f4 f5
  simp(disch:=omega)only[↓reduceIte,Zh,↓X0,X1,Nat.reduceEqDiff,Int.reduceEq,Nat.reduceAdd,Nat.reduceSub,f4]
  exact Wp.pure ⟨so,f2,rfl,.inr ⟨by rw [fam_len],f5⟩⟩
abbrev RtM3 (P:Program) (f:Nat) (args:List Value) (a b c:Nat) (H:Hp) (n:Nat) (v:Value) (R:Hp→Nat→Prop):Prop:=∃ H' n',n≤n'∧(∀ i,i < n→i≠a→i≠b→i≠c→H' i=H i)∧Call P f args H n=some (v,H',n')∧R H' n'
theorem Wp.rtm3 {P:Program} {f:Nat} {args:List Value} {H:Hp} {n a b c:Nat} {β:Type} {g:Value × Hp × Nat→Option β} {Q:β→Prop} {v:Value} {R:Hp→Nat→Prop} (h:RtM3 P f args a b c H n v R) (k:∀ H' n',n≤n'→(∀ i,i < n→i≠a→i≠b→i≠c→H' i=H i)→R H' n'→Wp (g (v,H',n')) Q):Wp ((Call P f args H n).bind g) Q:=by
 obtain ⟨H',n',h1,h2,h3,h4⟩:=h
 rw [h3]; exact k H' n' h1 h2 h4
theorem RtM3.of {P:Program} {f:Nat} {args:List Value} {a b c:Nat} {H:Hp} {n:Nat} {v:Value} {R:Hp→Nat→Prop} (h:Wp (Call P f args H n) fun q=>n≤q.2.2∧(∀ i,i < n→i≠a→i≠b→i≠c→q.2.1 i=H i)∧q.1=v∧R q.2.1 q.2.2):RtM3 P f args a b c H n v R:=by
 obtain ⟨⟨w,H',n'⟩,h1,h2,h3,h4,h5⟩:=h
 simp only at h2 h3 h4 h5
 subst h4; exact ⟨H',n',h2,h3,h1,h5⟩
theorem k13 {a b c n:Nat} {H:Hp} {v vl vd:Value} {l:List Nd} {li:List Ins} {ld:List Df} (h:At eNode a H v l) (ha:a < n) (h2:At eIns b H vl li) (hb:b < n) (h3:At eDef c H vd ld) (hc:c < n) (hab:a≠b) (hac:a≠c) (hbc:b≠c) (k:Int) (hk:0≤k∧k≤10000000) (hl:l.length≤1048576) (hll:li.length≤1048576) (hld:ld.length≤1048576) :
  RtM3 Tryz.prog 13 [.agg ⟨[v,vl,vd]⟩,.int .i64 k] a b c H n (.int .i64 (k+5 * l.length+4 * li.length+3 * ld.length)) (fun H' n'=>At eNode a H' v (fam (nMark k) l.length)∧At eIns b H' vl (fam (iMark (k+5 * l.length)) li.length)∧At eDef c H' vd (fam (dMark (k+5 * l.length+4 * li.length)) ld.length)):=by
 apply RtM3.of
 rw [c13]; unfold S13
 refine W1 trivial ?_
 refine Wp.rtm (k33 (h.mv m0) oo k oo oo) ?_
 intro H1 n1 q1 s1 o1
 refine W1 s1 ?_
 refine Wp.rtm (k34 (h2.mv (mm s1)) oo (k+5 * l.length) oo oo) ?_
 intro H2 n2 q2 s2 o2
 refine W1 (A2 s2 s1) ?_
 refine Wp.rtm (k35 (h3.mv (mm (A2 s2 s1))) oo (k+5 * l.length+4 * li.length) oo oo) ?_
 intro H3 n3 q3 s3 o3
 refine W1 (A3 s3 s2 s1) ?_
 exact Wp.pure ⟨so,(mm (A3 s3 s2 s1)),rfl,o1.mv (mm (A2 s3 s2)),o2.mv (mm s3),o3⟩
end Go.Proofs.YtcffcnipmgkjfaaGreat.Ax
set_option linter.unusedVariables false
set_option linter.unusedSimpArgs false
set_option maxHeartbeats 8000000
namespace Go.Proofs.YtcffcnipmgkjfaaGreat.Ax
open Go
theorem law3 {v0 v0l v0d:Value} {l0:List Nd} {l0l:List Ins} {l0d:List Df} {v1:Value} {l1:List Nd} {m1a m1s m1e m1d m1t m1k m1r:Int} {H:Hp} {n:Nat} (hv0:Li eNode n H v0 l0) (hs0:∀ x∈l0,x.s.size≤9223372036854775807) (hl0:l0.length≤9223372036854775807) (hv0l:Li eIns n H v0l l0l) (hs0l:∀ x∈l0l,x.s.size≤9223372036854775807) (hl0l:l0l.length≤9223372036854775807) (hv0d:Li eDef n H v0d l0d) (hs0d:∀ x∈l0d,x.s.size≤9223372036854775807) (hl0d:l0d.length≤9223372036854775807) (hv1:Li eNode n H v1 l1) (hs1:∀ x∈l1,x.s.size≤9223372036854775807) (hl1:l1.length≤9223372036854775807):∃ H' n',Call Tryz.prog 3 [.agg ⟨[v0,v0l,v0d]⟩,.agg ⟨[v1,.int .i64 m1a,.int .i64 m1s,.int .i64 m1e,.int .i64 m1d,.int .i64 m1t,.int .i64 m1k,.int .i64 m1r]⟩] H n=some (.bool true,H',n'):=by
 rw [c3]; unfold S3
 apply Wp.val
 refine W1 (A2 @Nd.cells.eq_1 @and_self) ?_
 refine Wp.rte (k5 (hv0.mv oo m0) hs0 hl0 (hv0l.mv oo m0) hs0l hl0l (hv0d.mv oo m0) hs0d hl0d 1048576 (by decide)) ?_
 intro r1 hr1 H1 n1 q1 s1
 by_cases hneg1:r1 < 0
 ·refine W1 (A4 @Nd.cells.eq_1 @and_self hneg1 s1) ?_
  exact Wp.pure rfl
 have hrr1:=hr1.2.1
 obtain ⟨⟨hl01,hs01⟩,⟨hl0l1,hs0l1⟩,hl0d1,hs0d1⟩:=hr1.2.2 oo
 have hn0:l0.length≤1048576:=by omega
 have hz0:∀ x∈l0,x.s.size≤1048576:=fun x hx=>by have:=hs01 x hx; omega
 have hn0l:l0l.length≤1048576:=by omega
 have hz0l:∀ x∈l0l,x.s.size≤1048576:=fun x hx=>by have:=hs0l1 x hx; omega
 have hn0d:l0d.length≤1048576:=by omega
 have hz0d:∀ x∈l0d,x.s.size≤1048576:=fun x hx=>by have:=hs0d1 x hx; omega
 refine W1 (A4 @Nd.cells.eq_1 @and_self hneg1 s1) ?_
 refine Wp.rte (k6 (hv1.mv oo (mm s1)) hs1 hl1 r1 oo) ?_
 intro r2 hr2 H2 n2 q2 s2
 by_cases hneg2:r2 < 0
 ·refine W1 (A6 @Nd.cells.eq_1 @and_self hneg1 hneg2 s1 s2) ?_
  exact Wp.pure rfl
 have hrr2:=hr2.2.1
 obtain ⟨hl11,hs11⟩:=hr2.2.2 oo
 have hn1:l1.length≤1048576:=by omega
 have hz1:∀ x∈l1,x.s.size≤1048576:=fun x hx=>by have:=hs11 x hx; omega
 refine W1 (A6 @Nd.cells.eq_1 @and_self hneg1 hneg2 s1 s2) ?_
 refine Wp.rtn (k8 (hv0.mv oo (mm (A2 s1 s2))) oo (hv0l.mv oo (mm (A2 s1 s2))) oo (hv0d.mv oo (mm (A2 s1 s2))) oo) ?_
 rintro _ H3 n3 q3 s3 ⟨u3,u3l,u3d,rfl,i3,i3l,i3d,d3x,d3y,d3z,a3,b3,a3l,b3l,a3d,b3d,o3,o3l,o3d⟩
 refine W1 (A7 @Nd.cells.eq_1 @and_self hneg1 hneg2 s1 s2 s3) ?_
 refine Wp.rtn (k9 (hv1.mv oo (mm (A3 s1 s2 s3))) oo) ?_
 rintro _ H4 n4 q4 s4 ⟨u4,rfl,i4,a4,b4,o4⟩
 refine W1 (A8 @Nd.cells.eq_1 @and_self hneg1 hneg2 s1 s2 s3 s4) ?_
 refine Wp.rtn (k7 ((o3.mv (mm (A4 s1 s2 s3 s4))).lst oo) ((o3l.mv (mm (A4 s1 s2 s3 s4))).lst oo) ((o3d.mv (mm (A4 s1 s2 s3 s4))).lst oo) hz0 hz0l hz0d hn0 hn0l hn0d ((o4.mv (mm (A4 s1 s2 s3 s4))).lst oo) hz1 hn1 m1a m1s m1e m1d m1t m1k m1r) ?_
 rintro _ H5 n5 q5 s5 ⟨u5,rfl,i5,a5,b5,o5⟩
 refine W1 (A8 @Nd.cells.eq_1 @and_self hneg1 hneg2 s1 s2 s3 (A2 s4 s5)) ?_
 have hb0:=stepM_len l0 l0l l0d ⟨l1,m1a,m1s,m1e,m1d,m1t,m1k,m1r⟩ hn1
 refine Wp.rtn (k8 (hv0.mv oo (mm (A5 s1 s2 s3 s4 s5))) oo (hv0l.mv oo (mm (A5 s1 s2 s3 s4 s5))) oo (hv0d.mv oo (mm (A5 s1 s2 s3 s4 s5))) oo) ?_
 rintro _ H6 n6 q6 s6 ⟨u6,u6l,u6d,rfl,i6,i6l,i6d,d6x,d6y,d6z,a6,b6,a6l,b6l,a6d,b6d,o6,o6l,o6d⟩
 refine W1 (A8 @Nd.cells.eq_1 @and_self hneg1 hneg2 s1 s2 s3 (A3 s4 s5 s6)) ?_
 refine Wp.rtn (k9 (hv1.mv oo (mm (A6 s1 s2 s3 s4 s5 s6))) oo) ?_
 rintro _ H7 n7 q7 s7 ⟨u7,rfl,i7,a7,b7,o7⟩
 refine W1 (A8 @Nd.cells.eq_1 @and_self hneg1 hneg2 s1 s2 s3 (A4 s4 s5 s6 s7)) ?_
 refine Wp.rtn (k10 ((o6.mv (mm (A7 s1 s2 s3 s4 s5 s6 s7))).lst oo) ((o6l.mv (mm (A7 s1 s2 s3 s4 s5 s6 s7))).lst oo) ((o6d.mv (mm (A7 s1 s2 s3 s4 s5 s6 s7))).lst oo) hz0 hz0l hz0d hn0 hn0l hn0d ((o7.mv (mm (A7 s1 s2 s3 s4 s5 s6 s7))).lst oo) hz1 hn1 m1a m1s m1e m1d m1t m1k m1r) ?_
 rintro _ H8 n8 q8 s8 ⟨u8,rfl,i8,a8,b8,o8⟩
 refine W1 (A8 @Nd.cells.eq_1 @and_self hneg1 hneg2 s1 s2 s3 (A5 s4 s5 s6 s7 s8)) ?_
 refine Zu (k11 ((o8.mv (mm (A8 s1 s2 s3 s4 s5 s6 s7 s8))).lst oo) ((o5.mv (mm (A8 s1 s2 s3 s4 s5 s6 s7 s8))).lst oo) oo) ?_
 intro H9 n9 q9 s9
 refine W1 (A8 @Nd.cells.eq_1 @and_self hneg1 hneg2 s1 s2 s3 (A6 s4 s5 s6 s7 s8 s9)) ?_
 refine Wp.rtn (k8 (hv0.mv oo (mm (A8 s1 s2 s3 s4 s5 s6 s7 (A2 s8 s9)))) oo (hv0l.mv oo (mm (A8 s1 s2 s3 s4 s5 s6 s7 (A2 s8 s9)))) oo (hv0d.mv oo (mm (A8 s1 s2 s3 s4 s5 s6 s7 (A2 s8 s9)))) oo) ?_
 rintro _ H10 n10 q10 s10 ⟨u10,u10l,u10d,rfl,i10,i10l,i10d,d10x,d10y,d10z,a10,b10,a10l,b10l,a10d,b10d,o10,o10l,o10d⟩
 refine W1 (A8 @Nd.cells.eq_1 @and_self hneg1 hneg2 s1 s2 s3 (A7 s4 s5 s6 s7 s8 s9 s10)) ?_
 refine Zu (k12 ((o6.mv (mm (A8 s1 s2 s3 s4 s5 s6 s7 (A3 s8 s9 s10)))).lst oo) ((o6l.mv (mm (A8 s1 s2 s3 s4 s5 s6 s7 (A3 s8 s9 s10)))).lst oo) ((o6d.mv (mm (A8 s1 s2 s3 s4 s5 s6 s7 (A3 s8 s9 s10)))).lst oo) ((o10.mv (mm (A8 s1 s2 s3 s4 s5 s6 s7 (A3 s8 s9 s10)))).lst oo) ((o10l.mv (mm (A8 s1 s2 s3 s4 s5 s6 s7 (A3 s8 s9 s10)))).lst oo) ((o10d.mv (mm (A8 s1 s2 s3 s4 s5 s6 s7 (A3 s8 s9 s10)))).lst oo) oo) ?_
 intro H11 n11 q11 s11
 refine W1 (A8 @Nd.cells.eq_1 @and_self hneg1 hneg2 s1 s2 s3 (A8 s4 s5 s6 s7 s8 s9 s10 s11)) ?_
 refine Wp.rtn (k9 (hv1.mv oo (mm (A8 s1 s2 s3 s4 s5 s6 s7 (A4 s8 s9 s10 s11)))) oo) ?_
 rintro _ H12 n12 q12 s12 ⟨u12,rfl,i12,a12,b12,o12⟩
 refine W1 (A8 @Nd.cells.eq_1 @and_self hneg1 hneg2 s1 s2 s3 (A8 s4 s5 s6 s7 s8 s9 s10 (A2 s11 s12))) ?_
 refine Zu (k11 ((o7.mv (mm (A8 s1 s2 s3 s4 s5 s6 s7 (A5 s8 s9 s10 s11 s12)))).lst oo) ((o12.mv (mm (A8 s1 s2 s3 s4 s5 s6 s7 (A5 s8 s9 s10 s11 s12)))).lst oo) oo) ?_
 intro H13 n13 q13 s13
 refine W1 (A8 @Nd.cells.eq_1 @and_self hneg1 hneg2 s1 s2 s3 (A8 s4 s5 s6 s7 s8 s9 s10 (A3 s11 s12 s13))) ?_
 refine Wp.rtm3 (k13 (o6.mv (mm (A8 s1 s2 s3 s4 s5 s6 s7 (A6 s8 s9 s10 s11 s12 s13)))) oo (o6l.mv (mm (A8 s1 s2 s3 s4 s5 s6 s7 (A6 s8 s9 s10 s11 s12 s13)))) oo (o6d.mv (mm (A8 s1 s2 s3 s4 s5 s6 s7 (A6 s8 s9 s10 s11 s12 s13)))) oo d6x d6y d6z (1) (by decide) hn0 hn0l hn0d) ?_
 intro H14 n14 q14 s14 o14
 refine W1 (A8 @Nd.cells.eq_1 @and_self hneg1 hneg2 ((show ¬ (1+5 * l0.length+4 * l0l.length+3 * l0d.length+5 * l1.length:Int) < 0 by omega)) s1 s2 (A8 s3 s4 s5 s6 s7 s8 s9 (A5 s10 s11 s12 s13 s14))) ?_
 refine Wp.rtm (k14 (o7.mv (mm (A8 s1 s2 s3 s4 s5 s6 s7 (A7 s8 s9 s10 s11 s12 s13 s14)))) oo (1+5 * l0.length+4 * l0l.length+3 * l0d.length) oo oo) ?_
 intro H15 n15 q15 s15 o15
 refine W1 (A8 @Nd.cells.eq_1 @and_self hneg1 hneg2 ((show ¬ (1+5 * l0.length+4 * l0l.length+3 * l0d.length+5 * l1.length:Int) < 0 by omega)) s1 s2 (A8 s3 s4 s5 s6 s7 s8 s9 (A6 s10 s11 s12 s13 s14 s15))) ?_
 refine Zu (k11 ((o8.mv (mm (A8 s1 s2 s3 s4 s5 s6 s7 (A8 s8 s9 s10 s11 s12 s13 s14 s15)))).lst oo) ((o5.mv (mm (A8 s1 s2 s3 s4 s5 s6 s7 (A8 s8 s9 s10 s11 s12 s13 s14 s15)))).lst oo) oo) ?_
 intro H16 n16 q16 s16
 refine W1 (A8 @Nd.cells.eq_1 @and_self hneg1 hneg2 ((show ¬ (1+5 * l0.length+4 * l0l.length+3 * l0d.length+5 * l1.length:Int) < 0 by omega)) s1 s2 (A8 s3 s4 s5 s6 s7 s8 s9 (A7 s10 s11 s12 s13 s14 s15 s16))) ?_
 refine Wp.rtm (k14 (o8.mv (mm (A8 s1 s2 s3 s4 s5 s6 s7 (A8 s8 s9 s10 s11 s12 s13 s14 (A2 s15 s16))))) oo (1) (by decide) oo) ?_
 intro H17 n17 q17 s17 o17
 refine W1 (A8 @Nd.cells.eq_1 @and_self hneg1 hneg2 ((show ¬ (1+5 * l0.length+4 * l0l.length+3 * l0d.length+5 * l1.length:Int) < 0 by omega)) s1 s2 (A8 s3 s4 s5 s6 s7 s8 s9 (A8 s10 s11 s12 s13 s14 s15 s16 s17))) ?_
 refine Zu (k15 (k:=1) (m:=(stepM l0 l0l l0d ⟨l1,m1a,m1s,m1e,m1d,m1t,m1k,m1r⟩).p.length) ((o17.mv (mm (A8 s1 s2 s3 s4 s5 s6 s7 (A8 s8 s9 s10 s11 s12 s13 s14 (A3 s15 s16 s17))))).lst oo) (by decide) oo) ?_
 intro H18 n18 q18 s18
 refine W1 (A8 @Nd.cells.eq_1 @and_self hneg1 hneg2 ((show ¬ (1+5 * l0.length+4 * l0l.length+3 * l0d.length+5 * l1.length:Int) < 0 by omega)) ((show ¬ (1+5 * (stepM l0 l0l l0d ⟨l1,m1a,m1s,m1e,m1d,m1t,m1k,m1r⟩).p.length:Int) < 0 by omega)) s1 (A8 s2 s3 s4 s5 s6 s7 s8 (A8 s9 s10 s11 s12 s13 s14 s15 (A3 s16 s17 s18)))) ?_
 refine Wp.rtn (k8 (hv0.mv oo (mm (A8 s1 s2 s3 s4 s5 s6 s7 (A8 s8 s9 s10 s11 s12 s13 s14 (A4 s15 s16 s17 s18))))) oo (hv0l.mv oo (mm (A8 s1 s2 s3 s4 s5 s6 s7 (A8 s8 s9 s10 s11 s12 s13 s14 (A4 s15 s16 s17 s18))))) oo (hv0d.mv oo (mm (A8 s1 s2 s3 s4 s5 s6 s7 (A8 s8 s9 s10 s11 s12 s13 s14 (A4 s15 s16 s17 s18))))) oo) ?_
 rintro _ H19 n19 q19 s19 ⟨u19,u19l,u19d,rfl,i19,i19l,i19d,d19x,d19y,d19z,a19,b19,a19l,b19l,a19d,b19d,o19,o19l,o19d⟩
 refine W1 (A8 @Nd.cells.eq_1 @and_self hneg1 hneg2 ((show ¬ (1+5 * l0.length+4 * l0l.length+3 * l0d.length+5 * l1.length:Int) < 0 by omega)) ((show ¬ (1+5 * (stepM l0 l0l l0d ⟨l1,m1a,m1s,m1e,m1d,m1t,m1k,m1r⟩).p.length:Int) < 0 by omega)) s1 (A8 s2 s3 s4 s5 s6 s7 s8 (A8 s9 s10 s11 s12 s13 s14 s15 (A4 s16 s17 s18 s19)))) ?_
 refine Wp.rtn (k9 (hv1.mv oo (mm (A8 s1 s2 s3 s4 s5 s6 s7 (A8 s8 s9 s10 s11 s12 s13 s14 (A5 s15 s16 s17 s18 s19))))) oo) ?_
 rintro _ H20 n20 q20 s20 ⟨u20,rfl,i20,a20,b20,o20⟩
 refine W1 (A8 @Nd.cells.eq_1 @and_self hneg1 hneg2 ((show ¬ (1+5 * l0.length+4 * l0l.length+3 * l0d.length+5 * l1.length:Int) < 0 by omega)) ((show ¬ (1+5 * (stepM l0 l0l l0d ⟨l1,m1a,m1s,m1e,m1d,m1t,m1k,m1r⟩).p.length:Int) < 0 by omega)) s1 (A8 s2 s3 s4 s5 s6 s7 s8 (A8 s9 s10 s11 s12 s13 s14 s15 (A5 s16 s17 s18 s19 s20)))) ?_
 refine Wp.rtn (k10 ((o19.mv (mm (A8 s1 s2 s3 s4 s5 s6 s7 (A8 s8 s9 s10 s11 s12 s13 s14 (A6 s15 s16 s17 s18 s19 s20))))).lst oo) ((o19l.mv (mm (A8 s1 s2 s3 s4 s5 s6 s7 (A8 s8 s9 s10 s11 s12 s13 s14 (A6 s15 s16 s17 s18 s19 s20))))).lst oo) ((o19d.mv (mm (A8 s1 s2 s3 s4 s5 s6 s7 (A8 s8 s9 s10 s11 s12 s13 s14 (A6 s15 s16 s17 s18 s19 s20))))).lst oo) hz0 hz0l hz0d hn0 hn0l hn0d ((o20.mv (mm (A8 s1 s2 s3 s4 s5 s6 s7 (A8 s8 s9 s10 s11 s12 s13 s14 (A6 s15 s16 s17 s18 s19 s20))))).lst oo) hz1 hn1 m1a m1s m1e m1d m1t m1k m1r) ?_
 rintro _ H21 n21 q21 s21 ⟨u21,rfl,i21,a21,b21,o21⟩
 refine W1 (A8 @Nd.cells.eq_1 @and_self hneg1 hneg2 ((show ¬ (1+5 * l0.length+4 * l0l.length+3 * l0d.length+5 * l1.length:Int) < 0 by omega)) ((show ¬ (1+5 * (stepM l0 l0l l0d ⟨l1,m1a,m1s,m1e,m1d,m1t,m1k,m1r⟩).p.length:Int) < 0 by omega)) s1 (A8 s2 s3 s4 s5 s6 s7 s8 (A8 s9 s10 s11 s12 s13 s14 s15 (A6 s16 s17 s18 s19 s20 s21)))) ?_
 refine Zu (k11 ((o21.mv (mm (A8 s1 s2 s3 s4 s5 s6 s7 (A8 s8 s9 s10 s11 s12 s13 s14 (A7 s15 s16 s17 s18 s19 s20 s21))))).lst oo) ((o5.mv (mm (A8 s1 s2 s3 s4 s5 s6 s7 (A8 s8 s9 s10 s11 s12 s13 s14 (A7 s15 s16 s17 s18 s19 s20 s21))))).lst oo) oo) ?_
 intro H22 n22 q22 s22
 refine W1 (A8 @Nd.cells.eq_1 @and_self hneg1 hneg2 ((show ¬ (1+5 * l0.length+4 * l0l.length+3 * l0d.length+5 * l1.length:Int) < 0 by omega)) ((show ¬ (1+5 * (stepM l0 l0l l0d ⟨l1,m1a,m1s,m1e,m1d,m1t,m1k,m1r⟩).p.length:Int) < 0 by omega)) s1 (A8 s2 s3 s4 s5 s6 s7 s8 (A8 s9 s10 s11 s12 s13 s14 s15 (A7 s16 s17 s18 s19 s20 s21 s22)))) ?_
 refine Zu (k15 (k:=1) (m:=(stepM l0 l0l l0d ⟨l1,m1a,m1s,m1e,m1d,m1t,m1k,m1r⟩).p.length) ((o17.mv (mm (A8 s1 s2 s3 s4 s5 s6 s7 (A8 s8 s9 s10 s11 s12 s13 s14 (A8 s15 s16 s17 s18 s19 s20 s21 s22))))).lst oo) (by decide) oo) ?_
 intro H23 n23 q23 s23
 refine W1 (A8 @Nd.cells.eq_1 @and_self hneg1 hneg2 ((show ¬ (1+5 * l0.length+4 * l0l.length+3 * l0d.length+5 * l1.length:Int) < 0 by omega)) ((show ¬ (1+5 * (stepM l0 l0l l0d ⟨l1,m1a,m1s,m1e,m1d,m1t,m1k,m1r⟩).p.length:Int) < 0 by omega)) s1 (A8 s2 s3 s4 s5 s6 s7 s8 (A8 s9 s10 s11 s12 s13 s14 s15 (A8 s16 s17 s18 s19 s20 s21 s22 s23)))) ?_
 exact Wp.pure rfl
end Go.Proofs.YtcffcnipmgkjfaaGreat.Ax
