/- What the law needs: laws of the abstract machine, and contracts of functions. -/
import Derived.Test.YtbgkimkbngocjaaM6
import Derived.Test.YtbgkimkbngocjaaM3
import Derived.Test.YtbgkimkbngocjaaM5
set_option linter.unusedVariables false
set_option linter.unusedSimpArgs false
set_option maxHeartbeats 4000000
namespace Go.Proofs.Ytbgkimkbngocjaa.Ax
open Go
theorem sl_lo (s:ByteArray) {a:Int} (h0:0≤a) (h1:a≤s.size):sliceV 0 (.string s) none (some (.int .i64 a))=some (.string (s.extract 0 a.toNat)):=by
 simp [sliceV,bnd,h0,h1]
theorem sl_hi (s:ByteArray) {a:Int} (h0:0≤a) (h1:a≤s.size):sliceV 0 (.string s) (some (.int .i64 a)) none=some (.string (s.extract a.toNat s.size)):=by
 simp [sliceV,bnd,h0,h1]
def sz12 (x:ByteArray):Bool:=decide (x.size≤12)
theorem k36 {c n:Nat} {H:Hp} (hc:Cu c n H) (s:ByteArray) (hs:s.size≤10000) {w:Value} {xs:List ByteArray} (hw:Li eStr n H w xs) (ho:Off c w) (hne:xs≠[]) (h12:∀ x∈xs,sz12 x=true):RtD Try.prog 36 [ptr c 0,.string s,w] c H n (fun v _ _=>∃ x:ByteArray,v=.string x∧x.size≤20012):=by
 apply RtD.mk
 rw [c36]; unfold S36
 have w1:IntKind.i64.wrap ((s.size:Int)+1)=(s.size:Int)+1:=w64 (by omega)
 ((repeat(first|((with_reducible first|apply Wp.gs|apply Wp.cs|apply Zd|apply Zf|apply Zc|apply Zg|apply Wp.step);case h=>((try simp(disch:=omega)only[↓reduceIte,Za,↓X0,X1,Nat.reduceEqDiff,Int.reduceEq,Nat.reduceAdd,Nat.reduceSub,w1]);with_reducible first|done|exact rfl|exact bT|exact bF))|apply Ze|apply Zh|with_reducible apply Zl|simp only[↓X3]|with_reducible apply Zb));try(with_reducible apply Zm;case h=>((try simp(disch:=omega)only[X1,Nat.reduceEqDiff,w1]);with_reducible exact rfl)))
 refine Wp.rtd (k38 (hc.up (by omega)) _) ?_
 rintro _ H1 n1 q1 s1 c1 ⟨a,rfl,-,ha⟩
 have ha:=ha (by omega)
 have f1:=sl_lo s ha.1 (by omega)
 have z1:=ext_sz s 0 a.toNat
 ((repeat(first|((with_reducible first|apply Wp.gs|apply Wp.cs|apply Zd|apply Zf|apply Zc|apply Zg|apply Wp.step);case h=>((try simp(disch:=omega)only[↓reduceIte,Za,↓X0,X1,Nat.reduceEqDiff,Int.reduceEq,Nat.reduceAdd,Nat.reduceSub]);with_reducible first|done|exact rfl|exact bT|exact bF))|apply Ze|apply Zh|with_reducible apply Zl|simp only[↓X3]|with_reducible apply Zb));try(with_reducible apply Zm;case h=>((try simp(disch:=omega)only[X1,Nat.reduceEqDiff]);with_reducible exact rfl)))
 refine Wp.rtd (k38 (c1.up (by omega)) 3) ?_
 rintro _ H2 n2 q2 s2 c2 ⟨r,rfl,-,hr⟩
 have hr:=hr (by omega)
 by_cases h0:r=0
 ·(repeat(first|((with_reducible first|apply Wp.gs|apply Wp.cs|apply Zd|apply Zf|apply Zc|apply Zg|apply Wp.step);case h=>((try simp(disch:=omega)only[↓reduceIte,Za,↓X0,X1,Nat.reduceEqDiff,Int.reduceEq,Nat.reduceAdd,Nat.reduceSub,h0,f1]);with_reducible first|done|exact rfl|exact bT|exact bF))|apply Ze|apply Zh|with_reducible apply Zl|simp only[↓X3]|with_reducible apply Zb))
  exact Wp.pure ⟨by simp only; omega,(by intros;first|with_reducible rfl|simp(disch:=omega)only[Zi,Zj,s2,s1]),c2.up (by simp only; omega),_,rfl,by omega⟩
 by_cases h1:r=1
 ·((repeat(first|((with_reducible first|apply Wp.gs|apply Wp.cs|apply Zd|apply Zf|apply Zc|apply Zg|apply Wp.step);case h=>((try simp(disch:=omega)only[↓reduceIte,Za,↓X0,X1,Nat.reduceEqDiff,Int.reduceEq,Nat.reduceAdd,Nat.reduceSub,h0,h1,f1,show ¬ (1:Int)=0 by decide]);with_reducible first|done|exact rfl|exact bT|exact bF))|apply Ze|apply Zh|with_reducible apply Zl|simp only[↓X3]|with_reducible apply Zb));try(with_reducible apply Zm;case h=>((try simp(disch:=omega)only[X1,Nat.reduceEqDiff,h0,h1,f1,show ¬ (1:Int)=0 by decide]);with_reducible exact rfl)))
  refine Wp.rtd (k58 (c2.up (by omega)) (hw.mv1 ho (by omega) (fun i hi hne=>(s2 i (by omega) hne).trans (s1 i (by omega) hne))) ho hne) ?_
  rintro _ H3 n3 q3 s3 c3 ⟨x,rfl,hx⟩
  have hx:=h12 x hx
  simp only [sz12,decide_eq_true_eq] at hx
  ((repeat(first|((with_reducible first|apply Wp.gs|apply Wp.cs|apply Zd|apply Zf|apply Zc|apply Zg|apply Wp.step);case h=>((try simp(disch:=omega)only[↓reduceIte,Za,↓X0,X1,Nat.reduceEqDiff,Int.reduceEq,Nat.reduceAdd,Nat.reduceSub]);with_reducible first|done|exact rfl|exact bT|exact bF))|apply Ze|apply Zh|with_reducible apply Zl|simp only[↓X3]|with_reducible apply Zb));try(with_reducible apply Zm;case h=>((try simp(disch:=omega)only[X1,Nat.reduceEqDiff]);with_reducible exact rfl)))
  refine Wp.saddS (by omega) (by omega) ?_
  intro y hy
  have w2:IntKind.i64.wrap (a+1)=a+1:=w64 (by omega)
  obtain ⟨m,hm⟩:∃ m,m=if a+1 < (s.size:Int) then a+1 else (s.size:Int):=⟨_,rfl⟩
  have hm1:0≤m∧m≤(s.size:Int):=by rw [hm]; split <;> omega
  have f2:=sl_hi s hm1.1 hm1.2
  have z2:=ext_sz s m.toNat s.size
  have hmin:=k79 (a+1) (s.size:Int) H3 n3
  rw [← hm] at hmin
  ((repeat(first|((with_reducible first|apply Wp.gs|apply Wp.cs|apply Zd|apply Zf|apply Zc|apply Zg|apply Wp.step);case h=>((try simp(disch:=omega)only[↓reduceIte,Za,↓X0,X1,Nat.reduceEqDiff,Int.reduceEq,Nat.reduceAdd,Nat.reduceSub,w2]);with_reducible first|done|exact rfl|exact bT|exact bF))|apply Ze|apply Zh|with_reducible apply Zl|simp only[↓X3]|with_reducible apply Zb));try(with_reducible apply Zm;case h=>((try simp(disch:=omega)only[X1,Nat.reduceEqDiff,w2]);with_reducible exact rfl)))
  ((repeat(first|((with_reducible first|apply Wp.gs|apply Wp.cs|apply Zd|apply Zf|apply Zc|apply Zg|apply Wp.step);case h=>((try simp(disch:=omega)only[↓reduceIte,Za,↓X0,X1,Nat.reduceEqDiff,Int.reduceEq,Nat.reduceAdd,Nat.reduceSub,hmin,f2]);with_reducible first|done|exact rfl|exact bT|exact bF))|apply Ze|apply Zh|with_reducible apply Zl|simp only[↓X3]|with_reducible apply Zb));try(with_reducible apply Zm;case h=>((try simp(disch:=omega)only[X1,Nat.reduceEqDiff,hmin,f2]);with_reducible exact rfl)))
  refine Wp.saddS (by omega) (by omega) ?_
  intro z hz
  exact Wp.pure ⟨by simp only; omega,(by intros;first|with_reducible rfl|simp(disch:=omega)only[Zi,Zj,s3,s2,s1]),c3.up (by simp only; omega),_,rfl,by omega⟩
 ·((repeat(first|((with_reducible first|apply Wp.gs|apply Wp.cs|apply Zd|apply Zf|apply Zc|apply Zg|apply Wp.step);case h=>((try simp(disch:=omega)only[↓reduceIte,Za,↓X0,X1,Nat.reduceEqDiff,Int.reduceEq,Nat.reduceAdd,Nat.reduceSub,h0,h1,f1]);with_reducible first|done|exact rfl|exact bT|exact bF))|apply Ze|apply Zh|with_reducible apply Zl|simp only[↓X3]|with_reducible apply Zb));try(with_reducible apply Zm;case h=>((try simp(disch:=omega)only[X1,Nat.reduceEqDiff,h0,h1,f1]);with_reducible exact rfl)))
  refine Wp.rtd (k58 (c2.up (by omega)) (hw.mv1 ho (by omega) (fun i hi hne=>(s2 i (by omega) hne).trans (s1 i (by omega) hne))) ho hne) ?_
  rintro _ H3 n3 q3 s3 c3 ⟨x,rfl,hx⟩
  have hx:=h12 x hx
  simp only [sz12,decide_eq_true_eq] at hx
  have f2:=sl_hi s ha.1 (by omega)
  have z2:=ext_sz s a.toNat s.size
  ((repeat(first|((with_reducible first|apply Wp.gs|apply Wp.cs|apply Zd|apply Zf|apply Zc|apply Zg|apply Wp.step);case h=>((try simp(disch:=omega)only[↓reduceIte,Za,↓X0,X1,Nat.reduceEqDiff,Int.reduceEq,Nat.reduceAdd,Nat.reduceSub]);with_reducible first|done|exact rfl|exact bT|exact bF))|apply Ze|apply Zh|with_reducible apply Zl|simp only[↓X3]|with_reducible apply Zb));try(with_reducible apply Zm;case h=>((try simp(disch:=omega)only[X1,Nat.reduceEqDiff]);with_reducible exact rfl)))
  refine Wp.saddS (by omega) (by omega) ?_
  intro y hy
  ((repeat(first|((with_reducible first|apply Wp.gs|apply Wp.cs|apply Zd|apply Zf|apply Zc|apply Zg|apply Wp.step);case h=>((try simp(disch:=omega)only[↓reduceIte,Za,↓X0,X1,Nat.reduceEqDiff,Int.reduceEq,Nat.reduceAdd,Nat.reduceSub,f2]);with_reducible first|done|exact rfl|exact bT|exact bF))|apply Ze|apply Zh|with_reducible apply Zl|simp only[↓X3]|with_reducible apply Zb));try(with_reducible apply Zm;case h=>((try simp(disch:=omega)only[X1,Nat.reduceEqDiff,f2]);with_reducible exact rfl)))
  refine Wp.saddS (by omega) (by omega) ?_
  intro z hz
  exact Wp.pure ⟨by simp only; omega,(by intros;first|with_reducible rfl|simp(disch:=omega)only[Zi,Zj,s3,s2,s1]),c3.up (by simp only; omega),_,rfl,by omega⟩
end Go.Proofs.Ytbgkimkbngocjaa.Ax
set_option linter.unusedVariables false
set_option linter.unusedSimpArgs false
namespace Go.Proofs.Ytbgkimkbngocjaa.Ax
open Go
def chain (l:List Nd):Nat→Int→List Int × Bool
 | 0,_=>([],false)
 | f+1,v=>if (gi l v).k=5 then ((gi l v).a :: (chain l f (gi l v).b).1,(chain l f (gi l v).b).2) else ([],decide ((gi l v).k=1))
theorem chain_fuel {l:List Nd} (hp:PoolOk l):∀ (f g:Nat) (v:Int),0≤v→v < l.length→v < f→v < g→chain l f v=chain l g v
 | 0,_,v,h0,_,hf,_=>by omega
 | _,0,v,h0,_,_,hg=>by omega
 | f+1,g+1,v,h0,h1,hf,hg=>by
  unfold chain
  by_cases hk:(gi l v).k=5
  ·have:=(hp.at h0 h1).pair hk
   rw [if_pos hk,if_pos hk,chain_fuel hp f g _ this.2.1 (by omega) (by omega) (by omega)]
  ·rw [if_neg hk,if_neg hk]
def Zu (l:List Nd) (v:Int):List Int × Bool:=chain l (v.toNat+1) v
theorem chainOf_eq {l:List Nd} (hp:PoolOk l) {v:Int} (h0:0≤v) (h1:v < l.length):Zu l v=if (gi l v).k=5 then ((gi l v).a :: (Zu l (gi l v).b).1,(Zu l (gi l v).b).2) else ([],decide ((gi l v).k=1)):=by
 unfold Zu
 rw [chain]
 by_cases hk:(gi l v).k=5
 ·have:=(hp.at h0 h1).pair hk
  rw [if_pos hk,if_pos hk,chain_fuel hp v.toNat ((gi l v).b.toNat+1) _ this.2.1 (by omega) (by omega) (by omega)]
 ·rw [if_neg hk,if_neg hk]
theorem chain_len (l:List Nd):∀ (f:Nat) (v:Int),(chain l f v).1.length≤f
 | 0,v=>by simp [chain]
 | f+1,v=>by
  unfold chain
  split
  ·simp only [List.length_cons]; have:=chain_len l f (gi l v).b; omega
  ·simp
theorem chainOf_len {l:List Nd} {v:Int} (h0:0≤v) (h1:v < l.length):(Zu l v).1.length≤l.length:=by
 have:=chain_len l (v.toNat+1) v
 unfold Zu; omega
theorem l89 {n0 b o:Nat} {H0:Hp} {v:Value} {l:List Nd} {cs:List Value} {e:Nat} {rw_:Bool} (hv:Li eNode n0 H0 v l) (hp:PoolOk l) (hbn:b < n0) (hb:H0 b=some (.row cs e rw_)) (ho:cs[o]?=some v) (w:Int) (h0:0≤w) (h1:w < l.length):∀ t H n id,n0≤n→Same n0 H0 H→n0≤id→id < n→t 0=ptr b o→t 1=.int .i64 w→t 6=sl id 0 0→H id=some (.row [] 1 true) →
  Wp (Ya (S89L0 (Call Try.prog) Ya) t H n) (fun out=>n≤out.n∧Same n0 H0 out.H∧out.e=.exit 0∧out.t 0=ptr b o∧∃ (u:Int) (id:Nat),0≤u∧u < l.length∧out.t 1=.int .i64 u∧(Zu l w).2=decide ((gi l u).k=1)∧n0≤id∧id < out.n∧At eInt id out.H (out.t 6) (Zu l w).1):=by
 intro t H n id hn0 hsm0 hid hidn e0 e1 e6 hH
 have hl:=hp.2
 refine Ye (fun d T H' n'=>∃ (u:Int) (id:Nat) (acc:List Int),0≤u∧u < l.length∧d=u.toNat∧n≤n'∧Same n0 H0 H'∧T 0=ptr b o∧T 1=.int .i64 u∧n0≤id∧id < n'∧At eInt id H' (T 6) acc∧(acc++(Zu l u).1=(Zu l w).1)∧(Zu l u).2=(Zu l w).2) _ ?_ w.toNat t H n ⟨w,id,[],h0,h1,rfl,by omega,hsm0,e0,e1,hid,hidn,by rw [e6]; exact .inr ⟨rfl,hH⟩,by simp,rfl⟩
 rintro d T H' n' ⟨u,id,acc,hu0,hu1,hd,hn,hsm,e0,e1,hid,hidn,hat,hc1,hc2⟩
 unfold S89L0
 have hv':=hv.keep hsm (Nat.le_refl _)
 have hb':H' b=some (.row cs e rw_):=by rw [hsm b hbn]; exact hb
 have g:=hv'.nAll hu0 hu1
 have hce:=chainOf_eq hp hu0 hu1
 by_cases hk:(gi l u).k=5
 ·have hpr:=(hp.at hu0 hu1).pair hk
  rw [if_pos hk] at hce
  rw [hce] at hc1 hc2
  simp only at hc1 hc2
  have hlen:acc.length≤3000:=by
   have hle:=congrArg List.length hc1
   rw [List.length_append] at hle
   have:=chainOf_len h0 h1
   omega
  obtain ⟨H3,f1,f2,f3⟩:=app_one (id1:=n'+18) (id2:=n'+19) (bytes:=8) (gi l u).a hat (by omega) (by decide) (by omega)
  have hsm3:Same n0 H0 H3:=fun i hi=>by rw [f3 i (by omega) (by omega) (by omega),hsm i hi]
  have g3:=(hv.keep hsm3 (Nat.le_refl _)).nAll hu0 hu1
  have hb3:H3 b=some (.row cs e rw_):=by rw [hsm3 b hbn]; exact hb
  (repeat(first|((with_reducible first|apply Wp.gs|apply Wp.cs|apply Zd|apply Zf|apply Zc|apply Zg|apply Wp.step);case h=>((try simp(disch:=omega)only[↓reduceIte,Za,↓X0,X1,Nat.reduceEqDiff,Int.reduceEq,Nat.reduceAdd,Nat.reduceSub,e0,e1,Nat.add_zero,ld_r,hb',rowGet_row,ho,g,hk,bsl_one eInt (gi l u).a (n'+18) [.int .i64 0] (.int .i64 (gi l u).a) H' rfl rfl (by decide),f1,hb3,g3]);with_reducible first|done|exact rfl|exact bT|exact bF))|apply Ze|apply Zh|with_reducible apply Zl|simp only[↓X3]|with_reducible apply Zb))
  exact Wp.pure (Nxt.go (gi l u).b.toNat (by omega) ⟨(gi l u).b,n'+19,acc++[(gi l u).a],hpr.2.1,by omega,rfl,by omega,hsm3,by simp [Zk,e0],by simp [Zk],by omega,by omega,by simp only [Zk]; exact .inr ⟨rfl,f2⟩,by rw [List.append_assoc]; exact hc1,hc2⟩)
 ·rw [if_neg hk] at hce
  rw [hce] at hc1 hc2
  (repeat(first|((with_reducible first|apply Wp.gs|apply Wp.cs|apply Zd|apply Zf|apply Zc|apply Zg|apply Wp.step);case h=>((try simp(disch:=omega)only[↓reduceIte,Za,↓X0,X1,Nat.reduceEqDiff,Int.reduceEq,Nat.reduceAdd,Nat.reduceSub,e0,e1,Nat.add_zero,ld_r,hb',rowGet_row,ho,g,hk]);with_reducible first|done|exact rfl|exact bT|exact bF))|apply Ze|apply Zh|with_reducible apply Zl|simp only[↓X3]|with_reducible apply Zb))
  refine Wp.pure (Nxt.exit ⟨Nat.le_trans hn (Nat.le_add_right _ _),hsm,rfl,by simp [Zk,e0],u,id,hu0,hu1,by simp [Zk,e1],hc2.symm,hid,Nat.lt_of_lt_of_le hidn (Nat.le_add_right _ _),?_⟩)
  rw [← hc1,List.append_nil]
  simpa [Zk] using hat
theorem k89 {n b o:Nat} {H:Hp} {v:Value} {l:List Nd} {cs:List Value} {e:Nat} {rw_:Bool} (hv:Li eNode n H v l) (hp:PoolOk l) (hbn:b < n) (hb:H b=some (.row cs e rw_)) (ho:cs[o]?=some v) (w:Int) (h0:0≤w) (h1:w < l.length):RtN Try.prog 89 [ptr b o,.int .i64 w] H n (fun r H' n'=>∃ u,r=.tuple ⟨[u,.bool (Zu l w).2]⟩∧New eInt n n' H' u (Zu l w).1):=by
 apply RtN.of
 rw [c89]; unfold S89
 (repeat(first|((with_reducible first|apply Wp.gs|apply Wp.cs|apply Zd|apply Zf|apply Zc|apply Zg|apply Wp.step);case h=>((try simp(disch:=omega)only[↓reduceIte,Za,↓X0,X1,Nat.reduceEqDiff,Int.reduceEq,Nat.reduceAdd,Nat.reduceSub,bsl_zero]);with_reducible first|done|exact rfl|exact bT|exact bF))|apply Ze|apply Zh|with_reducible apply Zl|simp only[↓X3]|with_reducible apply Zb))
 refine Wp.bind (l89 (n0:=n) (H0:=H) hv hp hbn hb ho w h0 h1 _ _ _ (n+2) (by omega) ((Same.refl _ _).set (by omega) _) (by omega) (by omega) (by simp [Zk,Zq]) (by simp [Zk,Zq]) (by simp [Zk]) (Zj _ _ _)) ?_
 rintro ⟨oe,ot,oH,on⟩ ⟨f2,f3,f4,f5,u,id,f6,f7,f8,f9,f10,f11,f12⟩
 simp only at f2 f3 f4 f5 f6 f7 f8 f9 f10 f11 f12
 have g:=(hv.keep f3 (Nat.le_refl _)).nAll f6 f7
 have hb':oH b=some (.row cs e rw_):=by rw [f3 b hbn]; exact hb
 have hnt:notTup (ot 6)=true:=by rcases f12 with ⟨h,_⟩ | ⟨h,_⟩ <;> rw [h] <;> rfl
 (repeat(first|((with_reducible first|apply Wp.gs|apply Wp.cs|apply Zd|apply Zf|apply Zc|apply Zg|apply Wp.step);case h=>((try simp(disch:=omega)only[↓reduceIte,Za,↓X0,X1,Nat.reduceEqDiff,Int.reduceEq,Nat.reduceAdd,Nat.reduceSub,f5,f8,Nat.add_zero,ld_r,hb',rowGet_row,ho,g,hnt]);with_reducible first|done|exact rfl|exact bT|exact bF))|apply Ze|apply Zh|with_reducible apply Zl|simp only[↓X3]|with_reducible apply Zb))
 exact Wp.pure ⟨by simp only; omega,f3,ot 6,by rw [f9],id,f10,by simp only; omega,f12⟩
theorem l94 {n0 b:Nat} {H0:Hp} {v:Value} {l:List Nd} {cs:List Value} {e:Nat} {rw_:Bool} (hv:Li eNode n0 H0 v l) (hp:PoolOk l) (hbn:b < n0) (hb:H0 b=some (.row cs e rw_)) (ho:cs[0]?=some v) (w:Int) (h0:0≤w) (h1:w < l.length):∀ t H n id,n0≤n→Same n0 H0 H→n0≤id→id < n→t 2=ptr b 0→t 1=.int .i64 w→t 6=sl id 0 0→H id=some (.row [] 1 true) →
  Wp (Ya (S94L0 (Call Try.prog) Ya) t H n) (fun out=>n≤out.n∧Same n0 H0 out.H∧out.e=.exit 0∧out.t 2=ptr b 0∧∃ (u:Int) (id:Nat),0≤u∧u < l.length∧out.t 1=.int .i64 u∧(Zu l w).2=decide ((gi l u).k=1)∧n0≤id∧id < out.n∧At eInt id out.H (out.t 6) (Zu l w).1):=by
 intro t H n id hn0 hsm0 hid hidn e0 e1 e6 hH
 have hl:=hp.2
 refine Ye (fun d T H' n'=>∃ (u:Int) (id:Nat) (acc:List Int),0≤u∧u < l.length∧d=u.toNat∧n≤n'∧Same n0 H0 H'∧T 2=ptr b 0∧T 1=.int .i64 u∧n0≤id∧id < n'∧At eInt id H' (T 6) acc∧(acc++(Zu l u).1=(Zu l w).1)∧(Zu l u).2=(Zu l w).2) _ ?_ w.toNat t H n ⟨w,id,[],h0,h1,rfl,by omega,hsm0,e0,e1,hid,hidn,by rw [e6]; exact .inr ⟨rfl,hH⟩,by simp,rfl⟩
 rintro d T H' n' ⟨u,id,acc,hu0,hu1,hd,hn,hsm,e0,e1,hid,hidn,hat,hc1,hc2⟩
 unfold S94L0
 have hv':=hv.keep hsm (Nat.le_refl _)
 have hb':H' b=some (.row cs e rw_):=by rw [hsm b hbn]; exact hb
 have g:=hv'.nAll hu0 hu1
 have hce:=chainOf_eq hp hu0 hu1
 by_cases hk:(gi l u).k=5
 ·have hpr:=(hp.at hu0 hu1).pair hk
  rw [if_pos hk] at hce
  rw [hce] at hc1 hc2
  simp only at hc1 hc2
  have hlen:acc.length≤3000:=by
   have hle:=congrArg List.length hc1
   rw [List.length_append] at hle
   have:=chainOf_len h0 h1
   omega
  obtain ⟨H3,f1,f2,f3⟩:=app_one (id1:=n'+14) (id2:=n'+15) (bytes:=8) (gi l u).a hat (by omega) (by decide) (by omega)
  have hsm3:Same n0 H0 H3:=fun i hi=>by rw [f3 i (by omega) (by omega) (by omega),hsm i hi]
  have g3:=(hv.keep hsm3 (Nat.le_refl _)).nAll hu0 hu1
  have hb3:H3 b=some (.row cs e rw_):=by rw [hsm3 b hbn]; exact hb
  (repeat(first|((with_reducible first|apply Wp.gs|apply Wp.cs|apply Zd|apply Zf|apply Zc|apply Zg|apply Wp.step);case h=>((try simp(disch:=omega)only[↓reduceIte,Za,↓X0,X1,Nat.reduceEqDiff,Int.reduceEq,Nat.reduceAdd,Nat.reduceSub,e0,e1,Nat.add_zero,ld_r,hb',rowGet_row,ho,g,hk,bsl_one eInt (gi l u).a (n'+14) [.int .i64 0] (.int .i64 (gi l u).a) H' rfl rfl (by decide),f1,hb3,g3]);with_reducible first|done|exact rfl|exact bT|exact bF))|apply Ze|apply Zh|with_reducible apply Zl|simp only[↓X3]|with_reducible apply Zb))
  exact Wp.pure (Nxt.go (gi l u).b.toNat (by omega) ⟨(gi l u).b,n'+15,acc++[(gi l u).a],hpr.2.1,by omega,rfl,by omega,hsm3,by simp [Zk,e0],by simp [Zk],by omega,by omega,by simp only [Zk]; exact .inr ⟨rfl,f2⟩,by rw [List.append_assoc]; exact hc1,hc2⟩)
 ·rw [if_neg hk] at hce
  rw [hce] at hc1 hc2
  (repeat(first|((with_reducible first|apply Wp.gs|apply Wp.cs|apply Zd|apply Zf|apply Zc|apply Zg|apply Wp.step);case h=>((try simp(disch:=omega)only[↓reduceIte,Za,↓X0,X1,Nat.reduceEqDiff,Int.reduceEq,Nat.reduceAdd,Nat.reduceSub,e0,e1,Nat.add_zero,ld_r,hb',rowGet_row,ho,g,hk]);with_reducible first|done|exact rfl|exact bT|exact bF))|apply Ze|apply Zh|with_reducible apply Zl|simp only[↓X3]|with_reducible apply Zb))
  refine Wp.pure (Nxt.exit ⟨Nat.le_trans hn (Nat.le_add_right _ _),hsm,rfl,by simp [Zk,e0],u,id,hu0,hu1,by simp [Zk,e1],hc2.symm,hid,Nat.lt_of_lt_of_le hidn (Nat.le_add_right _ _),?_⟩)
  rw [← hc1,List.append_nil]
  simpa [Zk] using hat
def listOf (l:List Nd) (w:Int):List Int × Bool:=if (Zu l w).2=true then ((Zu l w).1,true) else ([],false)
theorem k94 {n:Nat} {H:Hp} {v:Value} {l:List Nd} (hv:Li eNode n H v l) (hp:PoolOk l) (w:Int) (h0:0≤w) (h1:w < l.length):RtN Try.prog 94 [.agg ⟨[v]⟩,.int .i64 w] H n (fun r H' n'=>∃ u,r=.tuple ⟨[u,.bool (listOf l w).2]⟩∧New eInt n n' H' u (listOf l w).1):=by
 apply RtN.of
 rw [c94]; unfold S94
 have s1:Same n H (H.set n (some (.row [v] 0 true))):=by (repeat (first | exact Same.refl _ _ | refine Same.set ?_ (by omega) _))
 (repeat(first|((with_reducible first|apply Wp.gs|apply Wp.cs|apply Zd|apply Zf|apply Zc|apply Zg|apply Wp.step);case h=>((try simp(disch:=omega)only[↓reduceIte,Za,↓X0,X1,Nat.reduceEqDiff,Int.reduceEq,Nat.reduceAdd,Nat.reduceSub,X2,Zi,Nat.reduceLeDiff,bsl_zero]);with_reducible first|done|exact rfl|exact bT|exact bF))|apply Ze|apply Zh|with_reducible apply Zl|simp only[↓X3]|with_reducible apply Zb))
 refine Wp.bind (l94 (n0:=n+1) (b:=n) (H0:=H.set n (some (.row [v] 0 true))) ((hv.keep s1 (Nat.le_refl _)).up (by omega)) hp (by omega) (Zj _ _ _) rfl w h0 h1 _ _ _ (n+3) (by omega) ((Same.refl _ _).set (by omega) _) (by omega) (by omega) (by simp [Zk]) (by simp [Zk,Zq]) (by simp [Zk]) (Zj _ _ _)) ?_
 rintro ⟨oe,ot,oH,on⟩ ⟨f2,f3,f4,f5,u,id,f6,f7,f8,f9,f10,f11,f12⟩
 simp only at f2 f3 f4 f5 f6 f7 f8 f9 f10 f11 f12
 have g:=((hv.keep s1 (Nat.le_refl _)).keep (f3.less (show n≤n+1 by omega)) (Nat.le_refl _)).nAll f6 f7
 have hb':oH n=some (.row [v] 0 true):=by rw [f3 n (by omega)]; exact Zj _ _ _
 have hnt:notTup (ot 6)=true:=by rcases f12 with ⟨h,_⟩ | ⟨h,_⟩ <;> rw [h] <;> rfl
 have s3:Same n H oH:=s1.trans (f3.less (show n≤n+1 by omega)) (Nat.le_refl _)
 unfold listOf
 by_cases hk:(gi l u).k=1
 ·rw [decide_eq_true hk] at f9
  ((repeat(first|((with_reducible first|apply Wp.gs|apply Wp.cs|apply Zd|apply Zf|apply Zc|apply Zg|apply Wp.step);case h=>((try simp(disch:=omega)only[↓reduceIte,Za,↓X0,X1,Nat.reduceEqDiff,Int.reduceEq,Nat.reduceAdd,Nat.reduceSub,X2,Zi,Nat.reduceLeDiff,f5,f8,hb',g,hk,hnt]);with_reducible first|done|exact rfl|exact bT|exact bF))|apply Ze|apply Zh|with_reducible apply Zl|simp only[↓X3]|with_reducible apply Zb));try(with_reducible apply Zm;case h=>((try simp(disch:=omega)only[X1,Nat.reduceEqDiff,f5,f8,hb',g,hk,hnt]);with_reducible exact rfl)))
  rw [f9]
  exact Wp.pure ⟨by simp only; omega,s3,ot 6,rfl,id,by omega,by simp only; omega,f12⟩
 ·rw [decide_eq_false hk] at f9
  ((repeat(first|((with_reducible first|apply Wp.gs|apply Wp.cs|apply Zd|apply Zf|apply Zc|apply Zg|apply Wp.step);case h=>((try simp(disch:=omega)only[↓reduceIte,Za,↓X0,X1,Nat.reduceEqDiff,Int.reduceEq,Nat.reduceAdd,Nat.reduceSub,X2,Zi,Nat.reduceLeDiff,f5,f8,hb',g,hk,bsl_zero]);with_reducible first|done|exact rfl|exact bT|exact bF))|apply Ze|apply Zh|with_reducible apply Zl|simp only[↓X3]|with_reducible apply Zb));try(with_reducible apply Zm;case h=>((try simp(disch:=omega)only[X1,Nat.reduceEqDiff,f5,f8,hb',g,hk,bsl_zero]);with_reducible exact rfl)))
  rw [f9]
  exact Wp.pure ⟨by simp only; omega,s3.set (by omega) _,_,rfl,on+7,by omega,by simp only; omega,.inr ⟨rfl,Zj _ _ _⟩⟩
end Go.Proofs.Ytbgkimkbngocjaa.Ax
set_option linter.unusedVariables false
set_option linter.unusedSimpArgs false
namespace Go.Proofs.Ytbgkimkbngocjaa.Ax
open Go
def fIdx (s:ByteArray):List ByteArray→Nat→Option Nat
 | [],_=>none
 | x :: l,j=>if s=x then some j else fIdx s l (j+1)
theorem l126 {n0:Nat} {H:Hp} {v:Value} {l:List ByteArray} (s:ByteArray) (hv:Li eStr n0 H v l) (hl:l.length≤1000000):∀ t n,t 0=v→t 1=.string s→t 7=.int .i64 l.length→t 8=.int .i64 0 →
  Wp (Ya (S126L0 (Call Try.prog) Ya) t H n) (fun o=>n≤o.n∧o.H=H∧((o.e=.exit 0∧fIdx s l 0=none)∨(o.e=.ret∧∃ k:Nat,o.t 4=.int .i64 k∧fIdx s l 0=some k))):=by
 intro t n e0 e1 e7 e8
 refine Ye (fun d t H' n'=>∃ j:Nat,j+d=l.length∧n≤n'∧H'=H∧t 0=v∧t 1=.string s∧t 7=.int .i64 l.length∧t 8=.int .i64 j∧fIdx s l 0=fIdx s (l.drop j) j) _ ?_ l.length t H n ⟨0,by omega,by omega,rfl,e0,e1,e7,e8,rfl⟩
 rintro d t H' n' ⟨j,hj,hn,rfl,e0,e1,e7,e8,hf⟩
 unfold S126L0
 by_cases hlt:(j:Int) < l.length
 ·have hlt':j < l.length:=by omega
  have g:=hv.tAll (by omega) hlt
  have hd:l.drop j=gi l (j:Int) :: l.drop (j+1):=by rw [gi_nat hlt']; exact List.drop_eq_getElem_cons hlt'
  rw [hd,fIdx] at hf
  have hw:=wj (j:=j) (len:=l.length) hlt' (by omega)
  by_cases hs:s=gi l (j:Int)
  ·((repeat(first|((with_reducible first|apply Wp.gs|apply Wp.cs|apply Zd|apply Zf|apply Zc|apply Zg|apply Wp.step);case h=>((try simp(disch:=omega)only[↓reduceIte,Za,↓X0,X1,Nat.reduceEqDiff,Int.reduceEq,Nat.reduceAdd,Nat.reduceSub,e0,e1,e7,e8,hlt,g,hs]);with_reducible first|done|exact rfl|exact bT|exact bF))|apply Ze|apply Zh|with_reducible apply Zl|simp only[↓X3]|with_reducible apply Zb));try(with_reducible apply Zm;case h=>((try simp(disch:=omega)only[X1,Nat.reduceEqDiff,e0,e1,e7,e8,hlt,g,hs]);with_reducible exact rfl)))
   rw [if_pos hs] at hf
   exact Wp.pure (Nxt.ret ⟨Nat.le_trans hn (Nat.le_add_right _ _),rfl,.inr ⟨rfl,j,by simp [Zk,e8],hf⟩⟩)
  ·((repeat(first|((with_reducible first|apply Wp.gs|apply Wp.cs|apply Zd|apply Zf|apply Zc|apply Zg|apply Wp.step);case h=>((try simp(disch:=omega)only[↓reduceIte,Za,↓X0,X1,Nat.reduceEqDiff,Int.reduceEq,Nat.reduceAdd,Nat.reduceSub,e0,e1,e7,e8,hlt,g,hs,hw]);with_reducible first|done|exact rfl|exact bT|exact bF))|apply Ze|apply Zh|with_reducible apply Zl|simp only[↓X3]|with_reducible apply Zb));try(with_reducible apply Zm;case h=>((try simp(disch:=omega)only[X1,Nat.reduceEqDiff,e0,e1,e7,e8,hlt,g,hs,hw]);with_reducible exact rfl)))
   rw [if_neg hs] at hf
   exact Wp.pure (Nxt.go (d - 1) (by omega) ⟨j+1,by omega,by omega,rfl,by simp [Zk,e0],by simp [Zk,e1],by simp [Zk,e7],by simp [Zk],hf⟩)
 ·((repeat(first|((with_reducible first|apply Wp.gs|apply Wp.cs|apply Zd|apply Zf|apply Zc|apply Zg|apply Wp.step);case h=>((try simp(disch:=omega)only[↓reduceIte,Za,↓X0,X1,Nat.reduceEqDiff,Int.reduceEq,Nat.reduceAdd,Nat.reduceSub,e0,e1,e7,e8,hlt]);with_reducible first|done|exact rfl|exact bT|exact bF))|apply Ze|apply Zh|with_reducible apply Zl|simp only[↓X3]|with_reducible apply Zb));try(with_reducible apply Zm;case h=>((try simp(disch:=omega)only[X1,Nat.reduceEqDiff,e0,e1,e7,e8,hlt]);with_reducible exact rfl)))
  rw [List.drop_eq_nil_of_le (by omega)] at hf
  exact Wp.pure (Nxt.exit ⟨Nat.le_trans hn (Nat.le_add_right _ _),rfl,.inl ⟨rfl,hf⟩⟩)
theorem k126 {n:Nat} {H:Hp} {v:Value} {l:List ByteArray} (s:ByteArray) (hv:Li eStr n H v l) (hl:l.length≤1000000):∃ n',n≤n'∧Call Try.prog 126 [v,.string s] H n=some (.int .i64 (match fIdx s l 0 with | none => -1 | some k=>(k:Int)),H,n'):=by
 rw [c126]; unfold S126
 simp(disch:=omega)only[↓reduceIte,Za,↓X0,X1,Nat.reduceEqDiff,Int.reduceEq,Nat.reduceAdd,Nat.reduceSub,hv.len]
 generalize hT:put _ _ _=T
 obtain ⟨⟨oe,ot,oH,on⟩,f1,f2,f3,f4⟩:=l126 s hv hl T (n+4) (by rw [← hT]; simp [Zk,Zq]) (by rw [← hT]; simp [Zk,Zq]) (by rw [← hT]; simp [Zk]) (by rw [← hT]; simp [Zk])
 simp only at f2 f3 f4
 rw [f1]
 subst f3
 rcases f4 with ⟨rfl,f4⟩ | ⟨rfl,k,f4,f5⟩
 ·simp(disch:=omega)only[↓reduceIte,Za,↓X0,X1,Nat.reduceEqDiff,Int.reduceEq,Nat.reduceAdd,Nat.reduceSub,outOf,f4]
  exact ⟨_,by omega,rfl⟩
 ·simp(disch:=omega)only[↓reduceIte,Za,↓X0,X1,Nat.reduceEqDiff,Int.reduceEq,Nat.reduceAdd,Nat.reduceSub,outOf,f4,f5]
  exact ⟨_,by omega,rfl⟩
end Go.Proofs.Ytbgkimkbngocjaa.Ax
set_option linter.unusedVariables false
set_option linter.unusedSimpArgs false
namespace Go.Proofs.Ytbgkimkbngocjaa.Ax
open Go
structure CS where
 how:Int
 L:List Ins
 D:List Df
abbrev Env:=List (List ByteArray)
def Zw (op n i:Int):Ins:=⟨op,n,i,⟨#[]⟩⟩
def cFail (h:Int) (s:CS):CS:=if s.how=0 then ⟨h,s.L,s.D⟩ else s
def cPut (x:Ins) (s:CS):CS:=if s.how=0 then (if s.L.length=400 then ⟨3,s.L,s.D⟩ else ⟨0,s.L++[x],s.D⟩) else s
def setN (L:List Ins) (at_:Nat):List Ins:=L.set at_ ⟨(gi L (at_:Int)).op,(L.length:Int),(gi L (at_:Int)).i,(gi L (at_:Int)).s⟩
def cTo (at_:Nat) (s:CS):CS:=if s.how=0 then ⟨0,setN s.L at_,s.D⟩ else s
def wQuote:ByteArray:=⟨#[113,117,111,116,101]⟩
def wIf:ByteArray:=⟨#[105,102]⟩
def wFn:ByteArray:=⟨#[102,110]⟩
def wDo:ByteArray:=⟨#[100,111]⟩
def wLet:ByteArray:=⟨#[108,101,116]⟩
def wDefine:ByteArray:=⟨#[100,101,102,105,110,101]⟩
def wMain:ByteArray:=⟨#[109,97,105,110]⟩
def special (s:ByteArray):Bool:=decide (s=wQuote∨s=wIf∨s=wFn∨s=wDo∨s=wLet∨s=wDefine)
def isVar (x:Nd):Bool:=decide (x.k=4) && !special x.s
def noDup (l:List ByteArray):Bool:=(List.range l.length).all fun i=>(fIdx (gi l (i:Int)) (l.take i) 0).isNone
def cNames (p:List Nd) (l:List Int):List ByteArray × Int :=
 if (l.all fun v=>isVar (gi p v))=true∧l.length≤4 then
  (if noDup (l.map fun v=>(gi p v).s)=true then (l.map fun v=>(gi p v).s,0) else ([],2))
 else ([],1)
def cVar (s:ByteArray):Env→Nat→Option (Nat × Nat)
 | [],_=>none
 | f :: r,n=>match fIdx s f 0 with
  | some i=>some (n,i)
  | none=>cVar s r (n+1)
def varIns (s:ByteArray) (e:Env):Ins:=match cVar s e 0 with
 | some (n,i)=>Zw 2 n i
 | none=>⟨3,0,0,s⟩
abbrev CEx:=Int→Env→CS→CS
def cBody (E:CEx) (e:Env):List Int→CS→CS
 | [],s=>s
 | v :: r,s=>r.foldl (fun s v=>E v e (cPut (Zw 9 0 0) s)) (E v e s)
def cFun (E:CEx) (names:List ByteArray) (body:List Int) (e:Env) (s:CS):CS :=
 let s1:=cPut (Zw 6 (s.L.length+2) names.length) s
 let s2:=cPut (Zw 5 0 0) s1
 let s3:=cBody E (names :: e) body s2
 let s4:=cPut (Zw 8 0 0) s3
 cTo s1.L.length s4
def cIf (E:CEx) (l:List Int) (e:Env) (s:CS):CS :=
 let s1:=E (gi l 1) e s
 let s2:=cPut (Zw 4 0 0) s1
 let s3:=E (gi l 2) e s2
 let s4:=cPut (Zw 5 0 0) s3
 let s5:=cTo s1.L.length s4
 let s6:=E (gi l 3) e s5
 cTo s3.L.length s6
def cFn (E:CEx) (p:List Nd) (params:List Int) (body:List Int) (e:Env) (s:CS):CS :=
 if (cNames p params).2=0 then cFun E (cNames p params).1 body e s else cFail (cNames p params).2 s
def cForm (E:CEx) (p:List Nd) (w:ByteArray) (l:List Int) (e:Env) (s:CS):CS :=
 if w=wQuote∧l.length=2 then cPut (Zw 1 (gi l 1) 0) s
 else if w=wIf∧l.length=4 then cIf E l e s
 else if w=wDo∧1 < l.length then cBody E e (l.drop 1) s
 else if w=wFn∧2 < l.length then (if (Zu p (gi l 1)).2=true then cFn E p (Zu p (gi l 1)).1 (l.drop 2) e s else cFail 1 s)
 else if w=wLet∧3 < l.length then
  (if (cNames p [gi l 1]).2=0 then cPut (Zw 7 0 1) (E (gi l 2) e (cFun E (cNames p [gi l 1]).1 (l.drop 3) e s)) else cFail (cNames p [gi l 1]).2 s)
 else cFail 1 s
def cExpr (p:List Nd):Nat→CEx
 | 0,_,_,s=>s
 | k+1,v,e,s =>
  if s.how=0 then
   if (gi p v).k=1∨(gi p v).k=2∨(gi p v).k=3 then cPut (Zw 1 v 0) s
   else if (gi p v).k=4 then (if special (gi p v).s=true then cFail 1 s else cPut (varIns (gi p v).s e) s)
   else if (gi p v).k=5∧(Zu p v).2=true then
    (if (gi p (gi (Zu p v).1 0)).k=4∧special (gi p (gi (Zu p v).1 0)).s=true then cForm (cExpr p k) p (gi p (gi (Zu p v).1 0)).s (Zu p v).1 e s
    else if 5 < (Zu p v).1.length then cFail 1 s
    else cPut (Zw 7 0 ((Zu p v).1.length - 1)) ((Zu p v).1.foldl (fun s x=>cExpr p k x e s) s))
   else cFail 1 s
  else s
def hasDef (name:ByteArray) (D:List Df):Bool:=D.any fun d=>decide (d.s=name)
def cDefine (E:CEx) (name:ByteArray) (params:List ByteArray) (body:List Int) (s:CS):CS :=
 if hasDef name s.D=true then cFail 2 s
 else cPut (Zw 8 0 0) (cBody E [params] body ⟨s.how,s.L,s.D++[⟨name,s.L.length,params.length⟩]⟩)
def cDefn (E:CEx) (p:List Nd) (l:List Int) (s:CS):CS :=
 if 2 < l.length∧(gi p (gi l 1)).k=5∧(Zu p (gi l 1)).2=true then
  (if isVar (gi p (gi (Zu p (gi l 1)).1 0))=true then
   (if (cNames p ((Zu p (gi l 1)).1.drop 1)).2=0 then cDefine E (gi p (gi (Zu p (gi l 1)).1 0)).s (cNames p ((Zu p (gi l 1)).1.drop 1)).1 (l.drop 2) s
   else cFail (cNames p ((Zu p (gi l 1)).1.drop 1)).2 s)
  else cFail 1 s)
 else cFail 1 s
def isDefine (p:List Nd) (v:Int):Bool:=decide ((gi p v).k=5∧(Zu p v).2=true∧(gi p (gi (Zu p v).1 0)).k=4∧(gi p (gi (Zu p v).1 0)).s=wDefine)
def cTop (E:CEx) (p:List Nd) (v:Int) (s:CS):CS :=
 if isDefine p v=true then cDefn E p (Zu p v).1 s else cDefine E wMain [] [v] s
theorem cFail_how {h:Int} {s:CS} (hs:s.how≠0):cFail h s=s:=by unfold cFail; rw [if_neg hs]
theorem cFail_no {h:Int} {s:CS} (hh:h≠0):(cFail h s).how≠0:=by
 unfold cFail; split
 ·exact hh
 ·assumption
theorem cPut_how {x:Ins} {s:CS} (hs:s.how≠0):cPut x s=s:=by unfold cPut; rw [if_neg hs]
theorem cTo_how {a:Nat} {s:CS} (hs:s.how≠0):cTo a s=s:=by unfold cTo; rw [if_neg hs]
theorem setN_len (L:List Ins) (a:Nat):(setN L a).length=L.length:=by simp [setN]
def Goes (f:CS→CS):Prop:=∀ s,(s.how≠0→f s=s)∧s.L.length≤(f s).L.length∧(f s).D=s.D
theorem Goes.put (x:Ins):Goes (cPut x):=fun s=>⟨cPut_how,by unfold cPut; (repeat' split) <;> simp,by unfold cPut; (repeat' split) <;> rfl⟩
theorem Goes.fail (h:Int):Goes (cFail h):=fun s=>⟨cFail_how,by unfold cFail; split <;> simp,by unfold cFail; split <;> rfl⟩
theorem Goes.to (a:Nat):Goes (cTo a):=fun s=>⟨cTo_how,by unfold cTo; split <;> simp [setN_len],by unfold cTo; split <;> rfl⟩
theorem Goes.id:Goes (fun s=>s):=fun s=>⟨fun _=>rfl,Nat.le_refl _,rfl⟩
theorem Goes.comp {f g:CS→CS} (hf:Goes f) (hg:Goes g):Goes (fun s=>g (f s)):=fun s=>by
 obtain ⟨a1,a2,a3⟩:=hf s
 obtain ⟨b1,b2,b3⟩:=hg (f s)
 refine ⟨fun h=>?_,Nat.le_trans a2 b2,b3.trans a3⟩
 have:=a1 h
 show g (f s)=s
 rw [this] at b1 ⊢
 exact b1 h
theorem Goes.fold {f:Int→CS→CS} (hf:∀ v,Goes (f v)):∀ l:List Int,Goes (fun s=>l.foldl (fun s v=>f v s) s)
 | []=>Goes.id
 | v :: l=>(hf v).comp (Goes.fold hf l)
theorem Goes.body {E:CEx} (hE:∀ v e,Goes (E v e)) (e:Env):∀ l:List Int,Goes (cBody E e l)
 | []=>Goes.id
 | v :: l=>(hE v e).comp (Goes.fold (f:=fun v s=>E v e (cPut (Zw 9 0 0) s)) (fun v=>(Goes.put _).comp (hE v e)) l)
theorem Goes.ite {c:Prop} [Decidable c] {f g:CS→CS} (hf:Goes f) (hg:Goes g):Goes (fun s=>if c then f s else g s):=by
 intro s
 by_cases h:c
 ·simp only [h,if_true]; exact hf s
 ·simp only [h,if_false]; exact hg s
theorem Goes.fun_ {E:CEx} (hE:∀ v e,Goes (E v e)) (names:List ByteArray) (body:List Int) (e:Env):Goes (cFun E names body e):=by
 intro s
 unfold cFun
 simp only
 have p1:=Goes.put (Zw 6 (s.L.length+2) names.length) s
 generalize cPut (Zw 6 (s.L.length+2) names.length) s=s1 at *
 have p2:=((((Goes.put (Zw 5 0 0)).comp (Goes.body hE (names :: e) body)).comp (Goes.put (Zw 8 0 0))).comp (Goes.to s1.L.length)) s1
 simp only at p2
 refine ⟨fun h=>?_,by omega,p2.2.2.trans p1.2.2⟩
 have:=p1.1 h
 subst this
 exact p2.1 h
theorem Goes.if_ {E:CEx} (hE:∀ v e,Goes (E v e)) (l:List Int) (e:Env):Goes (cIf E l e):=by
 intro s
 unfold cIf
 simp only
 have p1:=hE (gi l 1) e s
 generalize E (gi l 1) e s=s1 at *
 have p2:=((Goes.put (Zw 4 0 0)).comp (hE (gi l 2) e)) s1
 simp only at p2
 generalize E (gi l 2) e (cPut (Zw 4 0 0) s1)=s3 at *
 have p3:=((((Goes.put (Zw 5 0 0)).comp (Goes.to s1.L.length)).comp (hE (gi l 3) e)).comp (Goes.to s3.L.length)) s3
 simp only at p3
 refine ⟨fun h=>?_,by omega,p3.2.2.trans (p2.2.2.trans p1.2.2)⟩
 have h1:=p1.1 h
 subst h1
 have h2:=p2.1 h
 subst h2
 exact p3.1 h
theorem Goes.form {E:CEx} (hE:∀ v e,Goes (E v e)) (p:List Nd) (w:ByteArray) (l:List Int) (e:Env):Goes (cForm E p w l e):=by
 unfold cForm cFn
 refine Goes.ite (Goes.put _) (Goes.ite (Goes.if_ hE l e) (Goes.ite (Goes.body hE e _) (Goes.ite (Goes.ite (Goes.ite (Goes.fun_ hE _ _ e) (Goes.fail _)) (Goes.fail _)) (Goes.ite (Goes.ite ?_ (Goes.fail _)) (Goes.fail _)))))
 exact ((Goes.fun_ hE _ _ e).comp (hE _ e)).comp (Goes.put _)
theorem Goes.expr (p:List Nd):∀ (k:Nat) (v:Int) (e:Env),Goes (cExpr p k v e)
 | 0,v,e=>Goes.id
 | k+1,v,e=>by
  have hE:=Goes.expr p k
  intro s
  by_cases hs:s.how=0
  ·have:=(Goes.ite (c:=(gi p v).k=1∨(gi p v).k=2∨(gi p v).k=3) (Goes.put (Zw 1 v 0)) (Goes.ite (c:=(gi p v).k=4) (Goes.ite (c:=special (gi p v).s=true) (Goes.fail 1) (Goes.put (varIns (gi p v).s e))) (Goes.ite (c:=(gi p v).k=5∧(Zu p v).2=true) (Goes.ite (c:=(gi p (gi (Zu p v).1 0)).k=4∧special (gi p (gi (Zu p v).1 0)).s=true) (Goes.form hE p (gi p (gi (Zu p v).1 0)).s (Zu p v).1 e) (Goes.ite (c:=5 < (Zu p v).1.length) (Goes.fail 1) ((Goes.fold (f:=fun x s=>cExpr p k x e s) (fun x=>hE x e) (Zu p v).1).comp (Goes.put (Zw 7 0 ((Zu p v).1.length - 1)))))) (Goes.fail 1)))) s
   rw [cExpr,if_pos hs]
   exact this
  ·rw [cExpr,if_neg hs]
   exact ⟨fun _=>rfl,Nat.le_refl _,rfl⟩
def cAll (p:List Nd):List Int→Nat→CS→CS × Nat
 | [],i,s=>(s,i)
 | v :: r,i,s =>
  if (cTop (cExpr p p.length) p v s).how=0 then cAll p r (i+1) (cTop (cExpr p p.length) p v s) else (cTop (cExpr p p.length) p v s,i)
end Go.Proofs.Ytbgkimkbngocjaa.Ax
set_option linter.unusedVariables false
set_option linter.unusedSimpArgs false
set_option maxHeartbeats 4000000
namespace Go.Proofs.Ytbgkimkbngocjaa.Ax
open Go
def DfOk (m:Int) (ld:List Df) (j:Nat):Prop:=nameOk (gi ld (j:Int)).s=true∧defOf ld (gi ld (j:Int)).s=j∧(0≤(gi ld (j:Int)).at_∧(gi ld (j:Int)).at_≤m - 1)∧(0≤(gi ld (j:Int)).args∧(gi ld (j:Int)).args≤4)
instance (m:Int) (ld:List Df) (j:Nat):Decidable (DfOk m ld j):=by unfold DfOk; infer_instance
def InsAll (k:Int) (li:List Ins):Prop:=∀ j:Nat,j < li.length→InsOk (gi li (j:Int)) k li.length j
def DfAll (m:Int) (ld:List Df):Prop:=∀ j:Nat,j < ld.length→DfOk m ld j
instance (k:Int) (li:List Ins):Decidable (InsAll k li):=by unfold InsAll; infer_instance
instance (m:Int) (ld:List Df):Decidable (DfAll m ld):=by unfold DfAll; infer_instance
def CodeOk (l:List Nd) (li:List Ins) (ld:List Df):Prop:=PoolOk l∧li.length≤400∧ld.length≤20∧InsAll l.length li∧DfAll li.length ld
instance (l:List Nd) (li:List Ins) (ld:List Df):Decidable (CodeOk l li ld):=by unfold CodeOk; infer_instance
section
variable {n0 b:Nat} {H0:Hp} {v vl vd:Value} {l:List Nd} {li:List Ins} {ld:List Df}
theorem l012 (hb:H0 b=some (.row [v,vl,vd] 0 true)) (hbn:b < n0) (hv:Li eNode n0 H0 v l) (hl:l.length≤1048576) (hvl:Li eIns n0 H0 vl li) (hli:li.length≤400) (hsz:∀ x∈li,x.s.size≤1048576):∀ t H n,n0≤n→(∀ i,i < n0→H i=H0 i)→t 1=ptr b 0→t 24=.int .i64 li.length→t 25=.int .i64 0 →
  Wp (Ya (S12L0 (Call Try.prog) Ya) t H n) (fun o=>n≤o.n∧(∀ i,i < n0→o.H i=H0 i)∧((o.e=.exit 0∧o.t 1=ptr b 0∧InsAll l.length li)∨(o.e=.ret∧o.t 2=.bool false∧¬ InsAll l.length li))):=by
 intro t H n hn0 s0 e1 e24 e25
 refine Ye (fun d T H' n'=>∃ j:Nat,j+d=li.length∧n≤n'∧(∀ i,i < n0→H' i=H0 i)∧T 1=ptr b 0∧T 24=.int .i64 li.length∧T 25=.int .i64 j∧∀ q:Nat,q < j→InsOk (gi li (q:Int)) l.length li.length q) _ ?_ li.length t H n ⟨0,by omega,by omega,s0,e1,e24,e25,fun q hq=>by omega⟩
 rintro d T H' n' ⟨j,hj,hn,s1,e1,e24,e25,hall⟩
 unfold S12L0
 by_cases hlt:j < li.length
 ·have hlti:(j:Int) < li.length:=by omega
  have hw:=wj (j:=j) (len:=li.length) hlt (by omega)
  have hb':H' b=some (.row [v,vl,vd] 0 true):=by rw [s1 b hbn]; exact hb
  ((repeat(first|((with_reducible first|apply Wp.gs|apply Wp.cs|apply Zd|apply Zf|apply Zc|apply Zg|apply Wp.step);case h=>((try simp(disch:=omega)only[↓reduceIte,Za,↓X0,X1,Nat.reduceEqDiff,Int.reduceEq,Nat.reduceAdd,Nat.reduceSub,X2,Zi,Nat.reduceLeDiff,e1,e24,e25,hlti,hb']);with_reducible first|done|exact rfl|exact bT|exact bF))|apply Ze|apply Zh|with_reducible apply Zl|simp only[↓X3]|with_reducible apply Zb));try(with_reducible apply Zm;case h=>((try simp(disch:=omega)only[X1,Nat.reduceEqDiff,e1,e24,e25,hlti,hb']);with_reducible exact rfl)))
  refine Wp.rt (k54 (hv.mv (by omega) (by intros;first|with_reducible rfl|simp(disch:=omega)only[Zi,Zj,s1])) hl (hvl.mv (by omega) (by intros;first|with_reducible rfl|simp(disch:=omega)only[Zi,Zj,s1])) hli hsz hlt) ?_
  intro H1 n1 q1 s2
  by_cases hok:InsOk (gi li (j:Int)) l.length li.length j
  ·(repeat(first|((with_reducible first|apply Wp.gs|apply Wp.cs|apply Zd|apply Zf|apply Zc|apply Zg|apply Wp.step);case h=>((try simp(disch:=omega)only[↓reduceIte,Za,↓X0,X1,Nat.reduceEqDiff,Int.reduceEq,Nat.reduceAdd,Nat.reduceSub,X2,Zi,Nat.reduceLeDiff,e25,hok,hw]);with_reducible first|done|exact rfl|exact bT|exact bF))|apply Ze|apply Zh|with_reducible apply Zl|simp only[↓X3]|with_reducible apply Zb))
   refine Wp.pure (Nxt.go (d - 1) (by omega) ⟨j+1,by omega,by omega,(by intros;first|with_reducible rfl|simp(disch:=omega)only[Zi,Zj,s2,s1]),by simp [Zk,e1],by simp [Zk,e24],by simp [Zk],fun q hq=>?_⟩)
   by_cases hqj:q=j
   ·subst hqj; exact hok
   ·exact hall q (by omega)
  ·(repeat(first|((with_reducible first|apply Wp.gs|apply Wp.cs|apply Zd|apply Zf|apply Zc|apply Zg|apply Wp.step);case h=>((try simp(disch:=omega)only[↓reduceIte,Za,↓X0,X1,Nat.reduceEqDiff,Int.reduceEq,Nat.reduceAdd,Nat.reduceSub,X2,Zi,Nat.reduceLeDiff,e25,hok,hw]);with_reducible first|done|exact rfl|exact bT|exact bF))|apply Ze|apply Zh|with_reducible apply Zl|simp only[↓X3]|with_reducible apply Zb))
   exact Wp.pure (Nxt.ret ⟨by simp only; omega,(by intros;first|with_reducible rfl|simp(disch:=omega)only[Zi,Zj,s2,s1]),.inr ⟨rfl,by simp [Zk],fun h=>hok (h j hlt)⟩⟩)
 ·have hlti:¬ (j:Int) < li.length:=by omega
  (repeat(first|((with_reducible first|apply Wp.gs|apply Wp.cs|apply Zd|apply Zf|apply Zc|apply Zg|apply Wp.step);case h=>((try simp(disch:=omega)only[↓reduceIte,Za,↓X0,X1,Nat.reduceEqDiff,Int.reduceEq,Nat.reduceAdd,Nat.reduceSub,e24,e25,hlti]);with_reducible first|done|exact rfl|exact bT|exact bF))|apply Ze|apply Zh|with_reducible apply Zl|simp only[↓X3]|with_reducible apply Zb))
  exact Wp.pure (Nxt.exit ⟨by simp only; omega,s1,.inl ⟨rfl,by simp [Zk,e1],fun q hq=>hall q (by omega)⟩⟩)
theorem l014 (hb:H0 b=some (.row [v,vl,vd] 0 true)) (hbn:b < n0) (hv:Li eNode n0 H0 v l) (hl:l.length≤1048576) (hvl:Li eIns n0 H0 vl li) (hli:li.length≤400) (hsz:∀ x∈li,x.s.size≤1048576):∀ t H n,n0≤n→(∀ i,i < n0→H i=H0 i)→t 1=ptr b 0→t 3=.int .i64 0 →
  Wp (Ya (S14L0 (Call Try.prog) Ya) t H n) (fun o=>n≤o.n∧(∀ i,i < n0→o.H i=H0 i)∧((o.e=.exit 0∧o.t 1=ptr b 0∧InsAll l.length li)∨(o.e=.ret∧o.t 2=.bool false∧¬ InsAll l.length li))):=by
 intro t H n hn0 s0 e1 e3
 refine Ye (fun d T H' n'=>∃ j:Nat,j+d=li.length∧n≤n'∧(∀ i,i < n0→H' i=H0 i)∧T 1=ptr b 0∧T 3=.int .i64 j∧∀ q:Nat,q < j→InsOk (gi li (q:Int)) l.length li.length q) _ ?_ li.length t H n ⟨0,by omega,by omega,s0,e1,e3,fun q hq=>by omega⟩
 rintro d T H' n' ⟨j,hj,hn,s1,e1,e3,hall⟩
 unfold S14L0
 have hb':H' b=some (.row [v,vl,vd] 0 true):=by rw [s1 b hbn]; exact hb
 have hlen:=hvl.len
 by_cases hlt:j < li.length
 ·have hlti:(j:Int) < li.length:=by omega
  have hw:=wj (j:=j) (len:=li.length) hlt (by omega)
  ((repeat(first|((with_reducible first|apply Wp.gs|apply Wp.cs|apply Zd|apply Zf|apply Zc|apply Zg|apply Wp.step);case h=>((try simp(disch:=omega)only[↓reduceIte,Za,↓X0,X1,Nat.reduceEqDiff,Int.reduceEq,Nat.reduceAdd,Nat.reduceSub,X2,Zi,Nat.reduceLeDiff,e1,e3,hlti,hb',hlen]);with_reducible first|done|exact rfl|exact bT|exact bF))|apply Ze|apply Zh|with_reducible apply Zl|simp only[↓X3]|with_reducible apply Zb));try(with_reducible apply Zm;case h=>((try simp(disch:=omega)only[X1,Nat.reduceEqDiff,e1,e3,hlti,hb',hlen]);with_reducible exact rfl)))
  refine Wp.rt (k59 (hv.mv (by omega) (by intros;first|with_reducible rfl|simp(disch:=omega)only[Zi,Zj,s1])) hl (hvl.mv (by omega) (by intros;first|with_reducible rfl|simp(disch:=omega)only[Zi,Zj,s1])) hli hsz hlt) ?_
  intro H1 n1 q1 s2
  by_cases hok:InsOk (gi li (j:Int)) l.length li.length j
  ·(repeat(first|((with_reducible first|apply Wp.gs|apply Wp.cs|apply Zd|apply Zf|apply Zc|apply Zg|apply Wp.step);case h=>((try simp(disch:=omega)only[↓reduceIte,Za,↓X0,X1,Nat.reduceEqDiff,Int.reduceEq,Nat.reduceAdd,Nat.reduceSub,X2,Zi,Nat.reduceLeDiff,e3,hok,hw]);with_reducible first|done|exact rfl|exact bT|exact bF))|apply Ze|apply Zh|with_reducible apply Zl|simp only[↓X3]|with_reducible apply Zb))
   refine Wp.pure (Nxt.go (d - 1) (by omega) ⟨j+1,by omega,by omega,(by intros;first|with_reducible rfl|simp(disch:=omega)only[Zi,Zj,s2,s1]),by simp [Zk,e1],by simp [Zk],fun q hq=>?_⟩)
   by_cases hqj:q=j
   ·subst hqj; exact hok
   ·exact hall q (by omega)
  ·(repeat(first|((with_reducible first|apply Wp.gs|apply Wp.cs|apply Zd|apply Zf|apply Zc|apply Zg|apply Wp.step);case h=>((try simp(disch:=omega)only[↓reduceIte,Za,↓X0,X1,Nat.reduceEqDiff,Int.reduceEq,Nat.reduceAdd,Nat.reduceSub,X2,Zi,Nat.reduceLeDiff,e3,hok,hw]);with_reducible first|done|exact rfl|exact bT|exact bF))|apply Ze|apply Zh|with_reducible apply Zl|simp only[↓X3]|with_reducible apply Zb))
   exact Wp.pure (Nxt.ret ⟨by simp only; omega,(by intros;first|with_reducible rfl|simp(disch:=omega)only[Zi,Zj,s2,s1]),.inr ⟨rfl,by simp [Zk],fun h=>hok (h j hlt)⟩⟩)
 ·have hlti:¬ (j:Int) < li.length:=by omega
  (repeat(first|((with_reducible first|apply Wp.gs|apply Wp.cs|apply Zd|apply Zf|apply Zc|apply Zg|apply Wp.step);case h=>((try simp(disch:=omega)only[↓reduceIte,Za,↓X0,X1,Nat.reduceEqDiff,Int.reduceEq,Nat.reduceAdd,Nat.reduceSub,X2,Zi,Nat.reduceLeDiff,e1,e3,hlti,hb',hlen]);with_reducible first|done|exact rfl|exact bT|exact bF))|apply Ze|apply Zh|with_reducible apply Zl|simp only[↓X3]|with_reducible apply Zb))
  exact Wp.pure (Nxt.exit ⟨by simp only; omega,s1,.inl ⟨rfl,by simp [Zk,e1],fun q hq=>hall q (by omega)⟩⟩)
theorem l112 (hb:H0 b=some (.row [v,vl,vd] 0 true)) (hbn:b < n0) (hvl:Li eIns n0 H0 vl li) (hli:li.length≤400) (hvd:Li eDef n0 H0 vd ld) (hld:ld.length≤20) (hsz:∀ x∈ld,x.s.size≤1048576):∀ t H n,n0≤n→(∀ i,i < n0→H i=H0 i)→t 1=ptr b 0→t 34=vd→t 35=.int .i64 ld.length→t 36=.int .i64 0 →
  Wp (Ya (S12L1 (Call Try.prog) Ya) t H n) (fun o=>n≤o.n∧(∀ i,i < n0→o.H i=H0 i)∧((o.e=.exit 2∧DfAll li.length ld)∨(o.e=.ret∧o.t 2=.bool false∧¬ DfAll li.length ld))):=by
 intro t H n hn0 s0 e1 e34 e35 e36
 refine Ye (fun d T H' n'=>∃ j:Nat,j+d=ld.length∧n≤n'∧(∀ i,i < n0→H' i=H0 i)∧T 1=ptr b 0∧T 34=vd∧T 35=.int .i64 ld.length∧T 36=.int .i64 j∧∀ q:Nat,q < j→DfOk li.length ld q) _ ?_ ld.length t H n ⟨0,by omega,by omega,s0,e1,e34,e35,e36,fun q hq=>by omega⟩
 rintro d T H' n' ⟨j,hj,hn,s1,e1,e34,e35,e36,hall⟩
 unfold S12L1
 have hb':H' b=some (.row [v,vl,vd] 0 true):=by rw [s1 b hbn]; exact hb
 by_cases hlt:j < ld.length
 ·have hlti:(j:Int) < ld.length:=by omega
  have hw:=wj (j:=j) (len:=ld.length) hlt (by omega)
  have hw2:IntKind.i64.wrap ((li.length:Int) - 1)=(li.length:Int) - 1:=w64 (by omega)
  have g:=(hvd.mv (Nat.le_refl _) s1).dAll (i:=(j:Int)) (by omega) hlti
  have hx:=hsz _ (gi_mem (l:=ld) (i:=(j:Int)) (by omega) hlti)
  have hiff:DfOk li.length ld j↔(nameOk (gi ld (j:Int)).s=true∧defOf ld (gi ld (j:Int)).s=j∧(0≤(gi ld (j:Int)).at_∧(gi ld (j:Int)).at_≤(li.length:Int) - 1)∧(0≤(gi ld (j:Int)).args∧(gi ld (j:Int)).args≤4)):=Iff.rfl
  generalize gi ld (j:Int)=x at g hx hiff
  obtain ⟨xs,xa,xr⟩:=x
  simp only [Df.cells] at g hx hiff
  ((repeat(first|((with_reducible first|apply Wp.gs|apply Wp.cs|apply Zd|apply Zf|apply Zc|apply Zg|apply Wp.step);case h=>((try simp(disch:=omega)only[↓reduceIte,Za,↓X0,X1,Nat.reduceEqDiff,Int.reduceEq,Nat.reduceAdd,Nat.reduceSub,X2,Zi,Nat.reduceLeDiff,e1,e34,e35,e36,hlti,hb',g]);with_reducible first|done|exact rfl|exact bT|exact bF))|apply Ze|apply Zh|with_reducible apply Zl|simp only[↓X3]|with_reducible apply Zb));try(with_reducible apply Zm;case h=>((try simp(disch:=omega)only[X1,Nat.reduceEqDiff,e1,e34,e35,e36,hlti,hb',g]);with_reducible exact rfl)))
  refine Wp.rt (rNameOk xs hx _ _) ?_
  intro H1 n1 q1 s2
  have hret:∀ (T':Tm) (H2:Hp) (n2:Nat),n≤n2→(∀ i,i < n0→H2 i=H0 i)→T' 2=.bool false→¬ DfOk li.length ld j→Wp (some (⟨.ret,T',H2,n2⟩:Out)) (Nxt (fun d T H' n'=>∃ j:Nat,j+d=ld.length∧n≤n'∧(∀ i,i < n0→H' i=H0 i)∧T 1=ptr b 0∧T 34=vd∧T 35=.int .i64 ld.length∧T 36=.int .i64 j∧∀ q:Nat,q < j→DfOk li.length ld q) d (fun o=>n≤o.n∧(∀ i,i < n0→o.H i=H0 i)∧((o.e=.exit 2∧DfAll li.length ld)∨(o.e=.ret∧o.t 2=.bool false∧¬ DfAll li.length ld)))) :=
   fun T' H2 n2 a1 a2 a3 a4=>Wp.pure (Nxt.ret ⟨a1,a2,.inr ⟨rfl,a3,fun h=>a4 (h j hlt)⟩⟩)
  by_cases c1:nameOk xs=true
  case neg =>
   have c1':nameOk xs=false:=by simpa using c1
   ((repeat(first|((with_reducible first|apply Wp.gs|apply Wp.cs|apply Zd|apply Zf|apply Zc|apply Zg|apply Wp.step);case h=>((try simp(disch:=omega)only[↓reduceIte,Za,↓X0,X1,Nat.reduceEqDiff,Int.reduceEq,Nat.reduceAdd,Nat.reduceSub,X2,Zi,Nat.reduceLeDiff,c1',s2]);with_reducible first|done|exact rfl|exact bT|exact bF))|apply Ze|apply Zh|with_reducible apply Zl|simp only[↓X3]|with_reducible apply Zb));try(with_reducible apply Zm;case h=>((try simp(disch:=omega)only[X1,Nat.reduceEqDiff,c1',s2]);with_reducible exact rfl)))
   exact hret _ _ _ (by omega) ((by intros;first|with_reducible rfl|simp(disch:=omega)only[Zi,Zj,s2,s1])) (by simp [Zk]) (fun h=>c1 (hiff.1 h).1)
  ((repeat(first|((with_reducible first|apply Wp.gs|apply Wp.cs|apply Zd|apply Zf|apply Zc|apply Zg|apply Wp.step);case h=>((try simp(disch:=omega)only[↓reduceIte,Za,↓X0,X1,Nat.reduceEqDiff,Int.reduceEq,Nat.reduceAdd,Nat.reduceSub,X2,Zi,Nat.reduceLeDiff,c1,s2,e1,e36,hb',s1]);with_reducible first|done|exact rfl|exact bT|exact bF))|apply Ze|apply Zh|with_reducible apply Zl|simp only[↓X3]|with_reducible apply Zb));try(with_reducible apply Zm;case h=>((try simp(disch:=omega)only[X1,Nat.reduceEqDiff,c1,s2,e1,e36,hb',s1]);with_reducible exact rfl)))
  refine Wp.rt (k11 ((hvd.mv (by omega) (by intros;first|with_reducible rfl|simp(disch:=omega)only[Zi,Zj,s2,s1]))) (by omega) xs) ?_
  intro H3 n3 q3 s3
  by_cases c2:defOf ld xs=(j:Int)
  case neg =>
   ((repeat(first|((with_reducible first|apply Wp.gs|apply Wp.cs|apply Zd|apply Zf|apply Zc|apply Zg|apply Wp.step);case h=>((try simp(disch:=omega)only[↓reduceIte,Za,↓X0,X1,Nat.reduceEqDiff,Int.reduceEq,Nat.reduceAdd,Nat.reduceSub,X2,Zi,Nat.reduceLeDiff,c2,s2,s3,e1,e36]);with_reducible first|done|exact rfl|exact bT|exact bF))|apply Ze|apply Zh|with_reducible apply Zl|simp only[↓X3]|with_reducible apply Zb));try(with_reducible apply Zm;case h=>((try simp(disch:=omega)only[X1,Nat.reduceEqDiff,c2,s2,s3,e1,e36]);with_reducible exact rfl)))
   exact hret _ _ _ (by omega) ((by intros;first|with_reducible rfl|simp(disch:=omega)only[Zi,Zj,s3,s2,s1])) (by simp [Zk]) (fun h=>c2 (hiff.1 h).2.1)
  by_cases c3:0≤xa∧xa≤(li.length:Int) - 1
  case neg =>
   ((repeat(first|((with_reducible first|apply Wp.gs|apply Wp.cs|apply Zd|apply Zf|apply Zc|apply Zg|apply Wp.step);case h=>((try simp(disch:=omega)only[↓reduceIte,Za,↓X0,X1,Nat.reduceEqDiff,Int.reduceEq,Nat.reduceAdd,Nat.reduceSub,X2,Zi,Nat.reduceLeDiff,c2,s2,s3,e1,e36,hb',hvl.len,hw2,k56,c3]);with_reducible first|done|exact rfl|exact bT|exact bF))|apply Ze|apply Zh|with_reducible apply Zl|simp only[↓X3]|with_reducible apply Zb));try(with_reducible apply Zm;case h=>((try simp(disch:=omega)only[X1,Nat.reduceEqDiff,c2,s2,s3,e1,e36,hb',hvl.len,hw2,k56,c3]);with_reducible exact rfl)))
   exact hret _ _ _ (by omega) ((by intros;first|with_reducible rfl|simp(disch:=omega)only[Zi,Zj,s3,s2,s1])) (by simp [Zk]) (fun h=>c3 (hiff.1 h).2.2.1)
  by_cases c4:0≤xr∧xr≤4
  case neg =>
   ((repeat(first|((with_reducible first|apply Wp.gs|apply Wp.cs|apply Zd|apply Zf|apply Zc|apply Zg|apply Wp.step);case h=>((try simp(disch:=omega)only[↓reduceIte,Za,↓X0,X1,Nat.reduceEqDiff,Int.reduceEq,Nat.reduceAdd,Nat.reduceSub,X2,Zi,Nat.reduceLeDiff,c2,s2,s3,e1,e36,hb',hvl.len,hw2,k56,c3,c4,and_self]);with_reducible first|done|exact rfl|exact bT|exact bF))|apply Ze|apply Zh|with_reducible apply Zl|simp only[↓X3]|with_reducible apply Zb));try(with_reducible apply Zm;case h=>((try simp(disch:=omega)only[X1,Nat.reduceEqDiff,c2,s2,s3,e1,e36,hb',hvl.len,hw2,k56,c3,c4,and_self]);with_reducible exact rfl)))
   exact hret _ _ _ (by omega) ((by intros;first|with_reducible rfl|simp(disch:=omega)only[Zi,Zj,s3,s2,s1])) (by simp [Zk]) (fun h=>c4 (hiff.1 h).2.2.2)
  (repeat(first|((with_reducible first|apply Wp.gs|apply Wp.cs|apply Zd|apply Zf|apply Zc|apply Zg|apply Wp.step);case h=>((try simp(disch:=omega)only[↓reduceIte,Za,↓X0,X1,Nat.reduceEqDiff,Int.reduceEq,Nat.reduceAdd,Nat.reduceSub,X2,Zi,Nat.reduceLeDiff,c2,s2,s3,e1,e36,hb',hvl.len,hw2,k56,c3,c4,and_self,hw]);with_reducible first|done|exact rfl|exact bT|exact bF))|apply Ze|apply Zh|with_reducible apply Zl|simp only[↓X3]|with_reducible apply Zb))
  refine Wp.pure (Nxt.go (d - 1) (by omega) ⟨j+1,by omega,by omega,(by intros;first|with_reducible rfl|simp(disch:=omega)only[Zi,Zj,s3,s2,s1]),by simp [Zk,e1],by simp [Zk,e34],by simp [Zk,e35],by simp [Zk],fun q hq=>?_⟩)
  by_cases hqj:q=j
  ·subst hqj; exact hiff.2 ⟨c1,c2,c3,c4⟩
  ·exact hall q (by omega)
 ·have hlti:¬ (j:Int) < ld.length:=by omega
  (repeat(first|((with_reducible first|apply Wp.gs|apply Wp.cs|apply Zd|apply Zf|apply Zc|apply Zg|apply Wp.step);case h=>((try simp(disch:=omega)only[↓reduceIte,Za,↓X0,X1,Nat.reduceEqDiff,Int.reduceEq,Nat.reduceAdd,Nat.reduceSub,X2,Zi,Nat.reduceLeDiff,e35,e36,hlti]);with_reducible first|done|exact rfl|exact bT|exact bF))|apply Ze|apply Zh|with_reducible apply Zl|simp only[↓X3]|with_reducible apply Zb))
  exact Wp.pure (Nxt.exit ⟨by simp only; omega,s1,.inl ⟨rfl,fun q hq=>hall q (by omega)⟩⟩)
theorem l114 (hb:H0 b=some (.row [v,vl,vd] 0 true)) (hbn:b < n0) (hvl:Li eIns n0 H0 vl li) (hli:li.length≤400) (hvd:Li eDef n0 H0 vd ld) (hld:ld.length≤20) (hsz:∀ x∈ld,x.s.size≤1048576):∀ t H n,n0≤n→(∀ i,i < n0→H i=H0 i)→t 1=ptr b 0→t 4=.int .i64 0 →
  Wp (Ya (S14L1 (Call Try.prog) Ya) t H n) (fun o=>n≤o.n∧(∀ i,i < n0→o.H i=H0 i)∧((o.e=.exit 2∧DfAll li.length ld)∨(o.e=.ret∧o.t 2=.bool false∧¬ DfAll li.length ld))):=by
 intro t H n hn0 s0 e1 e4
 refine Ye (fun d T H' n'=>∃ j:Nat,j+d=ld.length∧n≤n'∧(∀ i,i < n0→H' i=H0 i)∧T 1=ptr b 0∧T 4=.int .i64 j∧∀ q:Nat,q < j→DfOk li.length ld q) _ ?_ ld.length t H n ⟨0,by omega,by omega,s0,e1,e4,fun q hq=>by omega⟩
 rintro d T H' n' ⟨j,hj,hn,s1,e1,e4,hall⟩
 unfold S14L1
 have hb':H' b=some (.row [v,vl,vd] 0 true):=by rw [s1 b hbn]; exact hb
 have hlen:=(hvd.mv (Nat.le_refl _) s1).len
 by_cases hlt:j < ld.length
 ·have hlti:(j:Int) < ld.length:=by omega
  have hw:=wj (j:=j) (len:=ld.length) hlt (by omega)
  have hw2:IntKind.i64.wrap ((li.length:Int) - 1)=(li.length:Int) - 1:=w64 (by omega)
  have g:=(hvd.mv (Nat.le_refl _) s1).dAll (i:=(j:Int)) (by omega) hlti
  have hx:=hsz _ (gi_mem (l:=ld) (i:=(j:Int)) (by omega) hlti)
  have hiff:DfOk li.length ld j↔(nameOk (gi ld (j:Int)).s=true∧defOf ld (gi ld (j:Int)).s=j∧(0≤(gi ld (j:Int)).at_∧(gi ld (j:Int)).at_≤(li.length:Int) - 1)∧(0≤(gi ld (j:Int)).args∧(gi ld (j:Int)).args≤4)):=Iff.rfl
  generalize gi ld (j:Int)=x at g hx hiff
  obtain ⟨xs,xa,xr⟩:=x
  simp only [Df.cells] at g hx hiff
  ((repeat(first|((with_reducible first|apply Wp.gs|apply Wp.cs|apply Zd|apply Zf|apply Zc|apply Zg|apply Wp.step);case h=>((try simp(disch:=omega)only[↓reduceIte,Za,↓X0,X1,Nat.reduceEqDiff,Int.reduceEq,Nat.reduceAdd,Nat.reduceSub,X2,Zi,Nat.reduceLeDiff,hlen,e1,e4,hlti,hb',g]);with_reducible first|done|exact rfl|exact bT|exact bF))|apply Ze|apply Zh|with_reducible apply Zl|simp only[↓X3]|with_reducible apply Zb));try(with_reducible apply Zm;case h=>((try simp(disch:=omega)only[X1,Nat.reduceEqDiff,hlen,e1,e4,hlti,hb',g]);with_reducible exact rfl)))
  refine Wp.rt (sNameOk xs hx _ _) ?_
  intro H1 n1 q1 s2
  have hret:∀ (T':Tm) (H2:Hp) (n2:Nat),n≤n2→(∀ i,i < n0→H2 i=H0 i)→T' 2=.bool false→¬ DfOk li.length ld j→Wp (some (⟨.ret,T',H2,n2⟩:Out)) (Nxt (fun d T H' n'=>∃ j:Nat,j+d=ld.length∧n≤n'∧(∀ i,i < n0→H' i=H0 i)∧T 1=ptr b 0∧T 4=.int .i64 j∧∀ q:Nat,q < j→DfOk li.length ld q) d (fun o=>n≤o.n∧(∀ i,i < n0→o.H i=H0 i)∧((o.e=.exit 2∧DfAll li.length ld)∨(o.e=.ret∧o.t 2=.bool false∧¬ DfAll li.length ld)))) :=
   fun T' H2 n2 a1 a2 a3 a4=>Wp.pure (Nxt.ret ⟨a1,a2,.inr ⟨rfl,a3,fun h=>a4 (h j hlt)⟩⟩)
  by_cases c1:nameOk xs=true
  case neg =>
   have c1':nameOk xs=false:=by simpa using c1
   ((repeat(first|((with_reducible first|apply Wp.gs|apply Wp.cs|apply Zd|apply Zf|apply Zc|apply Zg|apply Wp.step);case h=>((try simp(disch:=omega)only[↓reduceIte,Za,↓X0,X1,Nat.reduceEqDiff,Int.reduceEq,Nat.reduceAdd,Nat.reduceSub,X2,Zi,Nat.reduceLeDiff,c1',s2]);with_reducible first|done|exact rfl|exact bT|exact bF))|apply Ze|apply Zh|with_reducible apply Zl|simp only[↓X3]|with_reducible apply Zb));try(with_reducible apply Zm;case h=>((try simp(disch:=omega)only[X1,Nat.reduceEqDiff,c1',s2]);with_reducible exact rfl)))
   exact hret _ _ _ (by omega) ((by intros;first|with_reducible rfl|simp(disch:=omega)only[Zi,Zj,s2,s1])) (by simp [Zk]) (fun h=>c1 (hiff.1 h).1)
  ((repeat(first|((with_reducible first|apply Wp.gs|apply Wp.cs|apply Zd|apply Zf|apply Zc|apply Zg|apply Wp.step);case h=>((try simp(disch:=omega)only[↓reduceIte,Za,↓X0,X1,Nat.reduceEqDiff,Int.reduceEq,Nat.reduceAdd,Nat.reduceSub,X2,Zi,Nat.reduceLeDiff,c1,s2,e1,e4,hb',s1]);with_reducible first|done|exact rfl|exact bT|exact bF))|apply Ze|apply Zh|with_reducible apply Zl|simp only[↓X3]|with_reducible apply Zb));try(with_reducible apply Zm;case h=>((try simp(disch:=omega)only[X1,Nat.reduceEqDiff,c1,s2,e1,e4,hb',s1]);with_reducible exact rfl)))
  refine Wp.rt (k15 ((hvd.mv (by omega) (by intros;first|with_reducible rfl|simp(disch:=omega)only[Zi,Zj,s2,s1]))) (by omega) xs) ?_
  intro H3 n3 q3 s3
  by_cases c2:defOf ld xs=(j:Int)
  case neg =>
   ((repeat(first|((with_reducible first|apply Wp.gs|apply Wp.cs|apply Zd|apply Zf|apply Zc|apply Zg|apply Wp.step);case h=>((try simp(disch:=omega)only[↓reduceIte,Za,↓X0,X1,Nat.reduceEqDiff,Int.reduceEq,Nat.reduceAdd,Nat.reduceSub,X2,Zi,Nat.reduceLeDiff,c2,s2,s3,e1,e4]);with_reducible first|done|exact rfl|exact bT|exact bF))|apply Ze|apply Zh|with_reducible apply Zl|simp only[↓X3]|with_reducible apply Zb));try(with_reducible apply Zm;case h=>((try simp(disch:=omega)only[X1,Nat.reduceEqDiff,c2,s2,s3,e1,e4]);with_reducible exact rfl)))
   exact hret _ _ _ (by omega) ((by intros;first|with_reducible rfl|simp(disch:=omega)only[Zi,Zj,s3,s2,s1])) (by simp [Zk]) (fun h=>c2 (hiff.1 h).2.1)
  by_cases c3:0≤xa∧xa≤(li.length:Int) - 1
  case neg =>
   ((repeat(first|((with_reducible first|apply Wp.gs|apply Wp.cs|apply Zd|apply Zf|apply Zc|apply Zg|apply Wp.step);case h=>((try simp(disch:=omega)only[↓reduceIte,Za,↓X0,X1,Nat.reduceEqDiff,Int.reduceEq,Nat.reduceAdd,Nat.reduceSub,X2,Zi,Nat.reduceLeDiff,c2,s2,s3,e1,e4,hb',hvl.len,hw2,k61,c3]);with_reducible first|done|exact rfl|exact bT|exact bF))|apply Ze|apply Zh|with_reducible apply Zl|simp only[↓X3]|with_reducible apply Zb));try(with_reducible apply Zm;case h=>((try simp(disch:=omega)only[X1,Nat.reduceEqDiff,c2,s2,s3,e1,e4,hb',hvl.len,hw2,k61,c3]);with_reducible exact rfl)))
   exact hret _ _ _ (by omega) ((by intros;first|with_reducible rfl|simp(disch:=omega)only[Zi,Zj,s3,s2,s1])) (by simp [Zk]) (fun h=>c3 (hiff.1 h).2.2.1)
  by_cases c4:0≤xr∧xr≤4
  case neg =>
   ((repeat(first|((with_reducible first|apply Wp.gs|apply Wp.cs|apply Zd|apply Zf|apply Zc|apply Zg|apply Wp.step);case h=>((try simp(disch:=omega)only[↓reduceIte,Za,↓X0,X1,Nat.reduceEqDiff,Int.reduceEq,Nat.reduceAdd,Nat.reduceSub,X2,Zi,Nat.reduceLeDiff,c2,s2,s3,e1,e4,hb',hvl.len,hw2,k61,c3,c4,and_self]);with_reducible first|done|exact rfl|exact bT|exact bF))|apply Ze|apply Zh|with_reducible apply Zl|simp only[↓X3]|with_reducible apply Zb));try(with_reducible apply Zm;case h=>((try simp(disch:=omega)only[X1,Nat.reduceEqDiff,c2,s2,s3,e1,e4,hb',hvl.len,hw2,k61,c3,c4,and_self]);with_reducible exact rfl)))
   exact hret _ _ _ (by omega) ((by intros;first|with_reducible rfl|simp(disch:=omega)only[Zi,Zj,s3,s2,s1])) (by simp [Zk]) (fun h=>c4 (hiff.1 h).2.2.2)
  (repeat(first|((with_reducible first|apply Wp.gs|apply Wp.cs|apply Zd|apply Zf|apply Zc|apply Zg|apply Wp.step);case h=>((try simp(disch:=omega)only[↓reduceIte,Za,↓X0,X1,Nat.reduceEqDiff,Int.reduceEq,Nat.reduceAdd,Nat.reduceSub,X2,Zi,Nat.reduceLeDiff,c2,s2,s3,e1,e4,hb',hvl.len,hw2,k61,c3,c4,and_self,hw]);with_reducible first|done|exact rfl|exact bT|exact bF))|apply Ze|apply Zh|with_reducible apply Zl|simp only[↓X3]|with_reducible apply Zb))
  refine Wp.pure (Nxt.go (d - 1) (by omega) ⟨j+1,by omega,by omega,(by intros;first|with_reducible rfl|simp(disch:=omega)only[Zi,Zj,s3,s2,s1]),by simp [Zk,e1],by simp [Zk],fun q hq=>?_⟩)
  by_cases hqj:q=j
  ·subst hqj; exact hiff.2 ⟨c1,c2,c3,c4⟩
  ·exact hall q (by omega)
 ·have hlti:¬ (j:Int) < ld.length:=by omega
  (repeat(first|((with_reducible first|apply Wp.gs|apply Wp.cs|apply Zd|apply Zf|apply Zc|apply Zg|apply Wp.step);case h=>((try simp(disch:=omega)only[↓reduceIte,Za,↓X0,X1,Nat.reduceEqDiff,Int.reduceEq,Nat.reduceAdd,Nat.reduceSub,X2,Zi,Nat.reduceLeDiff,hlen,e1,e4,hlti,hb']);with_reducible first|done|exact rfl|exact bT|exact bF))|apply Ze|apply Zh|with_reducible apply Zl|simp only[↓X3]|with_reducible apply Zb))
  exact Wp.pure (Nxt.exit ⟨by simp only; omega,s1,.inl ⟨rfl,fun q hq=>hall q (by omega)⟩⟩)
end
theorem k12 {n:Nat} {H:Hp} {v vl vd:Value} {l:List Nd} {li:List Ins} {ld:List Df} (hv:Li eNode n H v l) (hvl:Li eIns n H vl li) (hvd:Li eDef n H vd ld) (hs:∀ x∈l,x.s.size≤1048576) (hsl:∀ x∈li,x.s.size≤1048576) (hsd:∀ x∈ld,x.s.size≤1048576) (hl:l.length≤1048576) (hll:li.length≤1048576) (hld:ld.length≤1048576):Rt Try.prog 12 [.agg ⟨[v,vl,vd]⟩] H n (.bool (decide (CodeOk l li ld))):=by
 apply Rt.mk
 rw [c12]; unfold S12
 have fin:∀ (b:Bool) (H':Hp) (n':Nat),n≤n'→(∀ i,i < n→H' i=H i)→b=decide (CodeOk l li ld)→Wp (some (Value.bool b,H',n')) (fun q=>n≤q.2.2∧(∀ i,i < n→q.2.1 i=H i)∧q.1=.bool (decide (CodeOk l li ld))):=by
  intro b H' n' h1 h2 h3
  exact Wp.pure ⟨h1,h2,by rw [h3]⟩
 ((repeat(first|((with_reducible first|apply Wp.gs|apply Wp.cs|apply Zd|apply Zf|apply Zc|apply Zg|apply Wp.step);case h=>((try simp(disch:=omega)only[↓reduceIte,Za,↓X0,X1,Nat.reduceEqDiff,Int.reduceEq,Nat.reduceAdd,Nat.reduceSub,X2,Zi,Nat.reduceLeDiff]);with_reducible first|done|exact rfl|exact bT|exact bF))|apply Ze|apply Zh|with_reducible apply Zl|simp only[↓X3]|with_reducible apply Zb));try(with_reducible apply Zm;case h=>((try simp(disch:=omega)only[X1,Nat.reduceEqDiff]);with_reducible exact rfl)))
 refine Wp.rt (k42 (hv.mv (by omega) (by intros;first|with_reducible rfl|simp(disch:=omega)only[Zi,Zj])) hs hl) ?_
 intro H1 n1 q1 s1
 by_cases hp:PoolOk l
 case neg =>
  (repeat(first|((with_reducible first|apply Wp.gs|apply Wp.cs|apply Zd|apply Zf|apply Zc|apply Zg|apply Wp.step);case h=>((try simp(disch:=omega)only[↓reduceIte,Za,↓X0,X1,Nat.reduceEqDiff,Int.reduceEq,Nat.reduceAdd,Nat.reduceSub,X2,Zi,Nat.reduceLeDiff,s1,hp]);with_reducible first|done|exact rfl|exact bT|exact bF))|apply Ze|apply Zh|with_reducible apply Zl|simp only[↓X3]|with_reducible apply Zb))
  exact fin _ _ _ (by omega) ((by intros;first|with_reducible rfl|simp(disch:=omega)only[Zi,Zj,s1])) (decide_eq_false (fun h=>hp h.1)).symm
 by_cases c1:(400:Int) < li.length
 case pos =>
  (repeat(first|((with_reducible first|apply Wp.gs|apply Wp.cs|apply Zd|apply Zf|apply Zc|apply Zg|apply Wp.step);case h=>((try simp(disch:=omega)only[↓reduceIte,Za,↓X0,X1,Nat.reduceEqDiff,Int.reduceEq,Nat.reduceAdd,Nat.reduceSub,X2,Zi,Nat.reduceLeDiff,s1,hp,hvl.len,c1]);with_reducible first|done|exact rfl|exact bT|exact bF))|apply Ze|apply Zh|with_reducible apply Zl|simp only[↓X3]|with_reducible apply Zb))
  exact fin _ _ _ (by omega) ((by intros;first|with_reducible rfl|simp(disch:=omega)only[Zi,Zj,s1])) (decide_eq_false (fun h=>absurd h.2.1 (by omega))).symm
 by_cases c2:(20:Int) < ld.length
 case pos =>
  (repeat(first|((with_reducible first|apply Wp.gs|apply Wp.cs|apply Zd|apply Zf|apply Zc|apply Zg|apply Wp.step);case h=>((try simp(disch:=omega)only[↓reduceIte,Za,↓X0,X1,Nat.reduceEqDiff,Int.reduceEq,Nat.reduceAdd,Nat.reduceSub,X2,Zi,Nat.reduceLeDiff,s1,hp,hvl.len,c1,hvd.len,c2]);with_reducible first|done|exact rfl|exact bT|exact bF))|apply Ze|apply Zh|with_reducible apply Zl|simp only[↓X3]|with_reducible apply Zb))
  exact fin _ _ _ (by omega) ((by intros;first|with_reducible rfl|simp(disch:=omega)only[Zi,Zj,s1])) (decide_eq_false (fun h=>absurd h.2.2.1 (by omega))).symm
 have hb1:H1 n=some (.row [v,vl,vd] 0 true):=by simp (disch:=omega) only [s1,Zj]
 (repeat(first|((with_reducible first|apply Wp.gs|apply Wp.cs|apply Zd|apply Zf|apply Zc|apply Zg|apply Wp.step);case h=>((try simp(disch:=omega)only[↓reduceIte,Za,↓X0,X1,Nat.reduceEqDiff,Int.reduceEq,Nat.reduceAdd,Nat.reduceSub,X2,Zi,Nat.reduceLeDiff,s1,hp,hvl.len,c1,hvd.len,c2]);with_reducible first|done|exact rfl|exact bT|exact bF))|apply Ze|apply Zh|with_reducible apply Zl|simp only[↓X3]|with_reducible apply Zb))
 refine Wp.bind (l012 (n0:=n+1) (H0:=H1) hb1 (by omega) (hv.mv (by omega) (by intros;first|with_reducible rfl|simp(disch:=omega)only[Zi,Zj,s1])) hl (hvl.mv (by omega) (by intros;first|with_reducible rfl|simp(disch:=omega)only[Zi,Zj,s1])) (by omega) hsl _ _ _ (by omega) (fun _ _=>rfl) (by simp [Zk]) (by simp [Zk]) (by simp [Zk])) ?_
 rintro ⟨oe,ot,oH,on⟩ ⟨f1,f2,f3⟩
 simp only at f1 f2 f3
 rcases f3 with ⟨rfl,f4,f5⟩ | ⟨rfl,f4,f5⟩
 case inr =>
  simp(disch:=omega)only[↓reduceIte,Za,↓X0,X1,Nat.reduceEqDiff,Int.reduceEq,Nat.reduceAdd,Nat.reduceSub,f4]
  exact fin _ _ _ (by omega) ((by intros;first|with_reducible rfl|simp(disch:=omega)only[Zi,Zj,f2,s1])) (decide_eq_false (fun h=>f5 h.2.2.2.1)).symm
 have hb2:oH n=some (.row [v,vl,vd] 0 true):=by rw [f2 n (by omega)]; exact hb1
 have hvd2:Li eDef (n+1) H1 vd ld:=hvd.mv (by omega) (by intros;first|with_reducible rfl|simp(disch:=omega)only[Zi,Zj,s1])
 (repeat(first|((with_reducible first|apply Wp.gs|apply Wp.cs|apply Zd|apply Zf|apply Zc|apply Zg|apply Wp.step);case h=>((try simp(disch:=omega)only[↓reduceIte,Za,↓X0,X1,Nat.reduceEqDiff,Int.reduceEq,Nat.reduceAdd,Nat.reduceSub,X2,Zi,Nat.reduceLeDiff,f4,hb2,hvd.len]);with_reducible first|done|exact rfl|exact bT|exact bF))|apply Ze|apply Zh|with_reducible apply Zl|simp only[↓X3]|with_reducible apply Zb))
 refine Wp.bind (l112 (n0:=n+1) (H0:=H1) hb1 (by omega) (hvl.mv (by omega) (by intros;first|with_reducible rfl|simp(disch:=omega)only[Zi,Zj,s1])) (by omega) hvd2 (by omega) hsd _ _ _ (by omega) ((by intros;first|with_reducible rfl|simp(disch:=omega)only[Zi,Zj,f2])) (by simp [Zk,f4]) (by simp [Zk]) (by simp [Zk]) (by simp [Zk])) ?_
 rintro ⟨pe,pt,pH,pn⟩ ⟨g1,g2,g3⟩
 simp only at g1 g2 g3
 rcases g3 with ⟨rfl,g5⟩ | ⟨rfl,g4,g5⟩
 ·(repeat(first|((with_reducible first|apply Wp.gs|apply Wp.cs|apply Zd|apply Zf|apply Zc|apply Zg|apply Wp.step);case h=>((try simp(disch:=omega)only[↓reduceIte,Za,↓X0,X1,Nat.reduceEqDiff,Int.reduceEq,Nat.reduceAdd,Nat.reduceSub]);with_reducible first|done|exact rfl|exact bT|exact bF))|apply Ze|apply Zh|with_reducible apply Zl|simp only[↓X3]|with_reducible apply Zb))
  exact fin _ _ _ (by omega) ((by intros;first|with_reducible rfl|simp(disch:=omega)only[Zi,Zj,g2,s1])) (decide_eq_true ⟨hp,by omega,by omega,f5,g5⟩).symm
 ·simp(disch:=omega)only[↓reduceIte,Za,↓X0,X1,Nat.reduceEqDiff,Int.reduceEq,Nat.reduceAdd,Nat.reduceSub,g4]
  exact fin _ _ _ (by omega) ((by intros;first|with_reducible rfl|simp(disch:=omega)only[Zi,Zj,g2,s1])) (decide_eq_false (fun h=>g5 h.2.2.2.2)).symm
theorem k14 {n:Nat} {H:Hp} {v vl vd:Value} {l:List Nd} {li:List Ins} {ld:List Df} (hv:Li eNode n H v l) (hvl:Li eIns n H vl li) (hvd:Li eDef n H vd ld) (hs:∀ x∈l,x.s.size≤1048576) (hsl:∀ x∈li,x.s.size≤1048576) (hsd:∀ x∈ld,x.s.size≤1048576) (hl:l.length≤1048576) (hll:li.length≤1048576) (hld:ld.length≤1048576):Rt Try.prog 14 [.agg ⟨[v,vl,vd]⟩] H n (.bool (decide (CodeOk l li ld))):=by
 apply Rt.mk
 rw [c14]; unfold S14
 have fin:∀ (b:Bool) (H':Hp) (n':Nat),n≤n'→(∀ i,i < n→H' i=H i)→b=decide (CodeOk l li ld)→Wp (some (Value.bool b,H',n')) (fun q=>n≤q.2.2∧(∀ i,i < n→q.2.1 i=H i)∧q.1=.bool (decide (CodeOk l li ld))):=by
  intro b H' n' h1 h2 h3
  exact Wp.pure ⟨h1,h2,by rw [h3]⟩
 ((repeat(first|((with_reducible first|apply Wp.gs|apply Wp.cs|apply Zd|apply Zf|apply Zc|apply Zg|apply Wp.step);case h=>((try simp(disch:=omega)only[↓reduceIte,Za,↓X0,X1,Nat.reduceEqDiff,Int.reduceEq,Nat.reduceAdd,Nat.reduceSub,X2,Zi,Nat.reduceLeDiff]);with_reducible first|done|exact rfl|exact bT|exact bF))|apply Ze|apply Zh|with_reducible apply Zl|simp only[↓X3]|with_reducible apply Zb));try(with_reducible apply Zm;case h=>((try simp(disch:=omega)only[X1,Nat.reduceEqDiff]);with_reducible exact rfl)))
 refine Wp.rt (k48 (hv.mv (by omega) (by intros;first|with_reducible rfl|simp(disch:=omega)only[Zi,Zj])) hs hl) ?_
 intro H1 n1 q1 s1
 by_cases hp:PoolOk l
 case neg =>
  (repeat(first|((with_reducible first|apply Wp.gs|apply Wp.cs|apply Zd|apply Zf|apply Zc|apply Zg|apply Wp.step);case h=>((try simp(disch:=omega)only[↓reduceIte,Za,↓X0,X1,Nat.reduceEqDiff,Int.reduceEq,Nat.reduceAdd,Nat.reduceSub,X2,Zi,Nat.reduceLeDiff,s1,hp]);with_reducible first|done|exact rfl|exact bT|exact bF))|apply Ze|apply Zh|with_reducible apply Zl|simp only[↓X3]|with_reducible apply Zb))
  exact fin _ _ _ (by omega) ((by intros;first|with_reducible rfl|simp(disch:=omega)only[Zi,Zj,s1])) (decide_eq_false (fun h=>hp h.1)).symm
 by_cases c1:(400:Int) < li.length
 case pos =>
  (repeat(first|((with_reducible first|apply Wp.gs|apply Wp.cs|apply Zd|apply Zf|apply Zc|apply Zg|apply Wp.step);case h=>((try simp(disch:=omega)only[↓reduceIte,Za,↓X0,X1,Nat.reduceEqDiff,Int.reduceEq,Nat.reduceAdd,Nat.reduceSub,X2,Zi,Nat.reduceLeDiff,s1,hp,hvl.len,c1]);with_reducible first|done|exact rfl|exact bT|exact bF))|apply Ze|apply Zh|with_reducible apply Zl|simp only[↓X3]|with_reducible apply Zb))
  exact fin _ _ _ (by omega) ((by intros;first|with_reducible rfl|simp(disch:=omega)only[Zi,Zj,s1])) (decide_eq_false (fun h=>absurd h.2.1 (by omega))).symm
 by_cases c2:(20:Int) < ld.length
 case pos =>
  (repeat(first|((with_reducible first|apply Wp.gs|apply Wp.cs|apply Zd|apply Zf|apply Zc|apply Zg|apply Wp.step);case h=>((try simp(disch:=omega)only[↓reduceIte,Za,↓X0,X1,Nat.reduceEqDiff,Int.reduceEq,Nat.reduceAdd,Nat.reduceSub,X2,Zi,Nat.reduceLeDiff,s1,hp,hvl.len,c1,hvd.len,c2]);with_reducible first|done|exact rfl|exact bT|exact bF))|apply Ze|apply Zh|with_reducible apply Zl|simp only[↓X3]|with_reducible apply Zb))
  exact fin _ _ _ (by omega) ((by intros;first|with_reducible rfl|simp(disch:=omega)only[Zi,Zj,s1])) (decide_eq_false (fun h=>absurd h.2.2.1 (by omega))).symm
 have hb1:H1 n=some (.row [v,vl,vd] 0 true):=by simp (disch:=omega) only [s1,Zj]
 (repeat(first|((with_reducible first|apply Wp.gs|apply Wp.cs|apply Zd|apply Zf|apply Zc|apply Zg|apply Wp.step);case h=>((try simp(disch:=omega)only[↓reduceIte,Za,↓X0,X1,Nat.reduceEqDiff,Int.reduceEq,Nat.reduceAdd,Nat.reduceSub,X2,Zi,Nat.reduceLeDiff,s1,hp,hvl.len,c1,hvd.len,c2]);with_reducible first|done|exact rfl|exact bT|exact bF))|apply Ze|apply Zh|with_reducible apply Zl|simp only[↓X3]|with_reducible apply Zb))
 refine Wp.bind (l014 (n0:=n+1) (H0:=H1) hb1 (by omega) (hv.mv (by omega) (by intros;first|with_reducible rfl|simp(disch:=omega)only[Zi,Zj,s1])) hl (hvl.mv (by omega) (by intros;first|with_reducible rfl|simp(disch:=omega)only[Zi,Zj,s1])) (by omega) hsl _ _ _ (by omega) (fun _ _=>rfl) (by simp [Zk]) (by simp [Zk])) ?_
 rintro ⟨oe,ot,oH,on⟩ ⟨f1,f2,f3⟩
 simp only at f1 f2 f3
 rcases f3 with ⟨rfl,f4,f5⟩ | ⟨rfl,f4,f5⟩
 case inr =>
  simp(disch:=omega)only[↓reduceIte,Za,↓X0,X1,Nat.reduceEqDiff,Int.reduceEq,Nat.reduceAdd,Nat.reduceSub,f4]
  exact fin _ _ _ (by omega) ((by intros;first|with_reducible rfl|simp(disch:=omega)only[Zi,Zj,f2,s1])) (decide_eq_false (fun h=>f5 h.2.2.2.1)).symm
 have hb2:oH n=some (.row [v,vl,vd] 0 true):=by rw [f2 n (by omega)]; exact hb1
 have hvd2:Li eDef (n+1) H1 vd ld:=hvd.mv (by omega) (by intros;first|with_reducible rfl|simp(disch:=omega)only[Zi,Zj,s1])
 (repeat(first|((with_reducible first|apply Wp.gs|apply Wp.cs|apply Zd|apply Zf|apply Zc|apply Zg|apply Wp.step);case h=>((try simp(disch:=omega)only[↓reduceIte,Za,↓X0,X1,Nat.reduceEqDiff,Int.reduceEq,Nat.reduceAdd,Nat.reduceSub,X2,Zi,Nat.reduceLeDiff,f4,hb2,hvd.len]);with_reducible first|done|exact rfl|exact bT|exact bF))|apply Ze|apply Zh|with_reducible apply Zl|simp only[↓X3]|with_reducible apply Zb))
 refine Wp.bind (l114 (n0:=n+1) (H0:=H1) hb1 (by omega) (hvl.mv (by omega) (by intros;first|with_reducible rfl|simp(disch:=omega)only[Zi,Zj,s1])) (by omega) hvd2 (by omega) hsd _ _ _ (by omega) ((by intros;first|with_reducible rfl|simp(disch:=omega)only[Zi,Zj,f2])) (by simp [Zk,f4]) (by simp [Zk])) ?_
 rintro ⟨pe,pt,pH,pn⟩ ⟨g1,g2,g3⟩
 simp only at g1 g2 g3
 rcases g3 with ⟨rfl,g5⟩ | ⟨rfl,g4,g5⟩
 ·(repeat(first|((with_reducible first|apply Wp.gs|apply Wp.cs|apply Zd|apply Zf|apply Zc|apply Zg|apply Wp.step);case h=>((try simp(disch:=omega)only[↓reduceIte,Za,↓X0,X1,Nat.reduceEqDiff,Int.reduceEq,Nat.reduceAdd,Nat.reduceSub]);with_reducible first|done|exact rfl|exact bT|exact bF))|apply Ze|apply Zh|with_reducible apply Zl|simp only[↓X3]|with_reducible apply Zb))
  exact fin _ _ _ (by omega) ((by intros;first|with_reducible rfl|simp(disch:=omega)only[Zi,Zj,g2,s1])) (decide_eq_true ⟨hp,by omega,by omega,f5,g5⟩).symm
 ·simp(disch:=omega)only[↓reduceIte,Za,↓X0,X1,Nat.reduceEqDiff,Int.reduceEq,Nat.reduceAdd,Nat.reduceSub,g4]
  exact fin _ _ _ (by omega) ((by intros;first|with_reducible rfl|simp(disch:=omega)only[Zi,Zj,g2,s1])) (decide_eq_false (fun h=>g5 h.2.2.2.2)).symm
end Go.Proofs.Ytbgkimkbngocjaa.Ax
set_option linter.unusedVariables false
set_option linter.unusedSimpArgs false
set_option maxHeartbeats 4000000
namespace Go.Proofs.Ytbgkimkbngocjaa.Ax
open Go
def Small (s:CS):Prop:=(∀ x∈s.L,x.s.size≤1048576)∧∀ d∈s.D,d.s.size≤1048576
def Keeps (f:CS→CS):Prop:=∀ s,Small s→Small (f s)
theorem Keeps.id:Keeps (fun s=>s):=fun s h=>h
theorem Keeps.comp {f g:CS→CS} (hf:Keeps f) (hg:Keeps g):Keeps (fun s=>g (f s)):=fun s h=>hg _ (hf _ h)
theorem Keeps.ite {c:Prop} [Decidable c] {f g:CS→CS} (hf:c→Keeps f) (hg:¬ c→Keeps g):Keeps (fun s=>if c then f s else g s):=by
 intro s h
 by_cases hc:c
 ·simp only [hc,if_true]; exact hf hc s h
 ·simp only [hc,if_false]; exact hg hc s h
theorem Keeps.put {x:Ins} (hx:x.s.size≤1048576):Keeps (cPut x):=by
 intro s h
 unfold cPut
 split
 ·split
  ·exact h
  ·refine ⟨fun y hy=>?_,h.2⟩
   rcases List.mem_append.1 hy with hy | hy
   ·exact h.1 y hy
   ·simp at hy; rw [hy]; exact hx
 ·exact h
theorem insOf_sz (a b c:Int):(Zw a b c).s.size≤1048576:=by show (ByteArray.size ⟨#[]⟩)≤1048576; decide
theorem Keeps.fail (x:Int):Keeps (cFail x):=by
 intro s h; unfold cFail; split <;> exact h
theorem Keeps.to (a:Nat):Keeps (cTo a):=by
 intro s h
 unfold cTo
 split
 ·refine ⟨fun y hy=>?_,h.2⟩
  unfold setN at hy
  rcases List.mem_or_eq_of_mem_set hy with hy | hy
  ·exact h.1 y hy
  ·rw [hy]
   show (gi s.L (a:Int)).s.size≤1048576
   by_cases ha:a < s.L.length
   ·rw [gi_nat ha]; exact h.1 _ (List.getElem_mem ha)
   ·have:gi s.L (a:Int)=default:=by
     unfold gi
     rw [List.getD_eq_getElem?_getD,List.getElem?_eq_none (by simpa using ha)]; rfl
    rw [this]; show (ByteArray.size ⟨#[]⟩)≤1048576; decide
 ·exact h
theorem Keeps.fold {f:Int→CS→CS}:∀ l:List Int,(∀ v∈l,Keeps (f v))→Keeps (fun s=>l.foldl (fun s v=>f v s) s)
 | [],_=>Keeps.id
 | v :: l,hf=>(hf v List.mem_cons_self).comp (Keeps.fold l fun w hw=>hf w (List.mem_cons_of_mem _ hw))
theorem Keeps.body {E:CEx} {e:Env}:∀ l:List Int,(∀ v∈l,Keeps (E v e))→Keeps (cBody E e l)
 | [],_=>Keeps.id
 | v :: l,hE=>(hE v List.mem_cons_self).comp (Keeps.fold (f:=fun v s=>E v e (cPut (Zw 9 0 0) s)) l fun w hw=>(Keeps.put (insOf_sz _ _ _)).comp (hE w (List.mem_cons_of_mem _ hw)))
theorem Keeps.fun_ {E:CEx} {names:List ByteArray} {body:List Int} {e:Env} (hE:∀ v∈body,∀ e,Keeps (E v e)):Keeps (cFun E names body e):=by
 intro s h
 unfold cFun
 simp only
 exact Keeps.to _ _ (Keeps.put (insOf_sz _ _ _) _ (Keeps.body body (fun v hv=>hE v hv _) _ (Keeps.put (insOf_sz _ _ _) _ (Keeps.put (insOf_sz _ _ _) _ h))))
theorem Keeps.if_ {E:CEx} {l:List Int} {e:Env} (h4:l.length=4) (hE:∀ v∈l,∀ e,Keeps (E v e)):Keeps (cIf E l e):=by
 intro s h
 have m1:=gi_mem (l:=l) (i:=1) (by omega) (by omega)
 have m2:=gi_mem (l:=l) (i:=2) (by omega) (by omega)
 have m3:=gi_mem (l:=l) (i:=3) (by omega) (by omega)
 unfold cIf
 simp only
 exact Keeps.to _ _ (hE _ m3 _ _ (Keeps.to _ _ (Keeps.put (insOf_sz _ _ _) _ (hE _ m2 _ _ (Keeps.put (insOf_sz _ _ _) _ (hE _ m1 _ _ h))))))
theorem Keeps.form {E:CEx} {p:List Nd} {w:ByteArray} {l:List Int} {e:Env} (hE:∀ v∈l,∀ e,Keeps (E v e)):Keeps (cForm E p w l e):=by
 unfold cForm cFn
 refine Keeps.ite (fun _=>Keeps.put (insOf_sz _ _ _)) fun _=>Keeps.ite (fun h=>Keeps.if_ h.2 hE) fun _=>Keeps.ite (fun _=>Keeps.body _ fun v hv=>hE v (List.mem_of_mem_drop hv) _) fun _=>Keeps.ite (fun _=>Keeps.ite (fun _=>Keeps.ite (fun _=>Keeps.fun_ fun v hv=>hE v (List.mem_of_mem_drop hv)) fun _=>Keeps.fail _) fun _=>Keeps.fail _) fun _=>Keeps.ite (fun h=>Keeps.ite (fun _=>?_) fun _=>Keeps.fail _) fun _=>Keeps.fail _
 exact ((Keeps.fun_ (names:=(cNames p [gi l 1]).1) (body:=l.drop 3) (e:=e) fun v hv=>hE v (List.mem_of_mem_drop hv)).comp (hE _ (gi_mem (by omega) (by omega)) e)).comp (Keeps.put (insOf_sz _ _ _))
theorem varIns_sz {w:ByteArray} (hw:w.size≤1048576) (e:Env):(varIns w e).s.size≤1048576:=by
 unfold varIns; split
 ·exact insOf_sz _ _ _
 ·exact hw
theorem chain_memS {l:List Nd} (hp:PoolOk l):∀ (f:Nat) (v:Int),0≤v→v < l.length→∀ y∈(chain l f v).1,0≤y∧y < v
 | 0,v,_,_,y,hy=>by simp [chain] at hy
 | f+1,v,h0,h1,y,hy=>by
  unfold chain at hy
  by_cases h5:(gi l v).k=5
  ·rw [if_pos h5] at hy
   have hk:=(hp.at h0 h1).pair h5
   rcases List.mem_cons.1 hy with rfl | h
   ·exact hk.1
   ·have:=chain_memS hp f (gi l v).b hk.2.1 (by omega) y h
    omega
  ·rw [if_neg h5] at hy; simp at hy
theorem node_sz {p:List Nd} (hp:PoolOk p) {v:Int} (h0:0≤v) (h1:v < p.length):(gi p v).s.size≤1048576:=by
 have:=hp.at h0 h1
 rcases this with h | h | h | h | h | h | h | h | h <;> obtain ⟨_,_,h3,_⟩:=h
 all_goals first
  | (rw [h3]; show (ByteArray.size ⟨#[]⟩)≤1048576; decide)
  | (simp only [nameOk,Bool.and_eq_true,decide_eq_true_eq] at h3; omega)
theorem Keeps.expr {p:List Nd} (hp:PoolOk p):∀ (k:Nat) (v:Int),0≤v→v < p.length→∀ e,Keeps (cExpr p k v e)
 | 0,v,_,_,e=>Keeps.id
 | k+1,v,h0,h1,e=>by
  have hL:=chain_memS hp (v.toNat+1) v h0 h1
  have hE:∀ y∈(Zu p v).1,∀ e,Keeps (cExpr p k y e):=fun y hy e=>Keeps.expr hp k y (hL y hy).1 (by have:=hL y hy; omega) e
  intro s hs
  by_cases h:s.how=0
  ·rw [cExpr,if_pos h]
   exact (Keeps.ite (c:=(gi p v).k=1∨(gi p v).k=2∨(gi p v).k=3) (fun _=>Keeps.put (insOf_sz 1 v 0)) fun _=>Keeps.ite (c:=(gi p v).k=4) (fun _=>Keeps.ite (c:=special (gi p v).s=true) (fun _=>Keeps.fail 1) fun _=>Keeps.put (varIns_sz (node_sz hp h0 h1) e)) fun _=>Keeps.ite (c:=(gi p v).k=5∧(Zu p v).2=true) (fun _=>Keeps.ite (c:=(gi p (gi (Zu p v).1 0)).k=4∧special (gi p (gi (Zu p v).1 0)).s=true) (fun _=>Keeps.form (p:=p) (w:=(gi p (gi (Zu p v).1 0)).s) (e:=e) hE) fun _=>Keeps.ite (c:=5 < (Zu p v).1.length) (fun _=>Keeps.fail 1) fun _=>(Keeps.fold (f:=fun x s=>cExpr p k x e s) (Zu p v).1 fun x hx=>hE x hx e).comp (Keeps.put (insOf_sz 7 0 ((Zu p v).1.length - 1)))) fun _=>Keeps.fail 1) s hs
  ·rw [cExpr,if_neg h]; exact hs
theorem Keeps.define {E:CEx} {name:ByteArray} {params:List ByteArray} {body:List Int} (hn:name.size≤1048576) (hE:∀ v∈body,∀ e,Keeps (E v e)):Keeps (cDefine E name params body):=by
 intro s h
 unfold cDefine
 split
 ·exact Keeps.fail _ _ h
 ·refine Keeps.put (insOf_sz _ _ _) _ (Keeps.body body (fun v hv=>hE v hv _) _ ⟨h.1,fun d hd=>?_⟩)
  rcases List.mem_append.1 hd with hd | hd
  ·exact h.2 d hd
  ·simp at hd; rw [hd]; exact hn
theorem Keeps.top {p:List Nd} (hp:PoolOk p) {v:Int} (h0:0≤v) (h1:v < p.length) (k:Nat):Keeps (cTop (cExpr p k) p v):=by
 intro s hs
 have hL:=chain_memS hp (v.toNat+1) v h0 h1
 unfold cTop
 split
 ·rename_i hd
  have hd:=of_decide_eq_true hd
  have hmem:∀ y∈(Zu p v).1,0≤y∧y < p.length:=fun y hy=>by have:=hL y hy; omega
  unfold cDefn
  split
  ·rename_i hc
   have m1:=hmem _ (gi_mem (l:=(Zu p v).1) (i:=1) (by omega) (by omega))
   have hL1:=chain_memS hp ((gi (Zu p v).1 1).toNat+1) _ m1.1 m1.2
   have hpos:0 < (Zu p (gi (Zu p v).1 1)).1.length:=by
    rw [chainOf_eq hp m1.1 m1.2,if_pos hc.2.1]; simp
   have m2:=hL1 _ (gi_mem (l:=(Zu p (gi (Zu p v).1 1)).1) (i:=0) (by omega) (by omega))
   split
   ·split
    ·exact Keeps.define (node_sz hp m2.1 (by omega)) (fun y hy e=>Keeps.expr hp k y (hmem y (List.mem_of_mem_drop hy)).1 (hmem y (List.mem_of_mem_drop hy)).2 e) _ hs
    ·exact Keeps.fail _ _ hs
   ·exact Keeps.fail _ _ hs
  ·exact Keeps.fail _ _ hs
 ·exact Keeps.define (by decide) (fun y hy e=>by simp at hy; rw [hy]; exact Keeps.expr hp k v h0 h1 e) _ hs
theorem defOf_has (D:List Df) (w:ByteArray):(0≤defOf D w)↔hasDef w D=true:=by
 unfold defOf hasDef
 cases h:D.findIdx? (fun d=>decide (d.s=w)) with
 | none =>
  have:D.any (fun d=>decide (d.s=w))=false:=by
   rw [List.any_eq_false]
   intro x hx
   have:=List.findIdx?_eq_none_iff.1 h x hx
   simpa using this
  rw [this]; simp [fiInt]
 | some i =>
  obtain ⟨h1,h2,_⟩:=List.findIdx?_eq_some_iff_getElem.1 h
  have:D.any (fun d=>decide (d.s=w))=true:=List.any_eq_true.2 ⟨_,List.getElem_mem h1,h2⟩
  rw [this]; simp [fiInt]
structure CA where
 p:List Nd
 L:List Ins
 D:List Df
 how:Int
 at_:Int
def inPool (p:List Nd) (l:List Int):Prop:=∀ v∈l,0≤v∧v < (p.length:Int)
instance (p:List Nd) (l:List Int):Decidable (inPool p l):=by unfold inPool; infer_instance
def compAns (p:List Nd) (l:List Int):CA :=
 if PoolOk p∧inPool p l then
  (if (cAll p l 0 ⟨0,[],[]⟩).1.how=0 then
   (if CodeOk p (cAll p l 0 ⟨0,[],[]⟩).1.L (cAll p l 0 ⟨0,[],[]⟩).1.D then ⟨p,(cAll p l 0 ⟨0,[],[]⟩).1.L,(cAll p l 0 ⟨0,[],[]⟩).1.D,0,l.length⟩ else ⟨[],[],[],3,0⟩)
  else if (cAll p l 0 ⟨0,[],[]⟩).1.how=3 then ⟨[],[],[],3,0⟩ else ⟨[],[],[],(cAll p l 0 ⟨0,[],[]⟩).1.how,(cAll p l 0 ⟨0,[],[]⟩).2⟩)
 else ⟨[],[],[],3,0⟩
end Go.Proofs.Ytbgkimkbngocjaa.Ax
set_option linter.unusedVariables false
set_option linter.unusedSimpArgs false
set_option maxHeartbeats 4000000
namespace Go.Proofs.Ytbgkimkbngocjaa.Ax
open Go
def DrawnPL (n n':Nat) (H':Hp) (r:Value):Prop:=∃ u l w xs,r=.tuple ⟨[.agg ⟨[u]⟩,w]⟩∧(∀ x∈l,x.s.size≤1048576)∧l.length≤1048576∧xs.length≤1048576∧NewPL n n' H' u w l xs
theorem k8 {n:Nat} {H:Hp} {v:Value} {code:List Int} (hv:Li eByte n H v code) (hb:∀ x∈code,0≤x∧x≤255) (hl:code.length≤1048576):RtN Try.prog 8 [v] H n (fun r H' n'=>DrawnPL n n' H' r):=by
 apply RtN.mk
 rw [c8]; unfold S8
 ((repeat(first|((with_reducible first|apply Wp.gs|apply Wp.cs|apply Zd|apply Zf|apply Zc|apply Zg|apply Wp.step);case h=>((try simp(disch:=omega)only[↓reduceIte,Za,↓X0,X1,Nat.reduceEqDiff,Int.reduceEq,Nat.reduceAdd,Nat.reduceSub,X2,Zi,Nat.reduceLeDiff]);with_reducible first|done|exact rfl|exact bT|exact bF))|apply Ze|apply Zh|with_reducible apply Zl|simp only[↓X3]|with_reducible apply Zb));try(with_reducible apply Zm;case h=>((try simp(disch:=omega)only[X1,Nat.reduceEqDiff]);with_reducible exact rfl)))
 refine Wp.rnew (k33 (hv.mv (by omega) (by intros;first|with_reducible rfl|simp(disch:=omega)only[Zi,Zj])) hb hl) ?_
 intro c H1 n1 hc1 hcn s1 c1
 ((repeat(first|((with_reducible first|apply Wp.gs|apply Wp.cs|apply Zd|apply Zf|apply Zc|apply Zg|apply Wp.step);case h=>((try simp(disch:=omega)only[↓reduceIte,Za,↓X0,X1,Nat.reduceEqDiff,Int.reduceEq,Nat.reduceAdd,Nat.reduceSub]);with_reducible first|done|exact rfl|exact bT|exact bF))|apply Ze|apply Zh|with_reducible apply Zl|simp only[↓X3]|with_reducible apply Zb));try(with_reducible apply Zm;case h=>((try simp(disch:=omega)only[X1,Nat.reduceEqDiff]);with_reducible exact rfl)))
 refine Wp.rtd (k34 (c1.up (by omega))) ?_
 rintro _ H2 n2 q2 s2 c2 ⟨x,rfl,hx,hxb⟩
 ((repeat(first|((with_reducible first|apply Wp.gs|apply Wp.cs|apply Zd|apply Zf|apply Zc|apply Zg|apply Wp.step);case h=>((try simp(disch:=omega)only[↓reduceIte,Za,↓X0,X1,Nat.reduceEqDiff,Int.reduceEq,Nat.reduceAdd,Nat.reduceSub]);with_reducible first|done|exact rfl|exact bT|exact bF))|apply Ze|apply Zh|with_reducible apply Zl|simp only[↓X3]|with_reducible apply Zb));try(with_reducible apply Zm;case h=>((try simp(disch:=omega)only[X1,Nat.reduceEqDiff]);with_reducible exact rfl)))
 refine Wp.rtd (k35 (c2.up (by omega)) 3) ?_
 rintro _ H3 n3 q3 s3 c3 ⟨b,rfl⟩
 ((repeat(first|((with_reducible first|apply Wp.gs|apply Wp.cs|apply Zd|apply Zf|apply Zc|apply Zg|apply Wp.step);case h=>((try simp(disch:=omega)only[↓reduceIte,Za,↓X0,X1,Nat.reduceEqDiff,Int.reduceEq,Nat.reduceAdd,Nat.reduceSub]);with_reducible first|done|exact rfl|exact bT|exact bF))|apply Ze|apply Zh|with_reducible apply Zl|simp only[↓X3]|with_reducible apply Zb));try(with_reducible apply Zm;case h=>((try simp(disch:=omega)only[X1,Nat.reduceEqDiff]);with_reducible exact rfl)))
 have hp0:H3 n=some (.row [nilS] 0 true):=by simp (disch:=omega) only [s3,s2,s1,Zj]
 have hlo:∀ i,i < n→H3 i=H i:=by intro i hi; simp (disch:=omega) only [s3,s2,s1,Zi]
 have hcn3:=c3.1
 refine Wp.bind (R:=fun (o:Out)=>n3≤o.n∧(∀ i,i < n3→i≠c→o.H i=H3 i)∧Cu c o.n o.H∧o.t 2=ptr n 0∧o.t 4=ptr c 0∧∃ y,o.t 5=.string y) ?_ ?_
 ·cases b with
  | false =>
   (repeat(first|((with_reducible first|apply Wp.gs|apply Wp.cs|apply Zd|apply Zf|apply Zc|apply Zg|apply Wp.step);case h=>((try simp(disch:=omega)only[↓reduceIte,Za,↓X0,X1,Nat.reduceEqDiff,Int.reduceEq,Nat.reduceAdd,Nat.reduceSub]);with_reducible first|done|exact rfl|exact bT|exact bF))|apply Ze|apply Zh|with_reducible apply Zl|simp only[↓X3]|with_reducible apply Zb))
   exact Wp.pure ⟨by simp only; omega,fun _ _ _=>rfl,c3.up (by simp only; omega),by simp [Zk],by simp [Zk],x,by simp [Zk]⟩
  | true =>
   ((repeat(first|((with_reducible first|apply Wp.gs|apply Wp.cs|apply Zd|apply Zf|apply Zc|apply Zg|apply Wp.step);case h=>((try simp(disch:=omega)only[↓reduceIte,Za,↓X0,X1,Nat.reduceEqDiff,Int.reduceEq,Nat.reduceAdd,Nat.reduceSub]);with_reducible first|done|exact rfl|exact bT|exact bF))|apply Ze|apply Zh|with_reducible apply Zl|simp only[↓X3]|with_reducible apply Zb));try(with_reducible apply Zm;case h=>((try simp(disch:=omega)only[X1,Nat.reduceEqDiff]);with_reducible exact rfl)))
   refine Wp.bslS sz12 (by decide +kernel) (by decide +kernel) (by decide) (by decide +kernel) (by simp [strsOf]) ?_
   intro xs H4 a1 a2 s4 a3
   ((repeat(first|((with_reducible first|apply Wp.gs|apply Wp.cs|apply Zd|apply Zf|apply Zc|apply Zg|apply Wp.step);case h=>((try simp(disch:=omega)only[↓reduceIte,Za,↓X0,X1,Nat.reduceEqDiff,Int.reduceEq,Nat.reduceAdd,Nat.reduceSub]);with_reducible first|done|exact rfl|exact bT|exact bF))|apply Ze|apply Zh|with_reducible apply Zl|simp only[↓X3]|with_reducible apply Zb));try(with_reducible apply Zm;case h=>((try simp(disch:=omega)only[X1,Nat.reduceEqDiff]);with_reducible exact rfl)))
   refine Wp.rtd (k36 (c3.mv (by omega) (fun i hi=>s4 i (by omega))) x (by omega) (a3.lst (by omega)) (a3.off (by omega)) a1 a2) ?_
   rintro _ H5 n5 q5 s5 c5 ⟨y,rfl,hy⟩
   (repeat(first|((with_reducible first|apply Wp.gs|apply Wp.cs|apply Zd|apply Zf|apply Zc|apply Zg|apply Wp.step);case h=>((try simp(disch:=omega)only[↓reduceIte,Za,↓X0,X1,Nat.reduceEqDiff,Int.reduceEq,Nat.reduceAdd,Nat.reduceSub]);with_reducible first|done|exact rfl|exact bT|exact bF))|apply Ze|apply Zh|with_reducible apply Zl|simp only[↓X3]|with_reducible apply Zb))
   exact Wp.pure ⟨by simp only; omega,(by intros;first|with_reducible rfl|simp(disch:=omega)only[Zi,Zj,s5,s4]),c5.up (by simp only; omega),by simp [Zk],by simp [Zk],y,by simp [Zk]⟩
 rintro ⟨oe,oT,oH,on⟩ ⟨f1,f2,f3,t2,t4,y,t5⟩
 simp only at f1 f2 f3 t2 t4 t5
 ((repeat(first|((with_reducible first|apply Wp.gs|apply Wp.cs|apply Zd|apply Zf|apply Zc|apply Zg|apply Wp.step);case h=>((try simp(disch:=omega)only[↓reduceIte,Za,↓X0,X1,Nat.reduceEqDiff,Int.reduceEq,Nat.reduceAdd,Nat.reduceSub,X2,Zi,Nat.reduceLeDiff,t5]);with_reducible first|done|exact rfl|exact bT|exact bF))|apply Ze|apply Zh|with_reducible apply Zl|simp only[↓X3]|with_reducible apply Zb));try(with_reducible apply Zm;case h=>((try simp(disch:=omega)only[X1,Nat.reduceEqDiff,t5]);with_reducible exact rfl)))
 refine Wp.rtn (k37 y _ _) ?_
 rintro _ H6 n6 q6 s6 ⟨u,w,rfl,⟨i,j,i1,i2,j1,j2,hij,hu,hw⟩,hok,hxs⟩
 ((repeat(first|((with_reducible first|apply Wp.gs|apply Wp.cs|apply Zd|apply Zf|apply Zc|apply Zg|apply Wp.step);case h=>((try simp(disch:=omega)only[↓reduceIte,Za,↓X0,X1,Nat.reduceEqDiff,Int.reduceEq,Nat.reduceAdd,Nat.reduceSub,X2,Zi,Nat.reduceLeDiff,t4]);with_reducible first|done|exact rfl|exact bT|exact bF))|apply Ze|apply Zh|with_reducible apply Zl|simp only[↓X3]|with_reducible apply Zb));try(with_reducible apply Zm;case h=>((try simp(disch:=omega)only[X1,Nat.reduceEqDiff,t4]);with_reducible exact rfl)))
 have c6:Cu c (n6+2) (H6.set (on+8) (some (.row [u] 0 true))):=f3.mv (by omega) (fun k hk=>by rw [Zi _ _ (by have:=f3.1; omega)]; exact s6 k (by have:=f3.1; omega))
 refine Wp.rtd (k38 c6 25) ?_
 rintro _ H7 n7 q7 s7 c7 ⟨r,rfl,-,hr⟩
 have hr:=hr (by omega)
 ((repeat(first|((with_reducible first|apply Wp.gs|apply Wp.cs|apply Zd|apply Zf|apply Zc|apply Zg|apply Wp.step);case h=>((try simp(disch:=omega)only[↓reduceIte,Za,↓X0,X1,Nat.reduceEqDiff,Int.reduceEq,Nat.reduceAdd,Nat.reduceSub]);with_reducible first|done|exact rfl|exact bT|exact bF))|apply Ze|apply Zh|with_reducible apply Zl|simp only[↓X3]|with_reducible apply Zb));try(with_reducible apply Zm;case h=>((try simp(disch:=omega)only[X1,Nat.reduceEqDiff]);with_reducible exact rfl)))
 have hcn6:=f3.1
 have hb7:H7 (on+8)=some (.row [u] 0 true):=by rw [s7 _ (by omega) (by omega),Zj]
 have hu7:At eNode i H7 u (rdAns y).pool:=hu.mv (by rw [s7 _ (by omega) (by omega),Zi _ _ (by omega)])
 have hw7:At eInt j H7 w (rdAns y).list:=hw.mv (by rw [s7 _ (by omega) (by omega),Zi _ _ (by omega)])
 have hlo7:∀ k,k < c→H7 k=oH k:=fun k hk=>by rw [s7 _ (by omega) (by omega),Zi _ _ (by omega),s6 _ (by omega)]
 have hz:∀ x∈(rdAns y).pool,x.s.size≤1048576:=fun x hx=>by
  obtain ⟨k,hk,rfl⟩:=List.mem_iff_getElem.1 hx
  have:=node_sz hok (v:=(k:Int)) (by omega) (by omega)
  rw [gi_nat hk] at this
  exact this
 have hpl:=hok.2
 refine Wp.bind (R:=fun (o:Out)=>n7≤o.n∧(∀ k,k < c→o.H k=oH k)∧o.t 2=ptr n 0∧o.t 6=ptr (on+8) 0∧o.t 8=.int .i64 (rdAns y).how∧∃ u l i xs j,o.H (on+8)=some (.row [u] 0 true)∧At eNode i o.H u l∧At eInt j o.H (o.t 7) xs∧i≠j∧on+8 < i∧i < o.n∧on+8 < j∧j < o.n∧(∀ x∈l,x.s.size≤1048576)∧l.length≤1048576∧xs.length≤1048576) ?_ ?_
 ·by_cases r0:r=0
  ·rw [decide_eq_true r0]
   ((repeat(first|((with_reducible first|apply Wp.gs|apply Wp.cs|apply Zd|apply Zf|apply Zc|apply Zg|apply Wp.step);case h=>((try simp(disch:=omega)only[↓reduceIte,Za,↓X0,X1,Nat.reduceEqDiff,Int.reduceEq,Nat.reduceAdd,Nat.reduceSub,t4]);with_reducible first|done|exact rfl|exact bT|exact bF))|apply Ze|apply Zh|with_reducible apply Zl|simp only[↓X3]|with_reducible apply Zb));try(with_reducible apply Zm;case h=>((try simp(disch:=omega)only[X1,Nat.reduceEqDiff,t4]);with_reducible exact rfl)))
   refine Wp.rtd (k39 (c7.up (by omega))) ?_
   rintro _ H8 n8 q8 s8 c8 ⟨u2,l2,rfl,hsh,hl2,k,k1,k2,k3⟩
   have hb8:H8 (on+8)=some (.row [u] 0 true):=by rw [s8 _ (by omega) (by omega)]; exact hb7
   ((repeat(first|((with_reducible first|apply Wp.gs|apply Wp.cs|apply Zd|apply Zf|apply Zc|apply Zg|apply Wp.step);case h=>((try simp(disch:=omega)only[↓reduceIte,Za,↓X0,X1,Nat.reduceEqDiff,Int.reduceEq,Nat.reduceAdd,Nat.reduceSub,X2,Zi,Nat.reduceLeDiff,hb8,t4]);with_reducible first|done|exact rfl|exact bT|exact bF))|apply Ze|apply Zh|with_reducible apply Zl|simp only[↓X3]|with_reducible apply Zb));try(with_reducible apply Zm;case h=>((try simp(disch:=omega)only[X1,Nat.reduceEqDiff,hb8,t4]);with_reducible exact rfl)))
   refine Wp.rtd (k40 (c8.mv (by omega) (fun i hi=>Zi _ _ (by omega))) ((k3.mv (H':=H8.set (on+8) (some (.row [u2] 0 true))) (Zi _ _ (by omega))).lst (by omega)) (k3.off (by omega)) (by omega)) ?_
   rintro _ H9 n9 q9 s9 c9 ⟨a,rfl⟩
   (repeat(first|((with_reducible first|apply Wp.gs|apply Wp.cs|apply Zd|apply Zf|apply Zc|apply Zg|apply Wp.step);case h=>((try simp(disch:=omega)only[↓reduceIte,Za,↓X0,X1,Nat.reduceEqDiff,Int.reduceEq,Nat.reduceAdd,Nat.reduceSub,bsl_i]);with_reducible first|done|exact rfl|exact bT|exact bF))|apply Ze|apply Zh|with_reducible apply Zl|simp only[↓X3]|with_reducible apply Zb))
   exact Wp.pure ⟨by simp only; omega,fun k hk=>by simp (disch:=omega) only [Zi,s9,s8,hlo7],by simp [Zk,t2],by simp [Zk],by simp [Zk],u2,l2,k,[a],n8+3,by simp (disch:=omega) only [Zi,s9,Zj],k3.mv (by simp (disch:=omega) only [Zi,s9]),.inr ⟨by simp [Zk],Zj _ _ _⟩,by omega,by omega,by simp only; omega,by omega,by simp only; omega,fun x hx=>by have:=hsh x hx; omega,by omega,by simp⟩
  rw [decide_eq_false r0]
  by_cases r1:r=1
  ·((repeat(first|((with_reducible first|apply Wp.gs|apply Wp.cs|apply Zd|apply Zf|apply Zc|apply Zg|apply Wp.step);case h=>((try simp(disch:=omega)only[↓reduceIte,Za,↓X0,X1,Nat.reduceEqDiff,Int.reduceEq,Nat.reduceAdd,Nat.reduceSub,X2,Zi,Nat.reduceLeDiff,r0,r1,show ¬ (1:Int)=0 by decide,t4,hb7]);with_reducible first|done|exact rfl|exact bT|exact bF))|apply Ze|apply Zh|with_reducible apply Zl|simp only[↓X3]|with_reducible apply Zb));try(with_reducible apply Zm;case h=>((try simp(disch:=omega)only[X1,Nat.reduceEqDiff,r0,r1,show ¬ (1:Int)=0 by decide,t4,hb7]);with_reducible exact rfl)))
   refine Wp.rtd (k40 (c7.up (by omega)) ((hu7.lst (by omega)).mv (m:=n7+11) (by omega) (fun _ _=>rfl)) (hu7.off (by omega)) (by omega)) ?_
   rintro _ H9 n9 q9 s9 c9 ⟨a,rfl⟩
   ((repeat(first|((with_reducible first|apply Wp.gs|apply Wp.cs|apply Zd|apply Zf|apply Zc|apply Zg|apply Wp.step);case h=>((try simp(disch:=omega)only[↓reduceIte,Za,↓X0,X1,Nat.reduceEqDiff,Int.reduceEq,Nat.reduceAdd,Nat.reduceSub,bsl_i]);with_reducible first|done|exact rfl|exact bT|exact bF))|apply Ze|apply Zh|with_reducible apply Zl|simp only[↓X3]|with_reducible apply Zb));try(with_reducible apply Zm;case h=>((try simp(disch:=omega)only[X1,Nat.reduceEqDiff,bsl_i]);with_reducible exact rfl)))
   refine Wp.app1 (E:=eInt) a (hw7.mv (s9 _ (by omega) (by omega))) (by omega) (by decide) (by omega) ?_
   intro H10 a1 a2
   (repeat(first|((with_reducible first|apply Wp.gs|apply Wp.cs|apply Zd|apply Zf|apply Zc|apply Zg|apply Wp.step);case h=>((try simp(disch:=omega)only[↓reduceIte,Za,↓X0,X1,Nat.reduceEqDiff,Int.reduceEq,Nat.reduceAdd,Nat.reduceSub]);with_reducible first|done|exact rfl|exact bT|exact bF))|apply Ze|apply Zh|with_reducible apply Zl|simp only[↓X3]|with_reducible apply Zb))
   exact Wp.pure ⟨by simp only; omega,fun k hk=>by simp (disch:=omega) only [a2,s9,hlo7],by simp [Zk,t2],by simp [Zk],by simp [Zk],u,(rdAns y).pool,i,(rdAns y).list++[a],n7+9,by simp (disch:=omega) only [a2,s9,hb7],hu7.mv (by simp (disch:=omega) only [a2,s9]),.inr ⟨by simp [Zk],a1⟩,by omega,by omega,by simp only; omega,by omega,by simp only; omega,hz,by omega,by simp; omega⟩
  by_cases r2:r=2
  ·((repeat(first|((with_reducible first|apply Wp.gs|apply Wp.cs|apply Zd|apply Zf|apply Zc|apply Zg|apply Wp.step);case h=>((try simp(disch:=omega)only[↓reduceIte,Za,↓X0,X1,Nat.reduceEqDiff,Int.reduceEq,Nat.reduceAdd,Nat.reduceSub,X2,Zi,Nat.reduceLeDiff,r0,r1,r2,show ¬ (2:Int)=0 by decide,show ¬ (2:Int)=1 by decide]);with_reducible first|done|exact rfl|exact bT|exact bF))|apply Ze|apply Zh|with_reducible apply Zl|simp only[↓X3]|with_reducible apply Zb));try(with_reducible apply Zm;case h=>((try simp(disch:=omega)only[X1,Nat.reduceEqDiff,r0,r1,r2,show ¬ (2:Int)=0 by decide,show ¬ (2:Int)=1 by decide]);with_reducible exact rfl)))
   refine Wp.bslN eNode [⟨4,0,⟨#[102]⟩,0,0⟩,⟨1,0,⟨#[]⟩,0,0⟩,⟨5,0,⟨#[]⟩,0,1⟩] (by decide) rfl rfl ?_
   generalize hN:([⟨4,0,⟨#[102]⟩,0,0⟩,⟨1,0,⟨#[]⟩,0,0⟩,⟨5,0,⟨#[]⟩,0,1⟩]:List Nd)=N
   have hN3:N.length=3:=by rw [← hN]; rfl
   have hNz:∀ x∈N,x.s.size≤100:=by rw [← hN]; decide
   (repeat(first|((with_reducible first|apply Wp.gs|apply Wp.cs|apply Zd|apply Zf|apply Zc|apply Zg|apply Wp.step);case h=>((try simp(disch:=omega)only[↓reduceIte,Za,↓X0,X1,Nat.reduceEqDiff,Int.reduceEq,Nat.reduceAdd,Nat.reduceSub,X2,Zi,Nat.reduceLeDiff,hb7]);with_reducible first|done|exact rfl|exact bT|exact bF))|apply Ze|apply Zh|with_reducible apply Zl|simp only[↓X3]|with_reducible apply Zb))
   refine Wp.bind (R:=fun (o:Out)=>n7+13≤o.n∧(∀ k,k < c→o.H k=oH k)∧o.t 2=ptr n 0∧o.t 6=ptr (on+8) 0∧o.t 8=.int .i64 (rdAns y).how∧∃ u l id,l.length≤60∧(∀ x∈l,x.s.size≤100)∧on+8 < id∧PC (on+8) 0 id o.n o.H [u] 0 u l) (Ye (fun d T H' n'=>∃ (k:Nat) (u:Value) (l:List Nd) (id:Nat),k+d=30∧2≤k∧n7+13≤n'∧(∀ i,i < c→H' i=oH i)∧T 2=ptr n 0∧T 6=ptr (on+8) 0∧T 8=.int .i64 (rdAns y).how∧T 10=.int .i64 (k:Int)∧l.length+1=2 * k∧(∀ x∈l,x.s.size≤100)∧on+8 < id∧PC (on+8) 0 id n' H' [u] 0 u l) _ ?_ 28 _ _ _ ⟨2,sl (n7+9) 0 N.length,N,n7+9,by omega,by omega,by omega,fun k hk=>by simp (disch:=omega) only [Zi,hlo7],by simp [Zk,t2],by simp [Zk],by simp [Zk],by simp [Zk],by omega,hNz,by omega,⟨Zj _ _ _,rfl,.inr ⟨rfl,by rw [Zi _ _ (by omega),Zj]⟩,by omega,by omega,by omega⟩⟩) ?_
   ·rintro d T H' n' ⟨k,u,l,id,hkd,hk2,hn',hlo',t2,t6,t8,t10,hll,hlz,hid,hpc⟩
    unfold S8L0
    by_cases hk:(k:Int) < 30
    ·have w1:=wn (j:=k) (by omega)
     have w2:IntKind.i64.wrap (((l.length+1:Nat):Int) - 1)=(l.length:Int):=sub1 (by omega)
     have hcn':=hpc.cn
     ((repeat(first|((with_reducible first|apply Wp.gs|apply Wp.cs|apply Zd|apply Zf|apply Zc|apply Zg|apply Wp.step);case h=>((try simp(disch:=omega)only[↓reduceIte,Za,↓X0,X1,Nat.reduceEqDiff,Int.reduceEq,Nat.reduceAdd,Nat.reduceSub,X2,Zi,Nat.reduceLeDiff,t6,t10,hk]);with_reducible first|done|exact rfl|exact bT|exact bF))|apply Ze|apply Zh|with_reducible apply Zl|simp only[↓X3]|with_reducible apply Zb));try(with_reducible apply Zm;case h=>((try simp(disch:=omega)only[X1,Nat.reduceEqDiff,t6,t10,hk]);with_reducible exact rfl)))
     refine Zy (k41 (hpc.mv (m:=n'+5) (by omega) rfl rfl) (by omega) (ndPair k 1)) ?_
     rintro _ H8 n8 q8 s8 ⟨rfl,u8,id8,i1,i2⟩
     simp only [List.set_cons_zero] at i2
     have hb8:=i2.hc
     have hl8:=(i2.at_.lst i2.idn).len
     rw [List.length_append,show [ndPair (k:Int) 1].length=1 from rfl] at hl8
     have hcn8:=i2.cn
     ((repeat(first|((with_reducible first|apply Wp.gs|apply Wp.cs|apply Zd|apply Zf|apply Zc|apply Zg|apply Wp.step);case h=>((try simp(disch:=omega)only[↓reduceIte,Za,↓X0,X1,Nat.reduceEqDiff,Int.reduceEq,Nat.reduceAdd,Nat.reduceSub,X2,Zi,Nat.reduceLeDiff,t6,t10,hb8,hl8,w2]);with_reducible first|done|exact rfl|exact bT|exact bF))|apply Ze|apply Zh|with_reducible apply Zl|simp only[↓X3]|with_reducible apply Zb));try(with_reducible apply Zm;case h=>((try simp(disch:=omega)only[X1,Nat.reduceEqDiff,t6,t10,hb8,hl8,w2]);with_reducible exact rfl)))
     refine Zy (k41 (i2.mv (m:=n8+7) (by omega) rfl rfl) (by simp; omega) (ndPair k l.length)) ?_
     rintro _ H9 n9 q9 s9 ⟨rfl,u9,id9,j1,j2⟩
     simp only [List.set_cons_zero] at j2
     (repeat(first|((with_reducible first|apply Wp.gs|apply Wp.cs|apply Zd|apply Zf|apply Zc|apply Zg|apply Wp.step);case h=>((try simp(disch:=omega)only[↓reduceIte,Za,↓X0,X1,Nat.reduceEqDiff,Int.reduceEq,Nat.reduceAdd,Nat.reduceSub,t10,w1]);with_reducible first|done|exact rfl|exact bT|exact bF))|apply Ze|apply Zh|with_reducible apply Zl|simp only[↓X3]|with_reducible apply Zb))
     exact Wp.pure (Nxt.go (d - 1) (by omega) ⟨k+1,u9,_,id9,by omega,by omega,by omega,fun i hi=>by simp (disch:=omega) only [s9,s8,hlo'],by simp [Zk,t2],by simp [Zk,t6],by simp [Zk,t8],by simp [Zk],by simp; omega,fun x hx=>by
      simp only [List.mem_append,List.mem_cons,List.not_mem_nil,or_false] at hx
      rcases hx with (hx | rfl) | rfl
      ·exact hlz x hx
      ·exact Nat.zero_le _
      ·exact Nat.zero_le _,by omega,j2.mv (by omega) rfl rfl⟩)
    ·(repeat(first|((with_reducible first|apply Wp.gs|apply Wp.cs|apply Zd|apply Zf|apply Zc|apply Zg|apply Wp.step);case h=>((try simp(disch:=omega)only[↓reduceIte,Za,↓X0,X1,Nat.reduceEqDiff,Int.reduceEq,Nat.reduceAdd,Nat.reduceSub,t10,hk]);with_reducible first|done|exact rfl|exact bT|exact bF))|apply Ze|apply Zh|with_reducible apply Zl|simp only[↓X3]|with_reducible apply Zb))
     exact Wp.pure (Nxt.exit ⟨by simp only; omega,hlo',by simp [Zk,t2],by simp [Zk,t6],by simp [Zk,t8],u,l,id,by omega,hlz,hid,hpc.mv (by simp only; omega) rfl rfl⟩)
   ·rintro ⟨pe,pT,pH,pn⟩ ⟨g1,g2,g3,g4,g5,u,l,id,g6,g7,g8,g9⟩
    simp only at g1 g2 g3 g4 g5 g9
    have hb9:=g9.hc
    have hl9:=(g9.at_.lst g9.idn).len
    have hid9:=g9.idn
    (repeat(first|((with_reducible first|apply Wp.gs|apply Wp.cs|apply Zd|apply Zf|apply Zc|apply Zg|apply Wp.step);case h=>((try simp(disch:=omega)only[↓reduceIte,Za,↓X0,X1,Nat.reduceEqDiff,Int.reduceEq,Nat.reduceAdd,Nat.reduceSub,X2,Zi,Nat.reduceLeDiff,g4,hb9,hl9,bsl_i]);with_reducible first|done|exact rfl|exact bT|exact bF))|apply Ze|apply Zh|with_reducible apply Zl|simp only[↓X3]|with_reducible apply Zb))
    exact Wp.pure ⟨by simp only; omega,fun k hk=>by simp (disch:=omega) only [Zi,g2],by simp [Zk,g3],by simp [Zk,g4],by simp [Zk,g5],u,l,id,[_],pn+4,by simp (disch:=omega) only [Zi,hb9],g9.at_.mv (Zi _ _ (by omega)),.inr ⟨by simp [Zk],Zj _ _ _⟩,by omega,by omega,by simp only; omega,by omega,by simp only; omega,fun x hx=>by have:=g7 x hx; omega,by omega,by simp⟩
  ·(repeat(first|((with_reducible first|apply Wp.gs|apply Wp.cs|apply Zd|apply Zf|apply Zc|apply Zg|apply Wp.step);case h=>((try simp(disch:=omega)only[↓reduceIte,Za,↓X0,X1,Nat.reduceEqDiff,Int.reduceEq,Nat.reduceAdd,Nat.reduceSub,r0,r1,r2]);with_reducible first|done|exact rfl|exact bT|exact bF))|apply Ze|apply Zh|with_reducible apply Zl|simp only[↓X3]|with_reducible apply Zb))
   exact Wp.pure ⟨by simp only; omega,hlo7,by simp [Zk,t2],by simp [Zk],by simp [Zk],u,(rdAns y).pool,i,(rdAns y).list,j,hb7,hu7,by simp [Zk]; exact hw7,hij,by omega,by simp only; omega,by omega,by simp only; omega,hz,by omega,by omega⟩
 ·rintro ⟨pe,pT,pH,pn⟩ ⟨g1,g2,g3,g4,g5,u,l,i,xs,j,g6,g7,g8,g9,g10,g11,g12,g13,g14,g15,g16⟩
  simp only at g1 g2 g3 g4 g5 g6 g7 g8 g11 g13
  have hpn:pH n=some (.row [nilS] 0 true):=by rw [g2 n (by omega),f2 n (by omega) (by omega)]; exact hp0
  have hlo9:∀ k,k < n→pH k=H k:=fun k hk=>by rw [g2 k (by omega),f2 k (by omega) (by omega)]; exact hlo k hk
  have hl7:=(g8.lst g13).len
  have hnt:notTup (pT 7)=true:=by rcases g8 with ⟨h,_⟩ | ⟨h,_⟩ <;> rw [h] <;> rfl
  by_cases h8:(rdAns y).how=0
  ·(repeat(first|((with_reducible first|apply Wp.gs|apply Wp.cs|apply Zd|apply Zf|apply Zc|apply Zg|apply Wp.step);case h=>((try simp(disch:=omega)only[↓reduceIte,Za,↓X0,X1,Nat.reduceEqDiff,Int.reduceEq,Nat.reduceAdd,Nat.reduceSub,X2,Zi,Nat.reduceLeDiff,g3,g4,g5,h8,g6,hpn,hnt]);with_reducible first|done|exact rfl|exact bT|exact bF))|apply Ze|apply Zh|with_reducible apply Zl|simp only[↓X3]|with_reducible apply Zb))
   exact Wp.pure ⟨by simp only; omega,(by intros;first|with_reducible rfl|simp(disch:=omega)only[Zi,Zj,hlo9]),u,l,pT 7,xs,by simp [Zk],g14,g15,g16,i,j,by omega,by simp only; omega,by omega,by simp only; omega,g9,g7.mv (Zi _ _ (by omega)),g8.mv (Zi _ _ (by omega))⟩
  by_cases h9:xs.length=0
  ·have h9i:(xs.length:Int)=0:=by omega
   (repeat(first|((with_reducible first|apply Wp.gs|apply Wp.cs|apply Zd|apply Zf|apply Zc|apply Zg|apply Wp.step);case h=>((try simp(disch:=omega)only[↓reduceIte,Za,↓X0,X1,Nat.reduceEqDiff,Int.reduceEq,Nat.reduceAdd,Nat.reduceSub,X2,Zi,Nat.reduceLeDiff,g3,g4,g5,h8,hl7,h9i,g6,hpn,bsl_i]);with_reducible first|done|exact rfl|exact bT|exact bF))|apply Ze|apply Zh|with_reducible apply Zl|simp only[↓X3]|with_reducible apply Zb))
   exact Wp.pure ⟨by simp only; omega,(by intros;first|with_reducible rfl|simp(disch:=omega)only[Zi,Zj,hlo9]),u,l,sl (pn+7) 0 1,[0],by simp [Zk],g14,g15,by simp,i,pn+7,by omega,by simp only; omega,by omega,by simp only; omega,by omega,g7.mv (by simp (disch:=omega) only [Zi]),.inr ⟨rfl,(Zi _ _ (by omega)).trans (Zj _ _ _)⟩⟩
  ·have h9i:¬ (xs.length:Int)=0:=by omega
   (repeat(first|((with_reducible first|apply Wp.gs|apply Wp.cs|apply Zd|apply Zf|apply Zc|apply Zg|apply Wp.step);case h=>((try simp(disch:=omega)only[↓reduceIte,Za,↓X0,X1,Nat.reduceEqDiff,Int.reduceEq,Nat.reduceAdd,Nat.reduceSub,X2,Zi,Nat.reduceLeDiff,g3,g4,g5,h8,hl7,h9i,g6,hpn,hnt]);with_reducible first|done|exact rfl|exact bT|exact bF))|apply Ze|apply Zh|with_reducible apply Zl|simp only[↓X3]|with_reducible apply Zb))
   exact Wp.pure ⟨by simp only; omega,(by intros;first|with_reducible rfl|simp(disch:=omega)only[Zi,Zj,hlo9]),u,l,pT 7,xs,by simp [Zk],g14,g15,g16,i,j,by omega,by simp only; omega,by omega,by simp only; omega,g9,g7.mv (Zi _ _ (by omega)),g8.mv (Zi _ _ (by omega))⟩
end Go.Proofs.Ytbgkimkbngocjaa.Ax
set_option linter.unusedVariables false
set_option linter.unusedSimpArgs false
set_option maxHeartbeats 4000000
namespace Go.Proofs.Ytbgkimkbngocjaa.Ax
open Go
def Inc (s:CS):Prop:=(∀ d∈s.D,d.at_ < (s.L.length:Int))∧s.D.Pairwise (fun a b=>a.at_ < b.at_)
theorem cPut_ok {x:Ins} {s:CS} (h:(cPut x s).how=0):s.how=0∧(cPut x s).L.length=s.L.length+1∧(cPut x s).D=s.D:=by
 unfold cPut at h ⊢
 by_cases h0:s.how=0
 ·rw [if_pos h0] at h ⊢
  by_cases h4:s.L.length=400
  ·rw [if_pos h4] at h; exact absurd h (by show ¬ (3:Int)=0; decide)
  ·rw [if_neg h4]; exact ⟨h0,by simp,rfl⟩
 ·rw [if_neg h0] at h; exact absurd h h0
theorem cDefine_inc {E:CEx} (hE:∀ v e,Goes (E v e)) {name:ByteArray} {params:List ByteArray} {body:List Int} {s:CS} (hi:Inc s) (h:(cDefine E name params body s).how=0):Inc (cDefine E name params body s)∧(cDefine E name params body s).D.length=s.D.length+1:=by
 unfold cDefine at h ⊢
 by_cases hd:hasDef name s.D=true
 ·rw [if_pos hd] at h; exact absurd h (cFail_no (by decide))
 ·rw [if_neg hd] at h ⊢
  obtain ⟨h1,h2,h3⟩:=cPut_ok h
  obtain ⟨g1,g2,g3⟩:=Goes.body hE [params] body ⟨s.how,s.L,s.D++[⟨name,s.L.length,params.length⟩]⟩
  simp only at g2 g3
  rw [g3] at h3
  refine ⟨⟨?_,?_⟩,by rw [h3]; simp⟩
  ·intro d hd
   rw [h3] at hd
   rcases List.mem_append.1 hd with hd | hd
   ·have:=hi.1 d hd; omega
   ·simp only [List.mem_cons,List.not_mem_nil,or_false] at hd
    rw [hd]; simp only; omega
  ·rw [h3,List.pairwise_append]
   refine ⟨hi.2,by simp,?_⟩
   intro a ha b hb
   simp only [List.mem_cons,List.not_mem_nil,or_false] at hb
   rw [hb]; exact hi.1 a ha
theorem cTop_inc {p:List Nd} {E:CEx} (hE:∀ v e,Goes (E v e)) {v:Int} {s:CS} (hi:Inc s) (h:(cTop E p v s).how=0):Inc (cTop E p v s)∧(cTop E p v s).D.length=s.D.length+1:=by
 unfold cTop at h ⊢
 split at h
 ·rename_i hd
  rw [if_pos hd]
  unfold cDefn at h ⊢
  split at h
  ·rename_i h1
   rw [if_pos h1]
   split at h
   ·rename_i h2
    rw [if_pos h2]
    split at h
    ·rename_i h3
     rw [if_pos h3]
     exact cDefine_inc hE hi h
    ·rename_i h3; exact absurd h (cFail_no h3)
   ·exact absurd h (cFail_no (by decide))
  ·exact absurd h (cFail_no (by decide))
 ·rename_i hd
  rw [if_neg hd]
  exact cDefine_inc hE hi h
theorem cAll_inc (p:List Nd):∀ (l:List Int) (i:Nat) (s:CS),s.how=0→Inc s→((cAll p l i s).1.how=0→Inc (cAll p l i s).1∧(cAll p l i s).1.D.length=s.D.length+l.length)∧((cAll p l i s).1.how≠0→(cAll p l i s).2 < i+l.length)
 | [],i,s,h0,hi=>⟨fun _=>⟨hi,rfl⟩,fun h=>absurd h0 h⟩
 | v :: r,i,s,h0,hi=>by
  rw [cAll]
  by_cases h:(cTop (cExpr p p.length) p v s).how=0
  ·rw [if_pos h]
   obtain ⟨a1,a2⟩:=cTop_inc (Goes.expr p p.length) hi h
   obtain ⟨b1,b2⟩:=cAll_inc p r (i+1) _ h a1
   refine ⟨fun h'=>⟨(b1 h').1,by rw [(b1 h').2,a2,List.length_cons]; omega⟩,fun h'=>?_⟩
   have:=b2 h'
   rw [List.length_cons]; omega
  ·rw [if_neg h]
   exact ⟨fun h'=>absurd h' h,fun _=>by simp only [List.length_cons]; omega⟩
theorem Inc.nil:Inc ⟨0,[],[]⟩:=by
 refine ⟨fun d hd=>?_,List.Pairwise.nil⟩
 simp at hd
def CompNo (p:List Nd) (l:List Int):Prop:=(compAns p l).how≠0∧(compAns p l).L=[]∧(compAns p l).D=[]∧0≤(compAns p l).at_∧((compAns p l).at_ < (l.length:Int)∨(compAns p l).at_=0)
def CompYes (p:List Nd) (l:List Int):Prop:=(compAns p l).how=0∧CodeOk (compAns p l).p (compAns p l).L (compAns p l).D∧(compAns p l).at_=l.length∧(compAns p l).D.length=l.length∧(compAns p l).D.Pairwise (fun a b=>a.at_ < b.at_)
theorem compAns_two (p:List Nd) (l:List Int):CompNo p l∨CompYes p l:=by
 unfold CompNo CompYes compAns
 by_cases h1:PoolOk p∧inPool p l
 ·rw [if_pos h1]
  have hA:=cAll_inc p l 0 ⟨0,[],[]⟩ rfl Inc.nil
  by_cases h2:(cAll p l 0 ⟨0,[],[]⟩).1.how=0
  ·rw [if_pos h2]
   obtain ⟨a1,a2⟩:=hA.1 h2
   split
   ·rename_i h3
    exact .inr ⟨rfl,h3,rfl,by simpa using a2,a1.2⟩
   ·exact .inl ⟨by decide,rfl,rfl,by decide,.inr rfl⟩
  ·rw [if_neg h2]
   have:=hA.2 h2
   split
   ·exact .inl ⟨by decide,rfl,rfl,by decide,.inr rfl⟩
   ·exact .inl ⟨h2,rfl,rfl,by simp only; omega,.inl (by simp only; omega)⟩
 ·rw [if_neg h1]
  exact .inl ⟨by decide,rfl,rfl,by decide,.inr rfl⟩
theorem inc_at {D:List Df} (h:D.Pairwise (fun a b=>a.at_ < b.at_)) {j:Nat} (h0:0 < j) (h1:j < D.length):(gi D ((j:Int) - 1)).at_ < (gi D (j:Int)).at_:=by
 rw [gi_nat h1,show (j:Int) - 1=((j - 1:Nat):Int) by omega,gi_nat (by omega)]
 exact List.pairwise_iff_getElem.1 h (j - 1) j (by omega) h1 (by omega)
theorem code_op {l:List Nd} {li:List Ins} {ld:List Df} (h:CodeOk l li ld) {j:Nat} (hj:j < ld.length):defOf ld (gi ld (j:Int)).s=j∧0≤(gi ld (j:Int)).at_∧(gi ld (j:Int)).at_ < (li.length:Int)∧(gi li (gi ld (j:Int)).at_).op≠0:=by
 obtain ⟨-,-,-,h4,h5⟩:=h
 obtain ⟨d1,d2,d3,d4⟩:=h5 j hj
 refine ⟨d2,d3.1,by omega,?_⟩
 have hi:=h4 (gi ld (j:Int)).at_.toNat (by omega)
 rw [show (((gi ld (j:Int)).at_.toNat:Nat):Int)=(gi ld (j:Int)).at_ by omega] at hi
 generalize gi li (gi ld (j:Int)).at_=x at hi
 unfold InsOk at hi
 omega
theorem ins_sz {x:Ins} {k m a:Int} (h:InsOk x k m a):x.s.size≤1048576:=by
 have e:(⟨#[]⟩:ByteArray).size=0:=rfl
 unfold InsOk at h
 have hn:nameOk x.s=true→x.s.size≤1048576:=fun h=>by
  simp only [nameOk,Bool.and_eq_true,decide_eq_true_eq] at h; omega
 have he:x.s=⟨#[]⟩→x.s.size≤1048576:=fun h=>by rw [h]; decide
 rcases h with h | h | h | h | h | h | h
 ·exact he h.2.2.2
 ·exact he h.2.2.2
 ·exact hn h.2.2.2
 ·exact he h.2.2.2
 ·exact he h.2.2.2
 ·exact he h.2.2.2
 ·exact he h.2.2.2
theorem code_sz {l:List Nd} {li:List Ins} {ld:List Df} (h:CodeOk l li ld):(∀ x∈l,x.s.size≤1048576)∧(∀ x∈li,x.s.size≤1048576)∧(∀ x∈ld,x.s.size≤1048576):=by
 obtain ⟨h1,-,-,h4,h5⟩:=h
 refine ⟨fun x hx=>?_,fun x hx=>?_,fun x hx=>?_⟩
 ·obtain ⟨k,hk,rfl⟩:=List.mem_iff_getElem.1 hx
  have:=node_sz h1 (v:=(k:Int)) (by omega) (by omega)
  rw [gi_nat hk] at this
  exact this
 ·obtain ⟨k,hk,rfl⟩:=List.mem_iff_getElem.1 hx
  have:=ins_sz (h4 k hk)
  rw [gi_nat hk] at this
  exact this
 ·obtain ⟨k,hk,rfl⟩:=List.mem_iff_getElem.1 hx
  have:=(h5 k hk).1
  rw [gi_nat hk] at this
  simp only [nameOk,Bool.and_eq_true,decide_eq_true_eq] at this
  omega
end Go.Proofs.Ytbgkimkbngocjaa.Ax
set_option linter.unusedVariables false
set_option linter.unusedSimpArgs false
set_option maxHeartbeats 4000000
namespace Go.Proofs.Ytbgkimkbngocjaa.Ax
open Go
structure LO {α:Type} (E:Enc α) (c il n:Nat) (H:Hp) (w:Value) (l:List α):Prop where
 li:Li E n H w l
 oc:Off c w
 oi:Off il w
theorem LO.mv {α:Type} {E:Enc α} {c il il' n m:Nat} {H H':Hp} {w:Value} {l:List α} (h:LO E c il n H w l) (hm:n≤m) (hs:∀ i,i < n→i≠c→i≠il→H' i=H i) (hi:il'=il∨n≤il'):LO E c il' m H' w l:=by
 refine ⟨(h.li.keep' fun i o a k e=>hs i (h.li.2 i o a k e) (h.oc i o a k e) (h.oi i o a k e)).up hm,h.oc,?_⟩
 rcases hi with rfl | hi
 ·exact h.oi
 ·exact h.li.off hi
theorem At.lo {α:Type} {E:Enc α} {id c il n:Nat} {H:Hp} {w:Value} {l:List α} (h:At E id H w l) (hn:id < n) (hc:id≠c) (hi:id≠il):LO E c il n H w l:=by
 refine ⟨h.lst hn,?_,?_⟩ <;> (rcases h with ⟨rfl,_⟩ | ⟨rfl,_⟩) <;> intro i o a k e <;> cases e <;> assumption
theorem sliceV_off {sz:Nat} {v v':Value} {lo hi:Option Value} (h:sliceV sz v lo hi=some v') {c:Nat} (ho:Off c v):Off c v':=by
 unfold sliceV at h
 split at h
 ·rename_i str
  cases hb:bnd 0 lo with
  | none=>simp [hb] at h
  | some a =>
   cases hb2:bnd str.size hi with
   | none=>simp [hb,hb2] at h
   | some b =>
    simp only [hb,hb2,Option.bind_some] at h
    split at h
    ·cases h; intro i o a k e; cases e
    ·cases h
 ·cases hb:bnd 0 lo with
  | none=>simp [hb] at h
  | some a =>
   cases hb2:bnd 0 hi with
   | none=>simp [hb,hb2] at h
   | some b =>
    simp only [hb,hb2,Option.bind_some] at h
    split at h
    ·cases h; intro i o a k e; cases e
    ·cases h
 ·rename_i i o n q
  cases hb:bnd 0 lo with
  | none=>simp [hb] at h
  | some a =>
   cases hb2:bnd n hi with
   | none=>simp [hb,hb2] at h
   | some b =>
    simp only [hb,hb2,Option.bind_some] at h
    split at h
    ·split at h
     ·cases h; intro i o a k e; cases e
     ·cases h; intro i' o' a' k' e; cases e; exact ho _ _ _ _ rfl
    ·cases h
 ·cases hb:bnd 0 lo with
  | none=>simp [hb] at h
  | some a =>
   cases hb2:bnd 0 hi with
   | none=>simp [hb,hb2] at h
   | some b =>
    simp only [hb,hb2,Option.bind_some] at h
    split at h
    ·cases h; intro i o a k e; cases e
    ·cases h
 ·cases h
theorem LO.slice {α:Type} {E:Enc α} {c il n:Nat} {H:Hp} {w:Value} {l:List α} (h:LO E c il n H w l) (hz:0 < E.sz) (lo hi:Option Value) (a b:Nat) (ha:bnd 0 lo=some a) (hb:∀ d,d=l.length→bnd d hi=some b) (hab:a≤b) (hbl:b≤l.length):∃ w',sliceV E.sz w lo hi=some w'∧LO E c il n H w' ((l.drop a).take (b - a)):=by
 obtain ⟨w',h1,h2⟩:=h.li.slice hz lo hi a b ha hb hab hbl
 exact ⟨w',h1,h2,sliceV_off h1 h.oc,sliceV_off h1 h.oi⟩
abbrev eVl:Enc Value:=⟨1,fun x=>[x],fun _=>rfl⟩
theorem Li.vAll {n:Nat} {H:Hp} {v:Value} {l:List Value} (h:Li eVl n H v l) {i:Int} (h0:0≤i) (h1:i < l.length):(∀ k,idxA 1 v (.int k i)=some (elP 1 v i.toNat))∧ld false 1 (elP 1 v i.toNat) H=some (l[i.toNat]'(by omega)) :=
 ⟨fun k=>h.idx h0 h1,h.ldc h0 h1 rfl⟩
structure EV (c il n:Nat) (H:Hp) (w:Value) (e:List (List ByteArray)):Prop where
 ex:∃ ws:List Value,LO eVl c il n H w ws∧ws.length=e.length∧∀ (i:Nat) (h1:i < ws.length) (h2:i < e.length),LO eStr c il n H ws[i] e[i]∧cell1 ws[i]=true
theorem EV.mv {c il il' n m:Nat} {H H':Hp} {w:Value} {e:List (List ByteArray)} (h:EV c il n H w e) (hm:n≤m) (hs:∀ i,i < n→i≠c→i≠il→H' i=H i) (hi:il'=il∨n≤il'):EV c il' m H' w e:=by
 obtain ⟨ws,h1,h2,h3⟩:=h.ex
 exact ⟨ws,h1.mv hm hs hi,h2,fun i a b=>⟨(h3 i a b).1.mv hm hs hi,(h3 i a b).2⟩⟩
structure CC (c il n:Nat) (H:Hp) (v ul ud:Value) (s:CS):Prop where
 hc:H c=some (.row [v,ul,ud,.int .i64 s.how] 0 true)
 al:At eIns il H ul s.L
 cn:c < n
 iln:il < n
 ne:il≠c
 len:s.L.length≤400
 hr:0≤s.how∧s.how≤3
theorem CC.mv {c il n m:Nat} {H H':Hp} {v ul ud:Value} {s:CS} (h:CC c il n H v ul ud s) (hm:n≤m) (h1:H' c=H c) (h2:H' il=H il):CC c il m H' v ul ud s :=
 ⟨by rw [h1]; exact h.hc,h.al.mv h2,by have:=h.cn; omega,by have:=h.iln; omega,h.ne,h.len,h.hr⟩
theorem k111 {c il n:Nat} {H:Hp} {v ul ud:Value} {s:CS} (h:CC c il n H v ul ud s) (x:Int) (hx:0≤x∧x≤3):RtA Try.prog 111 [ptr c 0,.int .i64 x] c il H n (fun r H' n'=>r=.tuple ⟨[]⟩∧CC c il n' H' v ul ud (cFail x s)):=by
 apply RtA.of
 rw [c111]; unfold S111
 obtain ⟨hc,hal,hcn,hil,hne,hlen,hr⟩:=h
 have hst:=st_cset (o:=3) (v:=.int .i64 x) hc (by simp) rfl
 by_cases h0:s.how=0
 ·have e:cFail x s=⟨x,s.L,s.D⟩:=by unfold cFail; rw [if_pos h0]
  rw [e]
  (repeat(first|((with_reducible first|apply Wp.gs|apply Wp.cs|apply Zd|apply Zf|apply Zc|apply Zg|apply Wp.step);case h=>((try simp(disch:=omega)only[↓reduceIte,Za,↓X0,X1,Nat.reduceEqDiff,Int.reduceEq,Nat.reduceAdd,Nat.reduceSub,X2,Zi,Nat.reduceLeDiff,hc,h0,hst]);with_reducible first|done|exact rfl|exact bT|exact bF))|apply Ze|apply Zh|with_reducible apply Zl|simp only[↓X3]|with_reducible apply Zb))
  exact Wp.pure ⟨by simp only; omega,(by intros;first|with_reducible rfl|simp(disch:=omega)only[Zi,Zj]),rfl,Zj _ _ _,hal.mv (by intros;first|with_reducible rfl|simp(disch:=omega)only[Zi,Zj]),by simp only; omega,by simp only; omega,hne,hlen,hx⟩
 ·rw [cFail_how h0]
  (repeat(first|((with_reducible first|apply Wp.gs|apply Wp.cs|apply Zd|apply Zf|apply Zc|apply Zg|apply Wp.step);case h=>((try simp(disch:=omega)only[↓reduceIte,Za,↓X0,X1,Nat.reduceEqDiff,Int.reduceEq,Nat.reduceAdd,Nat.reduceSub,X2,Zi,Nat.reduceLeDiff,hc,h0]);with_reducible first|done|exact rfl|exact bT|exact bF))|apply Ze|apply Zh|with_reducible apply Zl|simp only[↓X3]|with_reducible apply Zb))
  exact Wp.pure ⟨by simp only; omega,(by intros;first|with_reducible rfl|simp(disch:=omega)only[Zi,Zj]),rfl,hc,hal,by simp only; omega,by simp only; omega,hne,hlen,hr⟩
theorem k115 {c il n:Nat} {H:Hp} {v ul ud:Value} {s:CS} (h:CC c il n H v ul ud s) (x:Ins):RtA Try.prog 115 [ptr c 0,.agg ⟨x.cells⟩] c il H n (fun r H' n'=>r=.int .i64 (if (cPut x s).how=0 then (s.L.length:Int) else 0)∧∃ ul' il',(il'=il∨n≤il')∧CC c il' n' H' v ul' ud (cPut x s)):=by
 apply RtA.of
 rw [c115]; unfold S115
 have hcn:=h.cn
 have hil:=h.iln
 have hne:=h.ne
 have hc:=h.hc
 have hal:=h.al
 have hlen:=h.len
 have hr:=h.hr
 have hlv:Yc false ul=some (.int .i64 s.L.length):=(hal.lst hil).len
 by_cases h4:(s.L.length:Int)=400
 ·have h4':s.L.length=400:=by omega
  ((repeat(first|((with_reducible first|apply Wp.gs|apply Wp.cs|apply Zd|apply Zf|apply Zc|apply Zg|apply Wp.step);case h=>((try simp(disch:=omega)only[↓reduceIte,Za,↓X0,X1,Nat.reduceEqDiff,Int.reduceEq,Nat.reduceAdd,Nat.reduceSub,X2,Zi,Nat.reduceLeDiff,Ins.cells,hc,hlv,h4]);with_reducible first|done|exact rfl|exact bT|exact bF))|apply Ze|apply Zh|with_reducible apply Zl|simp only[↓X3]|with_reducible apply Zb));try(with_reducible apply Zm;case h=>((try simp(disch:=omega)only[X1,Nat.reduceEqDiff,Ins.cells,hc,hlv,h4]);with_reducible exact rfl)))
  refine Zy (k111 (h.mv (m:=n+11) (H':=H.set n (some (.row x.cells 0 true))) (by omega) (by intros;first|with_reducible rfl|simp(disch:=omega)only[Zi,Zj]) (by intros;first|with_reducible rfl|simp(disch:=omega)only[Zi,Zj])) 3 (by decide)) ?_
  rintro _ H1 n1 q1 s1 ⟨rfl,h1⟩
  have hc1:=h1.hc
  have hc1':=h1.hr
  have hcn1:=h1.cn
  have hno:(cFail 3 s).how≠0:=cFail_no (by decide)
  have e:cPut x s=cFail 3 s:=by
   unfold cPut cFail
   split
   ·first | rfl | rw [if_pos h4']
   ·rfl
  (repeat(first|((with_reducible first|apply Wp.gs|apply Wp.cs|apply Zd|apply Zf|apply Zc|apply Zg|apply Wp.step);case h=>((try simp(disch:=omega)only[↓reduceIte,Za,↓X0,X1,Nat.reduceEqDiff,Int.reduceEq,Nat.reduceAdd,Nat.reduceSub,X2,Zi,Nat.reduceLeDiff,hc1,hno]);with_reducible first|done|exact rfl|exact bT|exact bF))|apply Ze|apply Zh|with_reducible apply Zl|simp only[↓X3]|with_reducible apply Zb))
  exact Wp.pure ⟨by simp only; omega,(by intros;first|with_reducible rfl|simp(disch:=omega)only[Zi,Zj,s1]),by rw [e,if_neg hno],ul,il,.inl rfl,by rw [e]; exact h1.mv (by simp only; omega) rfl rfl⟩
 ·have h4':¬ s.L.length=400:=by omega
  by_cases h0:s.how=0
  ·have e:cPut x s=⟨0,s.L++[x],s.D⟩:=by unfold cPut; rw [if_pos h0,if_neg h4']
   have hb:=bsl_ic (n+9+12) x
   simp only [Ins.cells] at hb
   ((repeat(first|((with_reducible first|apply Wp.gs|apply Wp.cs|apply Zd|apply Zf|apply Zc|apply Zg|apply Wp.step);case h=>((try simp(disch:=omega)only[↓reduceIte,Za,↓X0,X1,Nat.reduceEqDiff,Int.reduceEq,Nat.reduceAdd,Nat.reduceSub,X2,Zi,Nat.reduceLeDiff,Ins.cells,hc,hlv,h4,h0,hb]);with_reducible first|done|exact rfl|exact bT|exact bF))|apply Ze|apply Zh|with_reducible apply Zl|simp only[↓X3]|with_reducible apply Zb));try(with_reducible apply Zm;case h=>((try simp(disch:=omega)only[X1,Nat.reduceEqDiff,Ins.cells,hc,hlv,h4,h0,hb]);with_reducible exact rfl)))
   refine Wp.app1 (E:=eIns) x (hal.mv (by intros;first|with_reducible rfl|simp(disch:=omega)only[Zi,Zj])) (by omega) (by decide) (by omega) ?_
   intro H4 r1 r2
   have hc4:H4 c=some (.row [v,ul,ud,.int .i64 s.how] 0 true):=by simp (disch:=omega) only [r2,Zi,hc]
   have hst:=st_cset (o:=1) (v:=sl (n+9+13) 0 (s.L++[x]).length) hc4 (by simp) rfl
   simp only [List.set_cons_succ,List.set_cons_zero] at hst
   have hw:IntKind.i64.wrap (((s.L++[x]).length:Int) - 1)=(s.L.length:Int):=by rw [List.length_append]; exact sub1 (by omega)
   (repeat(first|((with_reducible first|apply Wp.gs|apply Wp.cs|apply Zd|apply Zf|apply Zc|apply Zg|apply Wp.step);case h=>((try simp(disch:=omega)only[↓reduceIte,Za,↓X0,X1,Nat.reduceEqDiff,Int.reduceEq,Nat.reduceAdd,Nat.reduceSub,X2,Zi,Nat.reduceLeDiff,hst,hw]);with_reducible first|done|exact rfl|exact bT|exact bF))|apply Ze|apply Zh|with_reducible apply Zl|simp only[↓X3]|with_reducible apply Zb))
   refine Wp.pure ⟨by simp only; omega,(by intros;first|with_reducible rfl|simp(disch:=omega)only[Zi,Zj,r2]),by rw [e]; simp,sl (n+9+13) 0 (s.L++[x]).length,n+9+13,.inr (by omega),?_⟩
   rw [e]
   exact ⟨by rw [← h0]; exact Zj _ _ _,.inr ⟨rfl,(Zi _ _ (by omega)).trans r1⟩,by simp only; omega,by simp only; omega,by omega,by simp; omega,⟨Int.le_refl 0,by show (0:Int)≤3; decide⟩⟩
  ·have e:cPut x s=s:=cPut_how h0
   (repeat(first|((with_reducible first|apply Wp.gs|apply Wp.cs|apply Zd|apply Zf|apply Zc|apply Zg|apply Wp.step);case h=>((try simp(disch:=omega)only[↓reduceIte,Za,↓X0,X1,Nat.reduceEqDiff,Int.reduceEq,Nat.reduceAdd,Nat.reduceSub,X2,Zi,Nat.reduceLeDiff,Ins.cells,hc,hlv,h4,h0]);with_reducible first|done|exact rfl|exact bT|exact bF))|apply Ze|apply Zh|with_reducible apply Zl|simp only[↓X3]|with_reducible apply Zb))
   exact Wp.pure ⟨by simp only; omega,(by intros;first|with_reducible rfl|simp(disch:=omega)only[Zi,Zj]),by rw [e,if_neg h0],ul,il,.inl rfl,by rw [e]; exact h.mv (by simp only; omega) (by intros;first|with_reducible rfl|simp(disch:=omega)only[Zi,Zj]) (by intros;first|with_reducible rfl|simp(disch:=omega)only[Zi,Zj])⟩
theorem k135 {c il n:Nat} {H:Hp} {v ul ud:Value} {s:CS} (h:CC c il n H v ul ud s) (a:Int) (b:Nat) (ha:s.how=0→a=b∧b < s.L.length):RtA Try.prog 135 [ptr c 0,.int .i64 a] c il H n (fun r H' n'=>r=.tuple ⟨[]⟩∧CC c il n' H' v ul ud (cTo b s)):=by
 apply RtA.of
 rw [c135]; unfold S135
 have hcn:=h.cn
 have hil:=h.iln
 have hne:=h.ne
 have hc:=h.hc
 have hal:=h.al
 have hlv:Yc false ul=some (.int .i64 s.L.length):=(hal.lst hil).len
 by_cases h0:s.how=0
 ·obtain ⟨rfl,hb⟩:=ha h0
  have e:cTo b s=⟨0,setN s.L b,s.D⟩:=by unfold cTo; rw [if_pos h0]
  have hul:ul=sl il 0 s.L.length∧H il=some (.row (s.L.flatMap eIns.cells) eIns.sz true):=by
   rcases hal with ⟨_,h2⟩ | h
   ·rw [h2] at hb; simp at hb
   ·exact h
  obtain ⟨rfl,hrow⟩:=hul
  have hix:=idx_sl (sz:=4) (id:=il) (k:=.i64) hb
  have hst:st false 1 (ptr il (b * 4+1)) (.int .i64 s.L.length) H=some (H.set il (some (.row ((setN s.L b).flatMap eIns.cells) eIns.sz true))):=by
   rw [st_c rfl]
   refine st_fld (E:=eIns) hrow hb (by decide) ?_
   rw [gi_nat hb]; rfl
  (repeat(first|((with_reducible first|apply Wp.gs|apply Wp.cs|apply Zd|apply Zf|apply Zc|apply Zg|apply Wp.step);case h=>((try simp(disch:=omega)only[↓reduceIte,Za,↓X0,X1,Nat.reduceEqDiff,Int.reduceEq,Nat.reduceAdd,Nat.reduceSub,X2,Zi,Nat.reduceLeDiff,hc,hlv,h0,hix,hst]);with_reducible first|done|exact rfl|exact bT|exact bF))|apply Ze|apply Zh|with_reducible apply Zl|simp only[↓X3]|with_reducible apply Zb))
  refine Wp.pure ⟨by simp only; omega,(by intros;first|with_reducible rfl|simp(disch:=omega)only[Zi,Zj]),rfl,?_⟩
  rw [e]
  exact ⟨by show (H.set il _) c=_; rw [Zi _ _ (by omega),hc,h0],.inr ⟨by rw [setN_len],Zj _ _ _⟩,by simp only; omega,by simp only; omega,hne,by rw [setN_len]; exact h.len,⟨Int.le_refl 0,by show (0:Int)≤3; decide⟩⟩
 ·rw [cTo_how h0]
  (repeat(first|((with_reducible first|apply Wp.gs|apply Wp.cs|apply Zd|apply Zf|apply Zc|apply Zg|apply Wp.step);case h=>((try simp(disch:=omega)only[↓reduceIte,Za,↓X0,X1,Nat.reduceEqDiff,Int.reduceEq,Nat.reduceAdd,Nat.reduceSub,X2,Zi,Nat.reduceLeDiff,hc,h0]);with_reducible first|done|exact rfl|exact bT|exact bF))|apply Ze|apply Zh|with_reducible apply Zl|simp only[↓X3]|with_reducible apply Zb))
  exact Wp.pure ⟨by simp only; omega,(by intros;first|with_reducible rfl|simp(disch:=omega)only[Zi,Zj]),rfl,h.mv (by simp only; omega) rfl rfl⟩
theorem k90 {c n:Nat} {H:Hp} {v:Value} {cs:List Value} {p:List Nd} (hv:Li eNode n H v p) (hc:H c=some (.row (v :: cs) 0 true)) (hcn:c < n) (x:Int) (h0:0≤x) (h1:x < (p.length:Int)):Rt Try.prog 90 [ptr c 0,.int .i64 x] H n (.tuple ⟨[.string (gi p x).s,.bool (decide ((gi p x).k=4))]⟩):=by
 apply Rt.mk
 rw [c90]; unfold S90
 have g:=hv.nAll h0 h1
 have hcl:(gi p x).cells=[.int .i64 (gi p x).k,.int .i64 (gi p x).n,.string (gi p x).s,.int .i64 (gi p x).a,.int .i64 (gi p x).b]:=rfl
 rw [hcl] at g
 (repeat(first|((with_reducible first|apply Wp.gs|apply Wp.cs|apply Zd|apply Zf|apply Zc|apply Zg|apply Wp.step);case h=>((try simp(disch:=omega)only[↓reduceIte,Za,↓X0,X1,Nat.reduceEqDiff,Int.reduceEq,Nat.reduceAdd,Nat.reduceSub,X2,Zi,Nat.reduceLeDiff,hc,g]);with_reducible first|done|exact rfl|exact bT|exact bF))|apply Ze|apply Zh|with_reducible apply Zl|simp only[↓X3]|with_reducible apply Zb))
 exact Wp.pure ⟨by simp only; omega,(by intros;first|with_reducible rfl|simp(disch:=omega)only[Zi,Zj]),rfl⟩
theorem k122 {n:Nat} {H:Hp} {v:Value} {l:List ByteArray} (s:ByteArray) (hv:Li eStr n H v l) (hl:l.length≤1000000):Rt Try.prog 122 [v,.string s] H n (.bool (fIdx s l 0).isSome):=by
 apply Rt.mk
 rw [c122]; unfold S122
 ((repeat(first|((with_reducible first|apply Wp.gs|apply Wp.cs|apply Zd|apply Zf|apply Zc|apply Zg|apply Wp.step);case h=>((try simp(disch:=omega)only[↓reduceIte,Za,↓X0,X1,Nat.reduceEqDiff,Int.reduceEq,Nat.reduceAdd,Nat.reduceSub]);with_reducible first|done|exact rfl|exact bT|exact bF))|apply Ze|apply Zh|with_reducible apply Zl|simp only[↓X3]|with_reducible apply Zb));try(with_reducible apply Zm;case h=>((try simp(disch:=omega)only[X1,Nat.reduceEqDiff]);with_reducible exact rfl)))
 refine Wp.rp (k126 s (hv.up (by omega)) hl) ?_
 intro n1 q1
 cases hf:fIdx s l 0 with
 | none =>
  simp only [hf]
  (repeat(first|((with_reducible first|apply Wp.gs|apply Wp.cs|apply Zd|apply Zf|apply Zc|apply Zg|apply Wp.step);case h=>((try simp(disch:=omega)only[↓reduceIte,Za,↓X0,X1,Nat.reduceEqDiff,Int.reduceEq,Nat.reduceAdd,Nat.reduceSub,show ¬ (0:Int) ≤ -1 by decide]);with_reducible first|done|exact rfl|exact bT|exact bF))|apply Ze|apply Zh|with_reducible apply Zl|simp only[↓X3]|with_reducible apply Zb))
  exact Wp.pure ⟨by simp only; omega,(by intros;first|with_reducible rfl|simp(disch:=omega)only[Zi,Zj]),rfl⟩
 | some k =>
  simp only [hf]
  (repeat(first|((with_reducible first|apply Wp.gs|apply Wp.cs|apply Zd|apply Zf|apply Zc|apply Zg|apply Wp.step);case h=>((try simp(disch:=omega)only[↓reduceIte,Za,↓X0,X1,Nat.reduceEqDiff,Int.reduceEq,Nat.reduceAdd,Nat.reduceSub,show (0:Int)≤(k:Int) by omega]);with_reducible first|done|exact rfl|exact bT|exact bF))|apply Ze|apply Zh|with_reducible apply Zl|simp only[↓X3]|with_reducible apply Zb))
  exact Wp.pure ⟨by simp only; omega,(by intros;first|with_reducible rfl|simp(disch:=omega)only[Zi,Zj]),rfl⟩
theorem special_idx (s:ByteArray):(fIdx s [wQuote,wIf,wFn,wDo,wLet,wDefine] 0).isSome=special s:=by
 unfold special
 simp only [fIdx]
 by_cases h1:s=wQuote
 ·simp [h1]
 by_cases h2:s=wIf
 ·simp [h1,h2]; (repeat' split) <;> rfl
 by_cases h3:s=wFn
 ·simp [h1,h2,h3]; (repeat' split) <;> rfl
 by_cases h4:s=wDo
 ·simp [h1,h2,h3,h4]; (repeat' split) <;> rfl
 by_cases h5:s=wLet
 ·simp [h1,h2,h3,h4,h5]; (repeat' split) <;> rfl
 by_cases h6:s=wDefine
 ·simp [h1,h2,h3,h4,h5,h6]; (repeat' split) <;> rfl
 simp [h1,h2,h3,h4,h5,h6]
theorem k112 (s:ByteArray) (H:Hp) (n:Nat):Rt Try.prog 112 [.string s] H n (.bool (special s)):=by
 apply Rt.mk
 rw [c112]; unfold S112
 refine Wp.bslN eStr [wQuote,wIf,wFn,wDo,wLet,wDefine] ⟨by decide,rfl⟩ rfl rfl ?_
 generalize hG:Hp.set _ _ _=G
 have hat:At eStr (n+1) G (sl (n+1) 0 [wQuote,wIf,wFn,wDo,wLet,wDefine].length) [wQuote,wIf,wFn,wDo,wLet,wDefine]:=.inr ⟨rfl,by rw [← hG]; exact Zj _ _ _⟩
 have hs:∀ i,i < n+1→G i=H i:=by rw [← hG]; exact (by intros;first|with_reducible rfl|simp(disch:=omega)only[Zi,Zj])
 refine Wp.rt (k122 s (hat.lst (by omega)) (by simp)) ?_
 intro H1 n1 q1 s1
 (repeat(first|((with_reducible first|apply Wp.gs|apply Wp.cs|apply Zd|apply Zf|apply Zc|apply Zg|apply Wp.step);case h=>((try simp(disch:=omega)only[↓reduceIte,Za,↓X0,X1,Nat.reduceEqDiff,Int.reduceEq,Nat.reduceAdd,Nat.reduceSub]);with_reducible first|done|exact rfl|exact bT|exact bF))|apply Ze|apply Zh|with_reducible apply Zl|simp only[↓X3]|with_reducible apply Zb))
 exact Wp.pure ⟨by simp only; omega,(by intros;first|with_reducible rfl|simp(disch:=omega)only[Zi,Zj,s1,hs]),by rw [special_idx]⟩
end Go.Proofs.Ytbgkimkbngocjaa.Ax
