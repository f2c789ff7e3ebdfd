/- What the law needs: laws of the abstract machine, and contracts of functions. -/
import Derived.Test.YtbgkimkbngocjaaM12
set_option linter.unusedVariables false
set_option linter.unusedSimpArgs false
set_option maxHeartbeats 8000000
namespace Go.Proofs.Ytbgkimkbngocjaa.Ax
open Go
theorem law4 {v:Value} {code:List Int} {H:Hp} {n:Nat} (hv:Li eByte n H v code) (hb:∀ x∈code,0≤x∧x≤255):∃ H' n',Call Try.prog 4 [v] H n=some (.bool true,H',n'):=by
 rw [c4]; unfold S4
 apply Wp.val
 by_cases hbig:1048576 < code.length
 ·(repeat(first|((with_reducible first|apply Wp.gs|apply Wp.cs|apply Zc|apply Zf|apply Zd|apply Zh|apply Wp.step);case h=>((try simp(disch:=omega)only[↓reduceIte,Za,↓X0,X1,Nat.reduceEqDiff,Int.reduceEq,Nat.reduceAdd,Nat.reduceSub,Zp,k7 (hv.up (show n≤n+3 by omega)),hbig]);with_reducible first|done|exact rfl|exact bT|exact bF))|apply Ze|apply Zi|with_reducible apply Zl|simp only[↓X3]|with_reducible apply Zb))
  exact Wp.pure rfl
 have hl:code.length≤1048576:=by omega
 ((repeat(first|((with_reducible first|apply Wp.gs|apply Wp.cs|apply Zc|apply Zf|apply Zd|apply Zh|apply Wp.step);case h=>((try simp(disch:=omega)only[↓reduceIte,Za,↓X0,X1,Nat.reduceEqDiff,Int.reduceEq,Nat.reduceAdd,Nat.reduceSub,Zp,k7 (hv.up (show n≤n+3 by omega)),hbig]);with_reducible first|done|exact rfl|exact bT|exact bF))|apply Ze|apply Zi|with_reducible apply Zl|simp only[↓X3]|with_reducible apply Zb));try(with_reducible apply Zm;case h=>((try simp(disch:=omega)only[X1,Nat.reduceEqDiff,Zp,k7 (hv.up (show n≤n+3 by omega)),hbig]);with_reducible exact rfl)))
 refine Wp.rtn (k13 (hv.mv (by omega) (by intros;first|with_reducible rfl|simp(disch:=omega)only[Zg,Zj])) hb hl) ?_
 rintro _ H1 n1 q1 s1 ⟨u,ul,ud,s,rfl,hs,l,li,ld,⟨i,il,id,d1,d2,d3,a1,a2,b1,b2,c1,c2,o1,o2,o3⟩,hB⟩
 obtain ⟨z1,z2,z3,k1,k2,k3⟩:=hB
 ((repeat(first|((with_reducible first|apply Wp.gs|apply Wp.cs|apply Zc|apply Zf|apply Zd|apply Zh|apply Wp.step);case h=>((try simp(disch:=omega)only[↓reduceIte,Za,↓X0,X1,Nat.reduceEqDiff,Int.reduceEq,Nat.reduceAdd,Nat.reduceSub,X2,Zg,Nat.reduceLeDiff,s1]);with_reducible first|done|exact rfl|exact bT|exact bF))|apply Ze|apply Zi|with_reducible apply Zl|simp only[↓X3]|with_reducible apply Zb));try(with_reducible apply Zm;case h=>((try simp(disch:=omega)only[X1,Nat.reduceEqDiff,s1]);with_reducible exact rfl)))
 obtain ⟨M,hM⟩:∃ M,M=H1.set (n+3+5+5) (some (.row [u,ul,ud] 0 true)):=⟨_,rfl⟩
 have hbM:M (n+3+5+5)=some (.row [u,ul,ud] 0 true):=by rw [hM,Zj]
 have vn:Li eNode (n1+3) M u l:=(o1.mv (by rw [hM]; exact Zg _ _ (by omega))).lst (by omega)
 have vl:Li eIns (n1+3) M ul li:=(o2.mv (by rw [hM]; exact Zg _ _ (by omega))).lst (by omega)
 have vd:Li eDef (n1+3) M ud ld:=(o3.mv (by rw [hM]; exact Zg _ _ (by omega))).lst (by omega)
 rw [← hM]
 refine Wp.rt (k12 vn vl vd z1 z2 z3 (by omega) (by omega) (by omega)) ?_
 intro H2 n2 q2 s2
 ((repeat(first|((with_reducible first|apply Wp.gs|apply Wp.cs|apply Zc|apply Zf|apply Zd|apply Zh|apply Wp.step);case h=>((try simp(disch:=omega)only[↓reduceIte,Za,↓X0,X1,Nat.reduceEqDiff,Int.reduceEq,Nat.reduceAdd,Nat.reduceSub,X2,Zg,Nat.reduceLeDiff,s2,hbM]);with_reducible first|done|exact rfl|exact bT|exact bF))|apply Ze|apply Zi|with_reducible apply Zl|simp only[↓X3]|with_reducible apply Zb));try(with_reducible apply Zm;case h=>((try simp(disch:=omega)only[X1,Nat.reduceEqDiff,s2,hbM]);with_reducible exact rfl)))
 refine Wp.rt (k11 (vd.mv (by omega) (by intros;first|with_reducible rfl|simp(disch:=omega)only[Zg,Zj,s2])) (by omega) s) ?_
 intro H3 n3 q3 s3
 ((repeat(first|((with_reducible first|apply Wp.gs|apply Wp.cs|apply Zc|apply Zf|apply Zd|apply Zh|apply Wp.step);case h=>((try simp(disch:=omega)only[↓reduceIte,Za,↓X0,X1,Nat.reduceEqDiff,Int.reduceEq,Nat.reduceAdd,Nat.reduceSub,X2,Zg,Nat.reduceLeDiff,s3,s2,hbM]);with_reducible first|done|exact rfl|exact bT|exact bF))|apply Ze|apply Zi|with_reducible apply Zl|simp only[↓X3]|with_reducible apply Zb));try(with_reducible apply Zm;case h=>((try simp(disch:=omega)only[X1,Nat.reduceEqDiff,s3,s2,hbM]);with_reducible exact rfl)))
 refine Wp.rt (k14 (vn.mv (by omega) (by intros;first|with_reducible rfl|simp(disch:=omega)only[Zg,Zj,s3,s2])) (vl.mv (by omega) (by intros;first|with_reducible rfl|simp(disch:=omega)only[Zg,Zj,s3,s2])) (vd.mv (by omega) (by intros;first|with_reducible rfl|simp(disch:=omega)only[Zg,Zj,s3,s2])) z1 z2 z3 (by omega) (by omega) (by omega)) ?_
 intro H4 n4 q4 s4
 ((repeat(first|((with_reducible first|apply Wp.gs|apply Wp.cs|apply Zc|apply Zf|apply Zd|apply Zh|apply Wp.step);case h=>((try simp(disch:=omega)only[↓reduceIte,Za,↓X0,X1,Nat.reduceEqDiff,Int.reduceEq,Nat.reduceAdd,Nat.reduceSub,X2,Zg,Nat.reduceLeDiff,s4,s3,s2,hbM,eq_self.{1}]);with_reducible first|done|exact rfl|exact bT|exact bF))|apply Ze|apply Zi|with_reducible apply Zl|simp only[↓X3]|with_reducible apply Zb));try(with_reducible apply Zm;case h=>((try simp(disch:=omega)only[X1,Nat.reduceEqDiff,s4,s3,s2,hbM,eq_self.{1}]);with_reducible exact rfl)))
 refine Wp.rt (k15 (vd.mv (by omega) (by intros;first|with_reducible rfl|simp(disch:=omega)only[Zg,Zj,s4,s3,s2])) (by omega) s) ?_
 intro H5 n5 q5 s5
 ((repeat(first|((with_reducible first|apply Wp.gs|apply Wp.cs|apply Zc|apply Zf|apply Zd|apply Zh|apply Wp.step);case h=>((try simp(disch:=omega)only[↓reduceIte,Za,↓X0,X1,Nat.reduceEqDiff,Int.reduceEq,Nat.reduceAdd,Nat.reduceSub,X2,Zg,Nat.reduceLeDiff,eq_self.{1}]);with_reducible first|done|exact rfl|exact bT|exact bF))|apply Ze|apply Zi|with_reducible apply Zl|simp only[↓X3]|with_reducible apply Zb));try(with_reducible apply Zm;case h=>((try simp(disch:=omega)only[X1,Nat.reduceEqDiff,eq_self.{1}]);with_reducible exact rfl)))
 have hS:∀ i,i < n1+3→H5 i=M i:=fun i hi=>by simp (disch:=omega) only [s5,s4,s3,s2]
 have hr:=defOf_rng ld s
 refine Wp.bind (R:=fun (o:Out)=>n5≤o.n∧(∀ i,i < n1+3→o.H i=M i)∧o.e=.exit 0∧o.t 3=ptr (n+3+5+5) 0∧o.t 4=.string s∧o.t 6=.int .i64 (defOf ld s)) (Loop_rule (fun d T H' n'=>∃ k:Nat,k+d=ld.length∧n5≤n'∧(∀ i,i < n1+3→H' i=M i)∧T 3=ptr (n+3+5+5) 0∧T 4=.string s∧T 6=.int .i64 (defOf ld s)∧T 7=.int .i64 (k:Int)) _ ?_ ld.length _ _ _ ⟨0,by omega,by omega,hS,by simp [Zk],by simp [Zk],by simp [Zk],by simp [Zk]⟩) ?_
 ·rintro d T H' n' ⟨k,hkd,hn',hs',t3,t4,t6,t7⟩
  unfold S4L0
  have hcH:H' (n+3+5+5)=some (.row [u,ul,ud] 0 true):=by rw [hs' _ (by omega)]; exact hbM
  have vd':Li eDef n' H' ud ld:=vd.mv (by omega) (fun i hi=>hs' i (by omega))
  have hlen:=vd'.len
  by_cases hk:k < ld.length
  ·have hki:(k:Int) < ld.length:=by omega
   have g:=vd'.dAll (i:=(k:Int)) (by omega) hki
   have w1:=wn (j:=k) (by omega)
   by_cases he:(gi ld (k:Int)).s=s
   ·obtain ⟨e1,e2⟩:=defOf_le hk he
    have e1':¬ defOf ld s < 0:=by omega
    have e2':¬ (k:Int) < defOf ld s:=by omega
    (repeat(first|((with_reducible first|apply Wp.gs|apply Wp.cs|apply Zc|apply Zf|apply Zd|apply Zh|apply Wp.step);case h=>((try simp(disch:=omega)only[↓reduceIte,Za,↓X0,X1,Nat.reduceEqDiff,Int.reduceEq,Nat.reduceAdd,Nat.reduceSub,X2,Zg,Nat.reduceLeDiff,t3,t4,t6,t7,hcH,hlen,hki,g,he,e1',e2',w1,eq_self.{1}]);with_reducible first|done|exact rfl|exact bT|exact bF))|apply Ze|apply Zi|with_reducible apply Zl|simp only[↓X3]|with_reducible apply Zb))
    exact Wp.pure (Nxt.go (d - 1) (by omega) ⟨k+1,by omega,by omega,hs',by simp [Zk,t3],by simp [Zk,t4],by simp [Zk,t6],by simp [Zk]⟩)
   ·((repeat(first|((with_reducible first|apply Wp.gs|apply Wp.cs|apply Zc|apply Zf|apply Zd|apply Zh|apply Wp.step);case h=>((try simp(disch:=omega)only[↓reduceIte,Za,↓X0,X1,Nat.reduceEqDiff,Int.reduceEq,Nat.reduceAdd,Nat.reduceSub,X2,Zg,Nat.reduceLeDiff,t3,t4,t6,t7,hcH,hlen,hki,g,he,w1]);with_reducible first|done|exact rfl|exact bT|exact bF))|apply Ze|apply Zi|with_reducible apply Zl|simp only[↓X3]|with_reducible apply Zb));try(with_reducible apply Zm;case h=>((try simp(disch:=omega)only[X1,Nat.reduceEqDiff,t3,t4,t6,t7,hcH,hlen,hki,g,he,w1]);with_reducible exact rfl)))
    simp(disch:=omega)only[↓reduceIte,Za,↓X0,X1,Nat.reduceEqDiff,Int.reduceEq,Nat.reduceAdd,Nat.reduceSub]
    (repeat(first|((with_reducible first|apply Wp.gs|apply Wp.cs|apply Zc|apply Zf|apply Zd|apply Zh|apply Wp.step);case h=>((try simp(disch:=omega)only[↓reduceIte,Za,↓X0,X1,Nat.reduceEqDiff,Int.reduceEq,Nat.reduceAdd,Nat.reduceSub,t7,w1]);with_reducible first|done|exact rfl|exact bT|exact bF))|apply Ze|apply Zi|with_reducible apply Zl|simp only[↓X3]|with_reducible apply Zb))
    exact Wp.pure (Nxt.go (d - 1) (by omega) ⟨k+1,by omega,by omega,hs',by simp [Zk,t3],by simp [Zk,t4],by simp [Zk,t6],by simp [Zk]⟩)
  ·have hki:¬ (k:Int) < ld.length:=by omega
   (repeat(first|((with_reducible first|apply Wp.gs|apply Wp.cs|apply Zc|apply Zf|apply Zd|apply Zh|apply Wp.step);case h=>((try simp(disch:=omega)only[↓reduceIte,Za,↓X0,X1,Nat.reduceEqDiff,Int.reduceEq,Nat.reduceAdd,Nat.reduceSub,X2,Zg,Nat.reduceLeDiff,t3,t7,hcH,hlen,hki]);with_reducible first|done|exact rfl|exact bT|exact bF))|apply Ze|apply Zi|with_reducible apply Zl|simp only[↓X3]|with_reducible apply Zb))
   exact Wp.pure (Nxt.exit ⟨by simp only; omega,hs',rfl,by simp [Zk,t3],by simp [Zk,t4],by simp [Zk,t6]⟩)
 ·rintro ⟨oe,oT,oH,on⟩ ⟨f1,f2,rfl,t3,t4,t6⟩
  simp only at f1 f2 t3 t4 t6
  have hcH:oH (n+3+5+5)=some (.row [u,ul,ud] 0 true):=by rw [f2 _ (by omega)]; exact hbM
  have vd':Li eDef on oH ud ld:=vd.mv (by omega) (fun i hi=>f2 i (by omega))
  by_cases hn:defOf ld s < 0
  ·(repeat(first|((with_reducible first|apply Wp.gs|apply Wp.cs|apply Zc|apply Zf|apply Zd|apply Zh|apply Wp.step);case h=>((try simp(disch:=omega)only[↓reduceIte,Za,↓X0,X1,Nat.reduceEqDiff,Int.reduceEq,Nat.reduceAdd,Nat.reduceSub,X2,Zg,Nat.reduceLeDiff,t6,hn]);with_reducible first|done|exact rfl|exact bT|exact bF))|apply Ze|apply Zi|with_reducible apply Zl|simp only[↓X3]|with_reducible apply Zb))
   exact Wp.pure rfl
  ·have g:=vd'.dAll (i:=defOf ld s) (by omega) hr.2
   have he:=defOf_at (ld:=ld) (s:=s) (by omega)
   (repeat(first|((with_reducible first|apply Wp.gs|apply Wp.cs|apply Zc|apply Zf|apply Zd|apply Zh|apply Wp.step);case h=>((try simp(disch:=omega)only[↓reduceIte,Za,↓X0,X1,Nat.reduceEqDiff,Int.reduceEq,Nat.reduceAdd,Nat.reduceSub,X2,Zg,Nat.reduceLeDiff,t3,t4,t6,hn,hcH,g,he,eq_self.{1}]);with_reducible first|done|exact rfl|exact bT|exact bF))|apply Ze|apply Zi|with_reducible apply Zl|simp only[↓X3]|with_reducible apply Zb))
   exact Wp.pure rfl
end Go.Proofs.Ytbgkimkbngocjaa.Ax
