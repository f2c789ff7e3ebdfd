/- What the law needs: laws of the abstract machine, and contracts of functions. -/
import Derived.Test.YtbgkimkbngocjaaM7
import Derived.Test.YtbgkimkbngocjaaM3
import Derived.Test.YtbgkimkbngocjaaM12
set_option linter.unusedVariables false
set_option linter.unusedSimpArgs false
set_option maxHeartbeats 4000000
namespace Go.Proofs.Ytbgkimkbngocjaa.Ax
open Go
def NewOk (l:List Nd) (li:List Ins) (ld:List Df) (s:ByteArray):Prop:=CodeOk l li ld∧0≤defOf ld s∧(gi ld (defOf ld s)).args=0
instance (l:List Nd) (li:List Ins) (ld:List Df) (s:ByteArray):Decidable (NewOk l li ld s):=by unfold NewOk; infer_instance
def ndPair0:Nd:=⟨5,0,⟨#[]⟩,0,0⟩
def ndOne:Nd:=⟨1,0,⟨#[]⟩,0,0⟩
def newM (l:List Nd) (li:List Ins) (ld:List Df) (s:ByteArray):List Nd:=if NewOk l li ld s then [ndOne,ndPair0] else []
def newA (l:List Nd) (li:List Ins) (ld:List Df) (s:ByteArray):Int:=if NewOk l li ld s then (gi ld (defOf ld s)).at_ else 0
def newE (l:List Nd) (li:List Ins) (ld:List Df) (s:ByteArray):Int:=if NewOk l li ld s then 1 else 0
theorem newM_len (l:List Nd) (li:List Ins) (ld:List Df) (s:ByteArray):(newM l li ld s).length≤2:=by
 unfold newM; split <;> simp
theorem k17 {n:Nat} {H:Hp} {v vl vd:Value} {l:List Nd} {li:List Ins} {ld:List Df} (hv:Li eNode n H v l) (hvl:Li eIns n H vl li) (hvd:Li eDef n H vd ld) (hs:∀ x∈l,x.s.size≤1048576) (hsl:∀ x∈li,x.s.size≤1048576) (hsd:∀ x∈ld,x.s.size≤1048576) (hl:l.length≤1048576) (hll:li.length≤1048576) (hld:ld.length≤1048576) (s:ByteArray) :
  RtN Try.prog 17 [.agg ⟨[v,vl,vd]⟩,.string s] H n (fun r H' n'=>∃ u,r=.tuple ⟨[.agg ⟨[u,.int .i64 (newA l li ld s),.int .i64 0,.int .i64 (newE l li ld s),.int .i64 0,.int .i64 0,.int .i64 0,.int .i64 0]⟩,.bool (decide (NewOk l li ld s))]⟩∧New eNode n n' H' u (newM l li ld s)):=by
 apply RtN.mk
 rw [c17]; unfold S17
 have fin:∀ (H':Hp) (n':Nat),n+1≤n'→(∀ i,i < n→H' i=H i)→¬ NewOk l li ld s→Wp (some (Value.tuple ⟨[.agg ⟨[nilS,.int .i64 0,.int .i64 0,.int .i64 0,.int .i64 0,.int .i64 0,.int .i64 0,.int .i64 0]⟩,.bool false]⟩,H',n')) (fun q=>n≤q.2.2∧(∀ i,i < n→q.2.1 i=H i)∧∃ u,q.1=.tuple ⟨[.agg ⟨[u,.int .i64 (newA l li ld s),.int .i64 0,.int .i64 (newE l li ld s),.int .i64 0,.int .i64 0,.int .i64 0,.int .i64 0]⟩,.bool (decide (NewOk l li ld s))]⟩∧New eNode n q.2.2 q.2.1 u (newM l li ld s)):=by
  intro H' n' h1 h2 h3
  refine Wp.pure ⟨by simp only; omega,h2,nilS,?_,?_⟩
  ·simp only [newA,newE,if_neg h3,decide_eq_false h3]
  ·simp only [newM,if_neg h3]; exact ⟨n,by omega,by omega,At.nil⟩
 have hr:=defOf_rng ld s
 ((repeat(first|((with_reducible first|apply Wp.gs|apply Wp.cs|apply Zc|apply Zg|apply Zd|apply Zi|apply Wp.step);case h=>((try simp(disch:=omega)only[↓reduceIte,Za,↓X0,X1,Nat.reduceEqDiff,Int.reduceEq,Nat.reduceAdd,Nat.reduceSub,X2,Ze,Nat.reduceLeDiff]);with_reducible first|done|exact rfl|exact bT|exact bF))|apply Zf|apply Zj|with_reducible apply Zk|simp only[↓X3]|with_reducible apply Zb));try(with_reducible apply Zm;case h=>((try simp(disch:=omega)only[X1,Nat.reduceEqDiff]);with_reducible exact rfl)))
 refine Wp.rt (k11 (hvd.mv (by omega) (by intros;first|with_reducible rfl|simp(disch:=omega)only[Ze,Zh])) hld s) ?_
 intro H1 n1 q1 s1
 ((repeat(first|((with_reducible first|apply Wp.gs|apply Wp.cs|apply Zc|apply Zg|apply Zd|apply Zi|apply Wp.step);case h=>((try simp(disch:=omega)only[↓reduceIte,Za,↓X0,X1,Nat.reduceEqDiff,Int.reduceEq,Nat.reduceAdd,Nat.reduceSub,X2,Ze,Nat.reduceLeDiff,s1]);with_reducible first|done|exact rfl|exact bT|exact bF))|apply Zf|apply Zj|with_reducible apply Zk|simp only[↓X3]|with_reducible apply Zb));try(with_reducible apply Zm;case h=>((try simp(disch:=omega)only[X1,Nat.reduceEqDiff,s1]);with_reducible exact rfl)))
 refine Wp.rt (k12 (hv.mv (by omega) (by intros;first|with_reducible rfl|simp(disch:=omega)only[Ze,Zh,s1])) (hvl.mv (by omega) (by intros;first|with_reducible rfl|simp(disch:=omega)only[Ze,Zh,s1])) (hvd.mv (by omega) (by intros;first|with_reducible rfl|simp(disch:=omega)only[Ze,Zh,s1])) hs hsl hsd hl hll hld) ?_
 intro H2 n2 q2 s2
 by_cases hc:CodeOk l li ld
 case neg =>
  (repeat(first|((with_reducible first|apply Wp.gs|apply Wp.cs|apply Zc|apply Zg|apply Zd|apply Zi|apply Wp.step);case h=>((try simp(disch:=omega)only[↓reduceIte,Za,↓X0,X1,Nat.reduceEqDiff,Int.reduceEq,Nat.reduceAdd,Nat.reduceSub,X2,Ze,Nat.reduceLeDiff,s2,s1,hc]);with_reducible first|done|exact rfl|exact bT|exact bF))|apply Zf|apply Zj|with_reducible apply Zk|simp only[↓X3]|with_reducible apply Zb))
  exact fin _ _ (by omega) ((by intros;first|with_reducible rfl|simp(disch:=omega)only[Ze,Zh,s2,s1])) (fun h=>hc h.1)
 by_cases h0:defOf ld s < 0
 ·(repeat(first|((with_reducible first|apply Wp.gs|apply Wp.cs|apply Zc|apply Zg|apply Zd|apply Zi|apply Wp.step);case h=>((try simp(disch:=omega)only[↓reduceIte,Za,↓X0,X1,Nat.reduceEqDiff,Int.reduceEq,Nat.reduceAdd,Nat.reduceSub,X2,Ze,Nat.reduceLeDiff,s2,s1,hc,h0]);with_reducible first|done|exact rfl|exact bT|exact bF))|apply Zf|apply Zj|with_reducible apply Zk|simp only[↓X3]|with_reducible apply Zb))
  exact fin _ _ (by omega) ((by intros;first|with_reducible rfl|simp(disch:=omega)only[Ze,Zh,s2,s1])) (fun h=>absurd h.2.1 (by omega))
 have g:=(hvd.mv (H':=H2) (Nat.le_refl _) (by intros;first|with_reducible rfl|simp(disch:=omega)only[Ze,Zh,s2,s1])).dAll (i:=defOf ld s) (by omega) hr.2
 by_cases ha:(gi ld (defOf ld s)).args=0
 case neg =>
  (repeat(first|((with_reducible first|apply Wp.gs|apply Wp.cs|apply Zc|apply Zg|apply Zd|apply Zi|apply Wp.step);case h=>((try simp(disch:=omega)only[↓reduceIte,Za,↓X0,X1,Nat.reduceEqDiff,Int.reduceEq,Nat.reduceAdd,Nat.reduceSub,X2,Ze,Nat.reduceLeDiff,s2,s1,hc,h0,g,ha]);with_reducible first|done|exact rfl|exact bT|exact bF))|apply Zf|apply Zj|with_reducible apply Zk|simp only[↓X3]|with_reducible apply Zb))
  exact fin _ _ (by omega) ((by intros;first|with_reducible rfl|simp(disch:=omega)only[Ze,Zh,s2,s1])) (fun h=>ha h.2.2)
 have hN:NewOk l li ld s:=⟨hc,by omega,ha⟩
 ((repeat(first|((with_reducible first|apply Wp.gs|apply Wp.cs|apply Zc|apply Zg|apply Zd|apply Zi|apply Wp.step);case h=>((try simp(disch:=omega)only[↓reduceIte,Za,↓X0,X1,Nat.reduceEqDiff,Int.reduceEq,Nat.reduceAdd,Nat.reduceSub,X2,Ze,Nat.reduceLeDiff,s2,s1,hc,h0,g,ha,eq_self.{1}]);with_reducible first|done|exact rfl|exact bT|exact bF))|apply Zf|apply Zj|with_reducible apply Zk|simp only[↓X3]|with_reducible apply Zb));try(with_reducible apply Zm;case h=>((try simp(disch:=omega)only[X1,Nat.reduceEqDiff,s2,s1,hc,h0,g,ha,eq_self.{1}]);with_reducible exact rfl)))
 refine Wp.bslN eNode [ndOne,ndPair0] (by decide) rfl rfl ?_
 generalize hH3:H2.set (n2+2) (some (Obj.row (List.flatMap eNode.cells [ndOne,ndPair0]) eNode.sz true))=H3
 have s3:∀ i,i < n2+2→H3 i=H2 i:=by rw [← hH3]; exact (by intros;first|with_reducible rfl|simp(disch:=omega)only[Ze,Zh])
 have o3:At eNode (n2+2) H3 (sl (n2+2) 0 2) [ndOne,ndPair0]:=.inr ⟨rfl,by rw [← hH3]; exact Zh _ _ _⟩
 have g3:=(hvd.mv (H':=H3) (Nat.le_refl _) (by intros;first|with_reducible rfl|simp(disch:=omega)only[Ze,Zh,s3,s2,s1])).dAll (i:=defOf ld s) (by omega) hr.2
 have hsl2:notTup (sl (n2+2) 0 2)=true:=rfl
 (repeat(first|((with_reducible first|apply Wp.gs|apply Wp.cs|apply Zc|apply Zg|apply Zd|apply Zi|apply Wp.step);case h=>((try simp(disch:=omega)only[↓reduceIte,Za,↓X0,X1,Nat.reduceEqDiff,Int.reduceEq,Nat.reduceAdd,Nat.reduceSub,X2,Ze,Nat.reduceLeDiff,s3,s2,s1,g3,List.length_cons.{0},List.length_nil.{0}]);with_reducible first|done|exact rfl|exact bT|exact bF))|apply Zf|apply Zj|with_reducible apply Zk|simp only[↓X3]|with_reducible apply Zb))
 refine Wp.pure ⟨by simp only; omega,(by intros;first|with_reducible rfl|simp(disch:=omega)only[Ze,Zh,s3,s2,s1]),sl (n2+2) 0 2,?_,?_⟩
 ·simp only [newA,newE,if_pos hN,decide_eq_true hN]
 ·simp only [newM,if_pos hN]; exact ⟨n2+2,by omega,by omega,o3.mv (by intros;first|with_reducible rfl|simp(disch:=omega)only[Ze,Zh])⟩
theorem k18 {n:Nat} {H:Hp} {v vl vd:Value} {l:List Nd} {li:List Ins} {ld:List Df} (hv:Li eNode n H v l) (hvl:Li eIns n H vl li) (hvd:Li eDef n H vd ld) (hs:∀ x∈l,x.s.size≤1048576) (hsl:∀ x∈li,x.s.size≤1048576) (hsd:∀ x∈ld,x.s.size≤1048576) (hl:l.length≤1048576) (hll:li.length≤1048576) (hld:ld.length≤1048576) (s:ByteArray) :
  RtN Try.prog 18 [.agg ⟨[v,vl,vd]⟩,.string s] H n (fun r H' n'=>∃ u,r=.tuple ⟨[.agg ⟨[u,.int .i64 (newA l li ld s),.int .i64 0,.int .i64 (newE l li ld s),.int .i64 0,.int .i64 0,.int .i64 0,.int .i64 0]⟩,.bool (decide (NewOk l li ld s))]⟩∧New eNode n n' H' u (newM l li ld s)):=by
 apply RtN.mk
 rw [c18]; unfold S18
 have fin:∀ (H':Hp) (n':Nat),n+1≤n'→(∀ i,i < n→H' i=H i)→¬ NewOk l li ld s→Wp (some (Value.tuple ⟨[.agg ⟨[nilS,.int .i64 0,.int .i64 0,.int .i64 0,.int .i64 0,.int .i64 0,.int .i64 0,.int .i64 0]⟩,.bool false]⟩,H',n')) (fun q=>n≤q.2.2∧(∀ i,i < n→q.2.1 i=H i)∧∃ u,q.1=.tuple ⟨[.agg ⟨[u,.int .i64 (newA l li ld s),.int .i64 0,.int .i64 (newE l li ld s),.int .i64 0,.int .i64 0,.int .i64 0,.int .i64 0]⟩,.bool (decide (NewOk l li ld s))]⟩∧New eNode n q.2.2 q.2.1 u (newM l li ld s)):=by
  intro H' n' h1 h2 h3
  refine Wp.pure ⟨by simp only; omega,h2,nilS,?_,?_⟩
  ·simp only [newA,newE,if_neg h3,decide_eq_false h3]
  ·simp only [newM,if_neg h3]; exact ⟨n,by omega,by omega,At.nil⟩
 have hr:=defOf_rng ld s
 ((repeat(first|((with_reducible first|apply Wp.gs|apply Wp.cs|apply Zc|apply Zg|apply Zd|apply Zi|apply Wp.step);case h=>((try simp(disch:=omega)only[↓reduceIte,Za,↓X0,X1,Nat.reduceEqDiff,Int.reduceEq,Nat.reduceAdd,Nat.reduceSub,X2,Ze,Nat.reduceLeDiff]);with_reducible first|done|exact rfl|exact bT|exact bF))|apply Zf|apply Zj|with_reducible apply Zk|simp only[↓X3]|with_reducible apply Zb));try(with_reducible apply Zm;case h=>((try simp(disch:=omega)only[X1,Nat.reduceEqDiff]);with_reducible exact rfl)))
 refine Wp.rt (k15 (hvd.mv (by omega) (by intros;first|with_reducible rfl|simp(disch:=omega)only[Ze,Zh])) hld s) ?_
 intro H1 n1 q1 s1
 ((repeat(first|((with_reducible first|apply Wp.gs|apply Wp.cs|apply Zc|apply Zg|apply Zd|apply Zi|apply Wp.step);case h=>((try simp(disch:=omega)only[↓reduceIte,Za,↓X0,X1,Nat.reduceEqDiff,Int.reduceEq,Nat.reduceAdd,Nat.reduceSub,X2,Ze,Nat.reduceLeDiff,s1]);with_reducible first|done|exact rfl|exact bT|exact bF))|apply Zf|apply Zj|with_reducible apply Zk|simp only[↓X3]|with_reducible apply Zb));try(with_reducible apply Zm;case h=>((try simp(disch:=omega)only[X1,Nat.reduceEqDiff,s1]);with_reducible exact rfl)))
 refine Wp.rt (k14 (hv.mv (by omega) (by intros;first|with_reducible rfl|simp(disch:=omega)only[Ze,Zh,s1])) (hvl.mv (by omega) (by intros;first|with_reducible rfl|simp(disch:=omega)only[Ze,Zh,s1])) (hvd.mv (by omega) (by intros;first|with_reducible rfl|simp(disch:=omega)only[Ze,Zh,s1])) hs hsl hsd hl hll hld) ?_
 intro H2 n2 q2 s2
 by_cases hc:CodeOk l li ld
 case neg =>
  (repeat(first|((with_reducible first|apply Wp.gs|apply Wp.cs|apply Zc|apply Zg|apply Zd|apply Zi|apply Wp.step);case h=>((try simp(disch:=omega)only[↓reduceIte,Za,↓X0,X1,Nat.reduceEqDiff,Int.reduceEq,Nat.reduceAdd,Nat.reduceSub,X2,Ze,Nat.reduceLeDiff,s2,s1,hc]);with_reducible first|done|exact rfl|exact bT|exact bF))|apply Zf|apply Zj|with_reducible apply Zk|simp only[↓X3]|with_reducible apply Zb))
  exact fin _ _ (by omega) ((by intros;first|with_reducible rfl|simp(disch:=omega)only[Ze,Zh,s2,s1])) (fun h=>hc h.1)
 by_cases h0:defOf ld s < 0
 ·(repeat(first|((with_reducible first|apply Wp.gs|apply Wp.cs|apply Zc|apply Zg|apply Zd|apply Zi|apply Wp.step);case h=>((try simp(disch:=omega)only[↓reduceIte,Za,↓X0,X1,Nat.reduceEqDiff,Int.reduceEq,Nat.reduceAdd,Nat.reduceSub,X2,Ze,Nat.reduceLeDiff,s2,s1,hc,h0]);with_reducible first|done|exact rfl|exact bT|exact bF))|apply Zf|apply Zj|with_reducible apply Zk|simp only[↓X3]|with_reducible apply Zb))
  exact fin _ _ (by omega) ((by intros;first|with_reducible rfl|simp(disch:=omega)only[Ze,Zh,s2,s1])) (fun h=>absurd h.2.1 (by omega))
 have g:=(hvd.mv (H':=H2) (Nat.le_refl _) (by intros;first|with_reducible rfl|simp(disch:=omega)only[Ze,Zh,s2,s1])).dAll (i:=defOf ld s) (by omega) hr.2
 by_cases ha:(gi ld (defOf ld s)).args=0
 case neg =>
  (repeat(first|((with_reducible first|apply Wp.gs|apply Wp.cs|apply Zc|apply Zg|apply Zd|apply Zi|apply Wp.step);case h=>((try simp(disch:=omega)only[↓reduceIte,Za,↓X0,X1,Nat.reduceEqDiff,Int.reduceEq,Nat.reduceAdd,Nat.reduceSub,X2,Ze,Nat.reduceLeDiff,s2,s1,hc,h0,g,ha]);with_reducible first|done|exact rfl|exact bT|exact bF))|apply Zf|apply Zj|with_reducible apply Zk|simp only[↓X3]|with_reducible apply Zb))
  exact fin _ _ (by omega) ((by intros;first|with_reducible rfl|simp(disch:=omega)only[Ze,Zh,s2,s1])) (fun h=>ha h.2.2)
 have hN:NewOk l li ld s:=⟨hc,by omega,ha⟩
 ((repeat(first|((with_reducible first|apply Wp.gs|apply Wp.cs|apply Zc|apply Zg|apply Zd|apply Zi|apply Wp.step);case h=>((try simp(disch:=omega)only[↓reduceIte,Za,↓X0,X1,Nat.reduceEqDiff,Int.reduceEq,Nat.reduceAdd,Nat.reduceSub,X2,Ze,Nat.reduceLeDiff,s2,s1,hc,h0,g,ha,eq_self.{1}]);with_reducible first|done|exact rfl|exact bT|exact bF))|apply Zf|apply Zj|with_reducible apply Zk|simp only[↓X3]|with_reducible apply Zb));try(with_reducible apply Zm;case h=>((try simp(disch:=omega)only[X1,Nat.reduceEqDiff,s2,s1,hc,h0,g,ha,eq_self.{1}]);with_reducible exact rfl)))
 refine Wp.bslN eNode [ndOne,ndPair0] (by decide) rfl rfl ?_
 generalize hH3:H2.set (n2+2) (some (Obj.row (List.flatMap eNode.cells [ndOne,ndPair0]) eNode.sz true))=H3
 have s3:∀ i,i < n2+2→H3 i=H2 i:=by rw [← hH3]; exact (by intros;first|with_reducible rfl|simp(disch:=omega)only[Ze,Zh])
 have o3:At eNode (n2+2) H3 (sl (n2+2) 0 2) [ndOne,ndPair0]:=.inr ⟨rfl,by rw [← hH3]; exact Zh _ _ _⟩
 have g3:=(hvd.mv (H':=H3) (Nat.le_refl _) (by intros;first|with_reducible rfl|simp(disch:=omega)only[Ze,Zh,s3,s2,s1])).dAll (i:=defOf ld s) (by omega) hr.2
 have g4:=(hvd.mv (H':=H3.set (n2+4) (some (.row [sl (n2+2) 0 2] 0 true))) (Nat.le_refl _) (by intros;first|with_reducible rfl|simp(disch:=omega)only[Ze,Zh,s3,s2,s1])).dAll (i:=defOf ld s) (by omega) hr.2
 have hsl2:notTup (sl (n2+2) 0 2)=true:=rfl
 (repeat(first|((with_reducible first|apply Wp.gs|apply Wp.cs|apply Zc|apply Zg|apply Zd|apply Zi|apply Wp.step);case h=>((try simp(disch:=omega)only[↓reduceIte,Za,↓X0,X1,Nat.reduceEqDiff,Int.reduceEq,Nat.reduceAdd,Nat.reduceSub,X2,Ze,Nat.reduceLeDiff,s3,s2,s1,g3,g4,List.length_cons.{0},List.length_nil.{0}]);with_reducible first|done|exact rfl|exact bT|exact bF))|apply Zf|apply Zj|with_reducible apply Zk|simp only[↓X3]|with_reducible apply Zb))
 refine Wp.pure ⟨by simp only; omega,(by intros;first|with_reducible rfl|simp(disch:=omega)only[Ze,Zh,s3,s2,s1]),sl (n2+2) 0 2,?_,?_⟩
 ·simp only [newA,newE,if_pos hN,decide_eq_true hN]
 ·simp only [newM,if_pos hN]; exact ⟨n2+2,by omega,by omega,o3.mv (by intros;first|with_reducible rfl|simp(disch:=omega)only[Ze,Zh])⟩
end Go.Proofs.Ytbgkimkbngocjaa.Ax
set_option linter.unusedVariables false
set_option linter.unusedSimpArgs false
set_option maxHeartbeats 4000000
namespace Go.Proofs.Ytbgkimkbngocjaa.Ax
open Go
def MachOk (l:List Nd) (li:List Ins) (ld:List Df) (m:List Nd) (a s e d t k r:Int):Prop :=
  CodeOk l li ld∧PoolOk m∧(0≤s∧s < m.length)∧(0≤e∧e < m.length)∧(0≤d∧d < m.length) ∧
  ((t=0∧(0≤a∧a≤(li.length:Int) - 1)∧k=0∧r=0) ∨
   (t=1∧(0≤a∧a≤(li.length:Int) - 1)∧(13≤k∧k≤19)∧k≠18∧(0≤r∧r < m.length)) ∨
   (t=2∧a=0∧k=0∧(0≤r∧r < m.length)) ∨
   (t=3∧a=0∧(1≤k∧k≤7)∧r=0))
instance (l:List Nd) (li:List Ins) (ld:List Df) (m:List Nd) (a s e d t k r:Int):Decidable (MachOk l li ld m a s e d t k r):=by unfold MachOk; infer_instance
theorem k63 {n:Nat} {H:Hp} {v vl vd:Value} {li:List Ins} (hvl:Li eIns n H vl li) (hll:li.length≤1048576) (a:Int):Rt Try.prog 63 [.agg ⟨[v,vl,vd]⟩,.int .i64 a] H n (.bool (decide (0≤a∧a≤(li.length:Int) - 1))):=by
 apply Rt.mk
 rw [c63]; unfold S63
 have hw:IntKind.i64.wrap ((li.length:Int) - 1)=li.length - 1:=w64 (by omega)
 (repeat(first|((with_reducible first|apply Wp.gs|apply Wp.cs|apply Zc|apply Zg|apply Zd|apply Zi|apply Wp.step);case h=>((try simp(disch:=omega)only[↓reduceIte,Za,↓X0,X1,Nat.reduceEqDiff,Int.reduceEq,Nat.reduceAdd,Nat.reduceSub,X2,Ze,Nat.reduceLeDiff,hvl.len,hw,k56]);with_reducible first|done|exact rfl|exact bT|exact bF))|apply Zf|apply Zj|with_reducible apply Zk|simp only[↓X3]|with_reducible apply Zb))
 exact Wp.pure ⟨by simp only; omega,(by intros;first|with_reducible rfl|simp(disch:=omega)only[Ze,Zh]),rfl⟩
theorem k22 {n:Nat} {H:Hp} {v vl vd vm:Value} {l m:List Nd} {li:List Ins} {ld:List Df} (hv:Li eNode n H v l) (hvl:Li eIns n H vl li) (hvd:Li eDef n H vd ld) (hs:∀ x∈l,x.s.size≤1048576) (hsl:∀ x∈li,x.s.size≤1048576) (hsd:∀ x∈ld,x.s.size≤1048576) (hl:l.length≤1048576) (hll:li.length≤1048576) (hld:ld.length≤1048576) (hm:Li eNode n H vm m) (hsm:∀ x∈m,x.s.size≤1048576) (hlm:m.length≤1048576) (a s e d t k r:Int) :
  Rt Try.prog 22 [.agg ⟨[v,vl,vd]⟩,.agg ⟨[vm,.int .i64 a,.int .i64 s,.int .i64 e,.int .i64 d,.int .i64 t,.int .i64 k,.int .i64 r]⟩] H n (.bool (decide (MachOk l li ld m a s e d t k r))):=by
 apply Rt.mk
 rw [c22]; unfold S22
 have fin:∀ (b:Bool) (H':Hp) (n':Nat),n≤n'→(∀ i,i < n→H' i=H i)→b=decide (MachOk l li ld m a s e d t k r)→Wp (some (Value.bool b,H',n')) (fun q=>n≤q.2.2∧(∀ i,i < n→q.2.1 i=H i)∧q.1=.bool (decide (MachOk l li ld m a s e d t k r))):=by
  intro b H' n' h1 h2 h3
  exact Wp.pure ⟨h1,h2,by rw [h3]⟩
 ((repeat(first|((with_reducible first|apply Wp.gs|apply Wp.cs|apply Zc|apply Zg|apply Zd|apply Zi|apply Wp.step);case h=>((try simp(disch:=omega)only[↓reduceIte,Za,↓X0,X1,Nat.reduceEqDiff,Int.reduceEq,Nat.reduceAdd,Nat.reduceSub,X2,Ze,Nat.reduceLeDiff]);with_reducible first|done|exact rfl|exact bT|exact bF))|apply Zf|apply Zj|with_reducible apply Zk|simp only[↓X3]|with_reducible apply Zb));try(with_reducible apply Zm;case h=>((try simp(disch:=omega)only[X1,Nat.reduceEqDiff]);with_reducible exact rfl)))
 refine Wp.rt (k12 (hv.mv (by omega) (by intros;first|with_reducible rfl|simp(disch:=omega)only[Ze,Zh])) (hvl.mv (by omega) (by intros;first|with_reducible rfl|simp(disch:=omega)only[Ze,Zh])) (hvd.mv (by omega) (by intros;first|with_reducible rfl|simp(disch:=omega)only[Ze,Zh])) hs hsl hsd hl hll hld) ?_
 intro H1 n1 q1 s1
 by_cases hc:CodeOk l li ld
 case neg =>
  (repeat(first|((with_reducible first|apply Wp.gs|apply Wp.cs|apply Zc|apply Zg|apply Zd|apply Zi|apply Wp.step);case h=>((try simp(disch:=omega)only[↓reduceIte,Za,↓X0,X1,Nat.reduceEqDiff,Int.reduceEq,Nat.reduceAdd,Nat.reduceSub,X2,Ze,Nat.reduceLeDiff,s1,hc]);with_reducible first|done|exact rfl|exact bT|exact bF))|apply Zf|apply Zj|with_reducible apply Zk|simp only[↓X3]|with_reducible apply Zb))
  exact fin _ _ _ (by omega) ((by intros;first|with_reducible rfl|simp(disch:=omega)only[Ze,Zh,s1])) (decide_eq_false (fun h=>hc h.1)).symm
 ((repeat(first|((with_reducible first|apply Wp.gs|apply Wp.cs|apply Zc|apply Zg|apply Zd|apply Zi|apply Wp.step);case h=>((try simp(disch:=omega)only[↓reduceIte,Za,↓X0,X1,Nat.reduceEqDiff,Int.reduceEq,Nat.reduceAdd,Nat.reduceSub,X2,Ze,Nat.reduceLeDiff,s1,hc]);with_reducible first|done|exact rfl|exact bT|exact bF))|apply Zf|apply Zj|with_reducible apply Zk|simp only[↓X3]|with_reducible apply Zb));try(with_reducible apply Zm;case h=>((try simp(disch:=omega)only[X1,Nat.reduceEqDiff,s1,hc]);with_reducible exact rfl)))
 refine Wp.rt (k42 (hm.mv (by omega) (by intros;first|with_reducible rfl|simp(disch:=omega)only[Ze,Zh,s1])) hsm hlm) ?_
 intro H2 n2 q2 s2
 by_cases hp:PoolOk m
 case neg =>
  (repeat(first|((with_reducible first|apply Wp.gs|apply Wp.cs|apply Zc|apply Zg|apply Zd|apply Zi|apply Wp.step);case h=>((try simp(disch:=omega)only[↓reduceIte,Za,↓X0,X1,Nat.reduceEqDiff,Int.reduceEq,Nat.reduceAdd,Nat.reduceSub,X2,Ze,Nat.reduceLeDiff,s2,s1,hp]);with_reducible first|done|exact rfl|exact bT|exact bF))|apply Zf|apply Zj|with_reducible apply Zk|simp only[↓X3]|with_reducible apply Zb))
  exact fin _ _ _ (by omega) ((by intros;first|with_reducible rfl|simp(disch:=omega)only[Ze,Zh,s2,s1])) (decide_eq_false (fun h=>hp h.2.1)).symm
 ((repeat(first|((with_reducible first|apply Wp.gs|apply Wp.cs|apply Zc|apply Zg|apply Zd|apply Zi|apply Wp.step);case h=>((try simp(disch:=omega)only[↓reduceIte,Za,↓X0,X1,Nat.reduceEqDiff,Int.reduceEq,Nat.reduceAdd,Nat.reduceSub,X2,Ze,Nat.reduceLeDiff,s2,s1,hp]);with_reducible first|done|exact rfl|exact bT|exact bF))|apply Zf|apply Zj|with_reducible apply Zk|simp only[↓X3]|with_reducible apply Zb));try(with_reducible apply Zm;case h=>((try simp(disch:=omega)only[X1,Nat.reduceEqDiff,s2,s1,hp]);with_reducible exact rfl)))
 refine Wp.rt (k45 (hm.mv (by omega) (by intros;first|with_reducible rfl|simp(disch:=omega)only[Ze,Zh,s2,s1])) hlm s) ?_
 intro H3 n3 q3 s3
 by_cases h1:0≤s∧s < (m.length:Int)
 case neg =>
  (repeat(first|((with_reducible first|apply Wp.gs|apply Wp.cs|apply Zc|apply Zg|apply Zd|apply Zi|apply Wp.step);case h=>((try simp(disch:=omega)only[↓reduceIte,Za,↓X0,X1,Nat.reduceEqDiff,Int.reduceEq,Nat.reduceAdd,Nat.reduceSub,X2,Ze,Nat.reduceLeDiff,s3,s2,s1,h1]);with_reducible first|done|exact rfl|exact bT|exact bF))|apply Zf|apply Zj|with_reducible apply Zk|simp only[↓X3]|with_reducible apply Zb))
  exact fin _ _ _ (by omega) ((by intros;first|with_reducible rfl|simp(disch:=omega)only[Ze,Zh,s3,s2,s1])) (decide_eq_false (fun h=>h1 h.2.2.1)).symm
 ((repeat(first|((with_reducible first|apply Wp.gs|apply Wp.cs|apply Zc|apply Zg|apply Zd|apply Zi|apply Wp.step);case h=>((try simp(disch:=omega)only[↓reduceIte,Za,↓X0,X1,Nat.reduceEqDiff,Int.reduceEq,Nat.reduceAdd,Nat.reduceSub,X2,Ze,Nat.reduceLeDiff,s3,s2,s1,h1,and_self]);with_reducible first|done|exact rfl|exact bT|exact bF))|apply Zf|apply Zj|with_reducible apply Zk|simp only[↓X3]|with_reducible apply Zb));try(with_reducible apply Zm;case h=>((try simp(disch:=omega)only[X1,Nat.reduceEqDiff,s3,s2,s1,h1,and_self]);with_reducible exact rfl)))
 refine Wp.rt (k45 (hm.mv (by omega) (by intros;first|with_reducible rfl|simp(disch:=omega)only[Ze,Zh,s3,s2,s1])) hlm e) ?_
 intro H4 n4 q4 s4
 by_cases h2:0≤e∧e < (m.length:Int)
 case neg =>
  (repeat(first|((with_reducible first|apply Wp.gs|apply Wp.cs|apply Zc|apply Zg|apply Zd|apply Zi|apply Wp.step);case h=>((try simp(disch:=omega)only[↓reduceIte,Za,↓X0,X1,Nat.reduceEqDiff,Int.reduceEq,Nat.reduceAdd,Nat.reduceSub,X2,Ze,Nat.reduceLeDiff,s4,s3,s2,s1,h2]);with_reducible first|done|exact rfl|exact bT|exact bF))|apply Zf|apply Zj|with_reducible apply Zk|simp only[↓X3]|with_reducible apply Zb))
  exact fin _ _ _ (by omega) ((by intros;first|with_reducible rfl|simp(disch:=omega)only[Ze,Zh,s4,s3,s2,s1])) (decide_eq_false (fun h=>h2 h.2.2.2.1)).symm
 ((repeat(first|((with_reducible first|apply Wp.gs|apply Wp.cs|apply Zc|apply Zg|apply Zd|apply Zi|apply Wp.step);case h=>((try simp(disch:=omega)only[↓reduceIte,Za,↓X0,X1,Nat.reduceEqDiff,Int.reduceEq,Nat.reduceAdd,Nat.reduceSub,X2,Ze,Nat.reduceLeDiff,s4,s3,s2,s1,h2,and_self]);with_reducible first|done|exact rfl|exact bT|exact bF))|apply Zf|apply Zj|with_reducible apply Zk|simp only[↓X3]|with_reducible apply Zb));try(with_reducible apply Zm;case h=>((try simp(disch:=omega)only[X1,Nat.reduceEqDiff,s4,s3,s2,s1,h2,and_self]);with_reducible exact rfl)))
 refine Wp.rt (k45 (hm.mv (by omega) (by intros;first|with_reducible rfl|simp(disch:=omega)only[Ze,Zh,s4,s3,s2,s1])) hlm d) ?_
 intro H5 n5 q5 s5
 by_cases h3:0≤d∧d < (m.length:Int)
 case neg =>
  (repeat(first|((with_reducible first|apply Wp.gs|apply Wp.cs|apply Zc|apply Zg|apply Zd|apply Zi|apply Wp.step);case h=>((try simp(disch:=omega)only[↓reduceIte,Za,↓X0,X1,Nat.reduceEqDiff,Int.reduceEq,Nat.reduceAdd,Nat.reduceSub,X2,Ze,Nat.reduceLeDiff,s5,s4,s3,s2,s1,h3]);with_reducible first|done|exact rfl|exact bT|exact bF))|apply Zf|apply Zj|with_reducible apply Zk|simp only[↓X3]|with_reducible apply Zb))
  exact fin _ _ _ (by omega) ((by intros;first|with_reducible rfl|simp(disch:=omega)only[Ze,Zh,s5,s4,s3,s2,s1])) (decide_eq_false (fun h=>h3 h.2.2.2.2.1)).symm
 by_cases t0:t=0
 ·subst t0
  ((repeat(first|((with_reducible first|apply Wp.gs|apply Wp.cs|apply Zc|apply Zg|apply Zd|apply Zi|apply Wp.step);case h=>((try simp(disch:=omega)only[↓reduceIte,Za,↓X0,X1,Nat.reduceEqDiff,Int.reduceEq,Nat.reduceAdd,Nat.reduceSub,X2,Ze,Nat.reduceLeDiff,s5,s4,s3,s2,s1,h3,and_self,eq_self.{1}]);with_reducible first|done|exact rfl|exact bT|exact bF))|apply Zf|apply Zj|with_reducible apply Zk|simp only[↓X3]|with_reducible apply Zb));try(with_reducible apply Zm;case h=>((try simp(disch:=omega)only[X1,Nat.reduceEqDiff,s5,s4,s3,s2,s1,h3,and_self,eq_self.{1}]);with_reducible exact rfl)))
  refine Wp.rt (k63 (hvl.mv (by omega) (by intros;first|with_reducible rfl|simp(disch:=omega)only[Ze,Zh,s5,s4,s3,s2,s1])) hll a) ?_
  intro H6 n6 q6 s6
  by_cases c1:0≤a∧a≤(li.length:Int) - 1
  case neg =>
   (repeat(first|((with_reducible first|apply Wp.gs|apply Wp.cs|apply Zc|apply Zg|apply Zd|apply Zi|apply Wp.step);case h=>((try simp(disch:=omega)only[↓reduceIte,Za,↓X0,X1,Nat.reduceEqDiff,Int.reduceEq,Nat.reduceAdd,Nat.reduceSub,X2,Ze,Nat.reduceLeDiff,s6,s5,s4,s3,s2,s1,c1]);with_reducible first|done|exact rfl|exact bT|exact bF))|apply Zf|apply Zj|with_reducible apply Zk|simp only[↓X3]|with_reducible apply Zb))
   refine fin _ _ _ (by omega) ((by intros;first|with_reducible rfl|simp(disch:=omega)only[Ze,Zh,s6,s5,s4,s3,s2,s1])) ?_
   rw [Bool.eq_iff_iff]; simp [MachOk,hc,hp,h1,h2,h3]; try grind
  by_cases c2:k=0
  case neg =>
   (repeat(first|((with_reducible first|apply Wp.gs|apply Wp.cs|apply Zc|apply Zg|apply Zd|apply Zi|apply Wp.step);case h=>((try simp(disch:=omega)only[↓reduceIte,Za,↓X0,X1,Nat.reduceEqDiff,Int.reduceEq,Nat.reduceAdd,Nat.reduceSub,X2,Ze,Nat.reduceLeDiff,s6,s5,s4,s3,s2,s1,c1,and_self,c2]);with_reducible first|done|exact rfl|exact bT|exact bF))|apply Zf|apply Zj|with_reducible apply Zk|simp only[↓X3]|with_reducible apply Zb))
   refine fin _ _ _ (by omega) ((by intros;first|with_reducible rfl|simp(disch:=omega)only[Ze,Zh,s6,s5,s4,s3,s2,s1])) ?_
   rw [Bool.eq_iff_iff]; simp [MachOk,hc,hp,h1,h2,h3]; try grind
  (repeat(first|((with_reducible first|apply Wp.gs|apply Wp.cs|apply Zc|apply Zg|apply Zd|apply Zi|apply Wp.step);case h=>((try simp(disch:=omega)only[↓reduceIte,Za,↓X0,X1,Nat.reduceEqDiff,Int.reduceEq,Nat.reduceAdd,Nat.reduceSub,X2,Ze,Nat.reduceLeDiff,s6,s5,s4,s3,s2,s1,c1,and_self,c2,eq_self.{1}]);with_reducible first|done|exact rfl|exact bT|exact bF))|apply Zf|apply Zj|with_reducible apply Zk|simp only[↓X3]|with_reducible apply Zb))
  refine fin _ _ _ (by omega) ((by intros;first|with_reducible rfl|simp(disch:=omega)only[Ze,Zh,s6,s5,s4,s3,s2,s1])) ?_
  rw [Bool.eq_iff_iff]; simp [MachOk,hc,hp,h1,h2,h3]; try grind
 by_cases t1:t=1
 ·subst t1
  ((repeat(first|((with_reducible first|apply Wp.gs|apply Wp.cs|apply Zc|apply Zg|apply Zd|apply Zi|apply Wp.step);case h=>((try simp(disch:=omega)only[↓reduceIte,Za,↓X0,X1,Nat.reduceEqDiff,Int.reduceEq,Nat.reduceAdd,Nat.reduceSub,X2,Ze,Nat.reduceLeDiff,s5,s4,s3,s2,s1,h3,and_self,eq_self.{1}]);with_reducible first|done|exact rfl|exact bT|exact bF))|apply Zf|apply Zj|with_reducible apply Zk|simp only[↓X3]|with_reducible apply Zb));try(with_reducible apply Zm;case h=>((try simp(disch:=omega)only[X1,Nat.reduceEqDiff,s5,s4,s3,s2,s1,h3,and_self,eq_self.{1}]);with_reducible exact rfl)))
  refine Wp.rt (k63 (hvl.mv (by omega) (by intros;first|with_reducible rfl|simp(disch:=omega)only[Ze,Zh,s5,s4,s3,s2,s1])) hll a) ?_
  intro H6 n6 q6 s6
  by_cases c1:0≤a∧a≤(li.length:Int) - 1
  case neg =>
   (repeat(first|((with_reducible first|apply Wp.gs|apply Wp.cs|apply Zc|apply Zg|apply Zd|apply Zi|apply Wp.step);case h=>((try simp(disch:=omega)only[↓reduceIte,Za,↓X0,X1,Nat.reduceEqDiff,Int.reduceEq,Nat.reduceAdd,Nat.reduceSub,X2,Ze,Nat.reduceLeDiff,s6,s5,s4,s3,s2,s1,c1]);with_reducible first|done|exact rfl|exact bT|exact bF))|apply Zf|apply Zj|with_reducible apply Zk|simp only[↓X3]|with_reducible apply Zb))
   refine fin _ _ _ (by omega) ((by intros;first|with_reducible rfl|simp(disch:=omega)only[Ze,Zh,s6,s5,s4,s3,s2,s1])) ?_
   rw [Bool.eq_iff_iff]; simp [MachOk,hc,hp,h1,h2,h3]; try grind
  by_cases c2:13≤k∧k≤19
  case neg =>
   (repeat(first|((with_reducible first|apply Wp.gs|apply Wp.cs|apply Zc|apply Zg|apply Zd|apply Zi|apply Wp.step);case h=>((try simp(disch:=omega)only[↓reduceIte,Za,↓X0,X1,Nat.reduceEqDiff,Int.reduceEq,Nat.reduceAdd,Nat.reduceSub,X2,Ze,Nat.reduceLeDiff,s6,s5,s4,s3,s2,s1,c1,and_self,k56,c2]);with_reducible first|done|exact rfl|exact bT|exact bF))|apply Zf|apply Zj|with_reducible apply Zk|simp only[↓X3]|with_reducible apply Zb))
   refine fin _ _ _ (by omega) ((by intros;first|with_reducible rfl|simp(disch:=omega)only[Ze,Zh,s6,s5,s4,s3,s2,s1])) ?_
   rw [Bool.eq_iff_iff]; simp [MachOk,hc,hp,h1,h2,h3]; try grind
  by_cases c3:k=18
  ·subst c3
   (repeat(first|((with_reducible first|apply Wp.gs|apply Wp.cs|apply Zc|apply Zg|apply Zd|apply Zi|apply Wp.step);case h=>((try simp(disch:=omega)only[↓reduceIte,Za,↓X0,X1,Nat.reduceEqDiff,Int.reduceEq,Nat.reduceAdd,Nat.reduceSub,X2,Ze,Nat.reduceLeDiff,s6,s5,s4,s3,s2,s1,c1,and_self,k56,eq_self.{1},(show decide ((13:Int)≤18∧(18:Int)≤19)=true from rfl)]);with_reducible first|done|exact rfl|exact bT|exact bF))|apply Zf|apply Zj|with_reducible apply Zk|simp only[↓X3]|with_reducible apply Zb))
   refine fin _ _ _ (by omega) ((by intros;first|with_reducible rfl|simp(disch:=omega)only[Ze,Zh,s6,s5,s4,s3,s2,s1])) ?_
   rw [Bool.eq_iff_iff]; simp [MachOk,hc,hp,h1,h2,h3]; try grind
  ((repeat(first|((with_reducible first|apply Wp.gs|apply Wp.cs|apply Zc|apply Zg|apply Zd|apply Zi|apply Wp.step);case h=>((try simp(disch:=omega)only[↓reduceIte,Za,↓X0,X1,Nat.reduceEqDiff,Int.reduceEq,Nat.reduceAdd,Nat.reduceSub,X2,Ze,Nat.reduceLeDiff,s6,s5,s4,s3,s2,s1,c1,and_self,k56,c2,c3]);with_reducible first|done|exact rfl|exact bT|exact bF))|apply Zf|apply Zj|with_reducible apply Zk|simp only[↓X3]|with_reducible apply Zb));try(with_reducible apply Zm;case h=>((try simp(disch:=omega)only[X1,Nat.reduceEqDiff,s6,s5,s4,s3,s2,s1,c1,and_self,k56,c2,c3]);with_reducible exact rfl)))
  refine Wp.rt (k45 (hm.mv (by omega) (by intros;first|with_reducible rfl|simp(disch:=omega)only[Ze,Zh,s6,s5,s4,s3,s2,s1])) hlm r) ?_
  intro H7 n7 q7 s7
  (repeat(first|((with_reducible first|apply Wp.gs|apply Wp.cs|apply Zc|apply Zg|apply Zd|apply Zi|apply Wp.step);case h=>((try simp(disch:=omega)only[↓reduceIte,Za,↓X0,X1,Nat.reduceEqDiff,Int.reduceEq,Nat.reduceAdd,Nat.reduceSub,X2,Ze,Nat.reduceLeDiff,s7,s6,s5,s4,s3,s2,s1]);with_reducible first|done|exact rfl|exact bT|exact bF))|apply Zf|apply Zj|with_reducible apply Zk|simp only[↓X3]|with_reducible apply Zb))
  refine fin _ _ _ (by omega) ((by intros;first|with_reducible rfl|simp(disch:=omega)only[Ze,Zh,s7,s6,s5,s4,s3,s2,s1])) ?_
  rw [Bool.eq_iff_iff]; simp [MachOk,hc,hp,h1,h2,h3,c1,c2,c3]; try grind
 by_cases t2:t=2
 ·subst t2
  by_cases c1:a=0
  case neg =>
   (repeat(first|((with_reducible first|apply Wp.gs|apply Wp.cs|apply Zc|apply Zg|apply Zd|apply Zi|apply Wp.step);case h=>((try simp(disch:=omega)only[↓reduceIte,Za,↓X0,X1,Nat.reduceEqDiff,Int.reduceEq,Nat.reduceAdd,Nat.reduceSub,X2,Ze,Nat.reduceLeDiff,s5,s4,s3,s2,s1,h3,and_self,eq_self.{1},c1]);with_reducible first|done|exact rfl|exact bT|exact bF))|apply Zf|apply Zj|with_reducible apply Zk|simp only[↓X3]|with_reducible apply Zb))
   refine fin _ _ _ (by omega) ((by intros;first|with_reducible rfl|simp(disch:=omega)only[Ze,Zh,s5,s4,s3,s2,s1])) ?_
   rw [Bool.eq_iff_iff]; simp [MachOk,hc,hp,h1,h2,h3]; try grind
  subst c1
  by_cases c2:k=0
  case neg =>
   (repeat(first|((with_reducible first|apply Wp.gs|apply Wp.cs|apply Zc|apply Zg|apply Zd|apply Zi|apply Wp.step);case h=>((try simp(disch:=omega)only[↓reduceIte,Za,↓X0,X1,Nat.reduceEqDiff,Int.reduceEq,Nat.reduceAdd,Nat.reduceSub,X2,Ze,Nat.reduceLeDiff,s5,s4,s3,s2,s1,h3,and_self,eq_self.{1},c2]);with_reducible first|done|exact rfl|exact bT|exact bF))|apply Zf|apply Zj|with_reducible apply Zk|simp only[↓X3]|with_reducible apply Zb))
   refine fin _ _ _ (by omega) ((by intros;first|with_reducible rfl|simp(disch:=omega)only[Ze,Zh,s5,s4,s3,s2,s1])) ?_
   rw [Bool.eq_iff_iff]; simp [MachOk,hc,hp,h1,h2,h3]; try grind
  subst c2
  ((repeat(first|((with_reducible first|apply Wp.gs|apply Wp.cs|apply Zc|apply Zg|apply Zd|apply Zi|apply Wp.step);case h=>((try simp(disch:=omega)only[↓reduceIte,Za,↓X0,X1,Nat.reduceEqDiff,Int.reduceEq,Nat.reduceAdd,Nat.reduceSub,X2,Ze,Nat.reduceLeDiff,s5,s4,s3,s2,s1,h3,and_self,eq_self.{1}]);with_reducible first|done|exact rfl|exact bT|exact bF))|apply Zf|apply Zj|with_reducible apply Zk|simp only[↓X3]|with_reducible apply Zb));try(with_reducible apply Zm;case h=>((try simp(disch:=omega)only[X1,Nat.reduceEqDiff,s5,s4,s3,s2,s1,h3,and_self,eq_self.{1}]);with_reducible exact rfl)))
  refine Wp.rt (k45 (hm.mv (by omega) (by intros;first|with_reducible rfl|simp(disch:=omega)only[Ze,Zh,s5,s4,s3,s2,s1])) hlm r) ?_
  intro H7 n7 q7 s7
  (repeat(first|((with_reducible first|apply Wp.gs|apply Wp.cs|apply Zc|apply Zg|apply Zd|apply Zi|apply Wp.step);case h=>((try simp(disch:=omega)only[↓reduceIte,Za,↓X0,X1,Nat.reduceEqDiff,Int.reduceEq,Nat.reduceAdd,Nat.reduceSub,X2,Ze,Nat.reduceLeDiff,s7,s5,s4,s3,s2,s1]);with_reducible first|done|exact rfl|exact bT|exact bF))|apply Zf|apply Zj|with_reducible apply Zk|simp only[↓X3]|with_reducible apply Zb))
  refine fin _ _ _ (by omega) ((by intros;first|with_reducible rfl|simp(disch:=omega)only[Ze,Zh,s7,s5,s4,s3,s2,s1])) ?_
  rw [Bool.eq_iff_iff]; simp [MachOk,hc,hp,h1,h2,h3]; try grind
 by_cases t3:t=3
 ·subst t3
  by_cases c1:a=0
  case neg =>
   (repeat(first|((with_reducible first|apply Wp.gs|apply Wp.cs|apply Zc|apply Zg|apply Zd|apply Zi|apply Wp.step);case h=>((try simp(disch:=omega)only[↓reduceIte,Za,↓X0,X1,Nat.reduceEqDiff,Int.reduceEq,Nat.reduceAdd,Nat.reduceSub,X2,Ze,Nat.reduceLeDiff,s5,s4,s3,s2,s1,h3,and_self,eq_self.{1},c1]);with_reducible first|done|exact rfl|exact bT|exact bF))|apply Zf|apply Zj|with_reducible apply Zk|simp only[↓X3]|with_reducible apply Zb))
   refine fin _ _ _ (by omega) ((by intros;first|with_reducible rfl|simp(disch:=omega)only[Ze,Zh,s5,s4,s3,s2,s1])) ?_
   rw [Bool.eq_iff_iff]; simp [MachOk,hc,hp,h1,h2,h3]; try grind
  subst c1
  by_cases c2:1≤k∧k≤7
  case neg =>
   (repeat(first|((with_reducible first|apply Wp.gs|apply Wp.cs|apply Zc|apply Zg|apply Zd|apply Zi|apply Wp.step);case h=>((try simp(disch:=omega)only[↓reduceIte,Za,↓X0,X1,Nat.reduceEqDiff,Int.reduceEq,Nat.reduceAdd,Nat.reduceSub,X2,Ze,Nat.reduceLeDiff,s5,s4,s3,s2,s1,h3,and_self,eq_self.{1},k56,c2]);with_reducible first|done|exact rfl|exact bT|exact bF))|apply Zf|apply Zj|with_reducible apply Zk|simp only[↓X3]|with_reducible apply Zb))
   refine fin _ _ _ (by omega) ((by intros;first|with_reducible rfl|simp(disch:=omega)only[Ze,Zh,s5,s4,s3,s2,s1])) ?_
   rw [Bool.eq_iff_iff]; simp [MachOk,hc,hp,h1,h2,h3]; try grind
  (repeat(first|((with_reducible first|apply Wp.gs|apply Wp.cs|apply Zc|apply Zg|apply Zd|apply Zi|apply Wp.step);case h=>((try simp(disch:=omega)only[↓reduceIte,Za,↓X0,X1,Nat.reduceEqDiff,Int.reduceEq,Nat.reduceAdd,Nat.reduceSub,X2,Ze,Nat.reduceLeDiff,s5,s4,s3,s2,s1,h3,and_self,eq_self.{1},k56,c2]);with_reducible first|done|exact rfl|exact bT|exact bF))|apply Zf|apply Zj|with_reducible apply Zk|simp only[↓X3]|with_reducible apply Zb))
  refine fin _ _ _ (by omega) ((by intros;first|with_reducible rfl|simp(disch:=omega)only[Ze,Zh,s5,s4,s3,s2,s1])) ?_
  rw [Bool.eq_iff_iff]; simp [MachOk,hc,hp,h1,h2,h3]; try grind
 (repeat(first|((with_reducible first|apply Wp.gs|apply Wp.cs|apply Zc|apply Zg|apply Zd|apply Zi|apply Wp.step);case h=>((try simp(disch:=omega)only[↓reduceIte,Za,↓X0,X1,Nat.reduceEqDiff,Int.reduceEq,Nat.reduceAdd,Nat.reduceSub,X2,Ze,Nat.reduceLeDiff,s5,s4,s3,s2,s1,h3,and_self,eq_self.{1},t0,t1,t2,t3]);with_reducible first|done|exact rfl|exact bT|exact bF))|apply Zf|apply Zj|with_reducible apply Zk|simp only[↓X3]|with_reducible apply Zb))
 refine fin _ _ _ (by omega) ((by intros;first|with_reducible rfl|simp(disch:=omega)only[Ze,Zh,s5,s4,s3,s2,s1])) ?_
 rw [Bool.eq_iff_iff]; simp [MachOk,hc,hp,h1,h2,h3,t0,t1,t2,t3]; try grind
end Go.Proofs.Ytbgkimkbngocjaa.Ax
set_option linter.unusedVariables false
set_option linter.unusedSimpArgs false
set_option maxHeartbeats 8000000
namespace Go.Proofs.Ytbgkimkbngocjaa.Ax
open Go
def OfOk (l:List Nd) (li:List Ins) (ld:List Df) (p:List Nd) (x:Int):Prop :=
 CodeOk l li ld∧PoolOk p∧(0≤x∧x < (p.length:Int))∧(gi p x).k=6∧(gi p x).n % 8=0∧(gi p x).n / 8 < (li.length:Int)∧p.length+2≤3000
instance (l:List Nd) (li:List Ins) (ld:List Df) (p:List Nd) (x:Int):Decidable (OfOk l li ld p x):=by unfold OfOk; infer_instance
def ofP (l:List Nd) (li:List Ins) (ld:List Df) (p:List Nd) (x:Int):List Nd:=if OfOk l li ld p x then p++[⟨1,0,⟨#[]⟩,0,0⟩]++[⟨5,0,⟨#[]⟩,(p.length:Int),(gi p x).a⟩] else []
def ofA (l:List Nd) (li:List Ins) (ld:List Df) (p:List Nd) (x:Int):Int:=if OfOk l li ld p x then (gi p x).n / 8 else 0
def ofS (l:List Nd) (li:List Ins) (ld:List Df) (p:List Nd) (x:Int):Int:=if OfOk l li ld p x then (p.length:Int) else 0
def ofE (l:List Nd) (li:List Ins) (ld:List Df) (p:List Nd) (x:Int):Int:=if OfOk l li ld p x then (p.length:Int)+1 else 0
theorem ofP_len (l:List Nd) (li:List Ins) (ld:List Df) (p:List Nd) (x:Int):(ofP l li ld p x).length≤3000:=by
 unfold ofP
 split
 ·rename_i h
  have:=h.2.2.2.2.2.2
  simp; omega
 ·simp
theorem NodeOk.six {x:Nd} {m:Int} (h:NodeOk x m) (hk:x.k=6):0≤x.n∧x.n≤1000000000:=by
 rcases h with h | h | h | h | h | h | h | h | h <;> obtain ⟨h1,h2⟩:=h <;> omega
theorem k20 {n:Nat} {H:Hp} {v vl vd vp:Value} {l p:List Nd} {li:List Ins} {ld:List Df} (hv:Li eNode n H v l) (hvl:Li eIns n H vl li) (hvd:Li eDef n H vd ld) (hs:∀ x∈l,x.s.size≤1048576) (hsl:∀ x∈li,x.s.size≤1048576) (hsd:∀ x∈ld,x.s.size≤1048576) (hl:l.length≤1048576) (hll:li.length≤1048576) (hld:ld.length≤1048576) (hp:Li eNode n H vp p) (hsp:∀ x∈p,x.s.size≤1048576) (hlp:p.length≤1048576) (x:Int) :
  RtN Try.prog 20 [.agg ⟨[v,vl,vd]⟩,.agg ⟨[vp]⟩,.int .i64 x] H n (fun r H' n'=>∃ u,r=.tuple ⟨[.agg ⟨[u,.int .i64 (ofA l li ld p x),.int .i64 (ofS l li ld p x),.int .i64 (ofE l li ld p x),.int .i64 (ofS l li ld p x),.int .i64 0,.int .i64 0,.int .i64 0]⟩,.bool (decide (OfOk l li ld p x))]⟩∧New eNode n n' H' u (ofP l li ld p x)):=by
 apply RtN.mk
 rw [c20]; unfold S20
 have fin:∀ (H':Hp) (n':Nat),n+1≤n'→(∀ i,i < n→H' i=H i)→¬ OfOk l li ld p x→Wp (some (Value.tuple ⟨[.agg ⟨[nilS,.int .i64 0,.int .i64 0,.int .i64 0,.int .i64 0,.int .i64 0,.int .i64 0,.int .i64 0]⟩,.bool false]⟩,H',n')) (fun q=>n≤q.2.2∧(∀ i,i < n→q.2.1 i=H i)∧∃ u,q.1=.tuple ⟨[.agg ⟨[u,.int .i64 (ofA l li ld p x),.int .i64 (ofS l li ld p x),.int .i64 (ofE l li ld p x),.int .i64 (ofS l li ld p x),.int .i64 0,.int .i64 0,.int .i64 0]⟩,.bool (decide (OfOk l li ld p x))]⟩∧New eNode n q.2.2 q.2.1 u (ofP l li ld p x)):=by
  intro H' n' h1 h2 h3
  refine Wp.pure ⟨by simp only; omega,h2,nilS,?_,?_⟩
  ·simp only [ofA,ofS,ofE,if_neg h3,decide_eq_false h3]
  ·simp only [ofP,if_neg h3]; exact ⟨n,by omega,by omega,At.nil⟩
 ((repeat(first|((with_reducible first|apply Wp.gs|apply Wp.cs|apply Zc|apply Zg|apply Zd|apply Zi|apply Zn|apply Wp.step);case h=>((try simp(disch:=omega)only[↓reduceIte,Za,↓X0,X1,Nat.reduceEqDiff,Int.reduceEq,Nat.reduceAdd,Nat.reduceSub,X2,Ze,Nat.reduceLeDiff]);with_reducible first|done|exact rfl|exact bT|exact bF))|apply Zf|apply Zj|with_reducible apply Zk|simp only[↓X3]|simp(disch:=decide)only[Zx,Yc,Ya,Zy,Yb,Zz]|with_reducible apply Zb));try(with_reducible apply Zm;case h=>((try simp(disch:=omega)only[X1,Nat.reduceEqDiff]);with_reducible exact rfl)))
 refine Wp.rt (k12 (hv.mv (by omega) (by intros;first|with_reducible rfl|simp(disch:=omega)only[Ze,Zh])) (hvl.mv (by omega) (by intros;first|with_reducible rfl|simp(disch:=omega)only[Ze,Zh])) (hvd.mv (by omega) (by intros;first|with_reducible rfl|simp(disch:=omega)only[Ze,Zh])) hs hsl hsd hl hll hld) ?_
 intro H1 n1 q1 s1
 by_cases hc:CodeOk l li ld
 case neg =>
  (repeat(first|((with_reducible first|apply Wp.gs|apply Wp.cs|apply Zc|apply Zg|apply Zd|apply Zi|apply Zn|apply Wp.step);case h=>((try simp(disch:=omega)only[↓reduceIte,Za,↓X0,X1,Nat.reduceEqDiff,Int.reduceEq,Nat.reduceAdd,Nat.reduceSub,X2,Ze,Nat.reduceLeDiff,s1,hc]);with_reducible first|done|exact rfl|exact bT|exact bF))|apply Zf|apply Zj|with_reducible apply Zk|simp only[↓X3]|simp(disch:=decide)only[Zx,Yc,Ya,Zy,Yb,Zz]|with_reducible apply Zb))
  exact fin _ _ (by omega) (by intros;first|with_reducible rfl|simp(disch:=omega)only[Ze,Zh,s1]) (fun h=>hc h.1)
 ((repeat(first|((with_reducible first|apply Wp.gs|apply Wp.cs|apply Zc|apply Zg|apply Zd|apply Zi|apply Zn|apply Wp.step);case h=>((try simp(disch:=omega)only[↓reduceIte,Za,↓X0,X1,Nat.reduceEqDiff,Int.reduceEq,Nat.reduceAdd,Nat.reduceSub,X2,Ze,Nat.reduceLeDiff,s1,hc]);with_reducible first|done|exact rfl|exact bT|exact bF))|apply Zf|apply Zj|with_reducible apply Zk|simp only[↓X3]|simp(disch:=decide)only[Zx,Yc,Ya,Zy,Yb,Zz]|with_reducible apply Zb));try(with_reducible apply Zm;case h=>((try simp(disch:=omega)only[X1,Nat.reduceEqDiff,s1,hc]);with_reducible exact rfl)))
 refine Wp.rt (k42 (hp.mv (by omega) (by intros;first|with_reducible rfl|simp(disch:=omega)only[Ze,Zh,s1])) hsp hlp) ?_
 intro H2 n2 q2 s2
 by_cases hpp:PoolOk p
 case neg =>
  (repeat(first|((with_reducible first|apply Wp.gs|apply Wp.cs|apply Zc|apply Zg|apply Zd|apply Zi|apply Zn|apply Wp.step);case h=>((try simp(disch:=omega)only[↓reduceIte,Za,↓X0,X1,Nat.reduceEqDiff,Int.reduceEq,Nat.reduceAdd,Nat.reduceSub,X2,Ze,Nat.reduceLeDiff,s2,s1,hpp]);with_reducible first|done|exact rfl|exact bT|exact bF))|apply Zf|apply Zj|with_reducible apply Zk|simp only[↓X3]|simp(disch:=decide)only[Zx,Yc,Ya,Zy,Yb,Zz]|with_reducible apply Zb))
  exact fin _ _ (by omega) (by intros;first|with_reducible rfl|simp(disch:=omega)only[Ze,Zh,s2,s1]) (fun h=>hpp h.2.1)
 ((repeat(first|((with_reducible first|apply Wp.gs|apply Wp.cs|apply Zc|apply Zg|apply Zd|apply Zi|apply Zn|apply Wp.step);case h=>((try simp(disch:=omega)only[↓reduceIte,Za,↓X0,X1,Nat.reduceEqDiff,Int.reduceEq,Nat.reduceAdd,Nat.reduceSub,X2,Ze,Nat.reduceLeDiff,s2,s1,hpp]);with_reducible first|done|exact rfl|exact bT|exact bF))|apply Zf|apply Zj|with_reducible apply Zk|simp only[↓X3]|simp(disch:=decide)only[Zx,Yc,Ya,Zy,Yb,Zz]|with_reducible apply Zb));try(with_reducible apply Zm;case h=>((try simp(disch:=omega)only[X1,Nat.reduceEqDiff,s2,s1,hpp]);with_reducible exact rfl)))
 refine Wp.rt (k45 (hp.mv (by omega) (by intros;first|with_reducible rfl|simp(disch:=omega)only[Ze,Zh,s2,s1])) hlp x) ?_
 intro H3 n3 q3 s3
 by_cases hx:0≤x∧x < (p.length:Int)
 case neg =>
  (repeat(first|((with_reducible first|apply Wp.gs|apply Wp.cs|apply Zc|apply Zg|apply Zd|apply Zi|apply Zn|apply Wp.step);case h=>((try simp(disch:=omega)only[↓reduceIte,Za,↓X0,X1,Nat.reduceEqDiff,Int.reduceEq,Nat.reduceAdd,Nat.reduceSub,X2,Ze,Nat.reduceLeDiff,s3,s2,s1,hx]);with_reducible first|done|exact rfl|exact bT|exact bF))|apply Zf|apply Zj|with_reducible apply Zk|simp only[↓X3]|simp(disch:=decide)only[Zx,Yc,Ya,Zy,Yb,Zz]|with_reducible apply Zb))
  exact fin _ _ (by omega) (by intros;first|with_reducible rfl|simp(disch:=omega)only[Ze,Zh,s3,s2,s1]) (fun h=>hx h.2.2.1)
 have g3:=(hp.mv (H':=H3) (Nat.le_refl _) (by intros;first|with_reducible rfl|simp(disch:=omega)only[Ze,Zh,s3,s2,s1])).nAll hx.1 hx.2
 have hok:=hpp.at hx.1 hx.2
 by_cases h6:(gi p x).k=6
 case neg =>
  (repeat(first|((with_reducible first|apply Wp.gs|apply Wp.cs|apply Zc|apply Zg|apply Zd|apply Zi|apply Zn|apply Wp.step);case h=>((try simp(disch:=omega)only[↓reduceIte,Za,↓X0,X1,Nat.reduceEqDiff,Int.reduceEq,Nat.reduceAdd,Nat.reduceSub,X2,Ze,Nat.reduceLeDiff,s3,s2,s1,hx,and_self,g3,h6]);with_reducible first|done|exact rfl|exact bT|exact bF))|apply Zf|apply Zj|with_reducible apply Zk|simp only[↓X3]|simp(disch:=decide)only[Zx,Yc,Ya,Zy,Yb,Zz]|with_reducible apply Zb))
  exact fin _ _ (by omega) (by intros;first|with_reducible rfl|simp(disch:=omega)only[Ze,Zh,s3,s2,s1]) (fun h=>h6 h.2.2.2.1)
 have hn:=hok.six h6
 have hrem:(gi p x).n.tmod 8=(gi p x).n % 8:=Int.tmod_eq_emod_of_nonneg hn.1
 have hquo:IntKind.i64.wrap ((gi p x).n.tdiv 8)=(gi p x).n / 8:=by rw [Int.tdiv_eq_ediv_of_nonneg hn.1,w64 (by omega)]
 by_cases h8:(gi p x).n % 8=0
 case neg =>
  (repeat(first|((with_reducible first|apply Wp.gs|apply Wp.cs|apply Zc|apply Zg|apply Zd|apply Zi|apply Zn|apply Wp.step);case h=>((try simp(disch:=omega)only[↓reduceIte,Za,↓X0,X1,Nat.reduceEqDiff,Int.reduceEq,Nat.reduceAdd,Nat.reduceSub,X2,Ze,Nat.reduceLeDiff,s3,s2,s1,hx,and_self,g3,h6,eq_self.{1},hrem,h8]);with_reducible first|done|exact rfl|exact bT|exact bF))|apply Zf|apply Zj|with_reducible apply Zk|simp only[↓X3]|simp(disch:=decide)only[Zx,Yc,Ya,Zy,Yb,Zz]|with_reducible apply Zb))
  exact fin _ _ (by omega) (by intros;first|with_reducible rfl|simp(disch:=omega)only[Ze,Zh,s3,s2,s1]) (fun h=>h8 h.2.2.2.2.1)
 ((repeat(first|((with_reducible first|apply Wp.gs|apply Wp.cs|apply Zc|apply Zg|apply Zd|apply Zi|apply Zn|apply Wp.step);case h=>((try simp(disch:=omega)only[↓reduceIte,Za,↓X0,X1,Nat.reduceEqDiff,Int.reduceEq,Nat.reduceAdd,Nat.reduceSub,X2,Ze,Nat.reduceLeDiff,s3,s2,s1,hx,and_self,g3,h6,eq_self.{1},hrem,h8,hquo]);with_reducible first|done|exact rfl|exact bT|exact bF))|apply Zf|apply Zj|with_reducible apply Zk|simp only[↓X3]|simp(disch:=decide)only[Zx,Yc,Ya,Zy,Yb,Zz]|with_reducible apply Zb));try(with_reducible apply Zm;case h=>((try simp(disch:=omega)only[X1,Nat.reduceEqDiff,s3,s2,s1,hx,and_self,g3,h6,eq_self.{1},hrem,h8,hquo]);with_reducible exact rfl)))
 refine Wp.rt (k63 (hvl.mv (by omega) (by intros;first|with_reducible rfl|simp(disch:=omega)only[Ze,Zh,s3,s2,s1])) hll _) ?_
 intro H4 n4 q4 s4
 have e9:(0≤(gi p x).n / 8∧(gi p x).n / 8≤(li.length:Int) - 1)=((gi p x).n / 8 < (li.length:Int)):=propext (by omega)
 by_cases h9:(gi p x).n / 8 < (li.length:Int)
 case neg =>
  (repeat(first|((with_reducible first|apply Wp.gs|apply Wp.cs|apply Zc|apply Zg|apply Zd|apply Zi|apply Zn|apply Wp.step);case h=>((try simp(disch:=omega)only[↓reduceIte,Za,↓X0,X1,Nat.reduceEqDiff,Int.reduceEq,Nat.reduceAdd,Nat.reduceSub,X2,Ze,Nat.reduceLeDiff,s4,s3,s2,s1,e9,h9]);with_reducible first|done|exact rfl|exact bT|exact bF))|apply Zf|apply Zj|with_reducible apply Zk|simp only[↓X3]|simp(disch:=decide)only[Zx,Yc,Ya,Zy,Yb,Zz]|with_reducible apply Zb))
  exact fin _ _ (by omega) (by intros;first|with_reducible rfl|simp(disch:=omega)only[Ze,Zh,s4,s3,s2,s1]) (fun h=>h9 h.2.2.2.2.2.1)
 ((repeat(first|((with_reducible first|apply Wp.gs|apply Wp.cs|apply Zc|apply Zg|apply Zd|apply Zi|apply Zn|apply Wp.step);case h=>((try simp(disch:=omega)only[↓reduceIte,Za,↓X0,X1,Nat.reduceEqDiff,Int.reduceEq,Nat.reduceAdd,Nat.reduceSub,X2,Ze,Nat.reduceLeDiff,s4,s3,s2,s1,e9,h9]);with_reducible first|done|exact rfl|exact bT|exact bF))|apply Zf|apply Zj|with_reducible apply Zk|simp only[↓X3]|simp(disch:=decide)only[Zx,Yc,Ya,Zy,Yb,Zz]|with_reducible apply Zb));try(with_reducible apply Zm;case h=>((try simp(disch:=omega)only[X1,Nat.reduceEqDiff,s4,s3,s2,s1,e9,h9]);with_reducible exact rfl)))
 refine Wp.rtn (k46 (hp.mv (by omega) (by intros;first|with_reducible rfl|simp(disch:=omega)only[Ze,Zh,s4,s3,s2,s1])) (by omega)) ?_
 rintro _ H5 n5 q5 s5 ⟨u,rfl,id,i1,i2,i3⟩
 have g4:=(hp.mv (H':=H4) (Nat.le_refl _) (by intros;first|with_reducible rfl|simp(disch:=omega)only[Ze,Zh,s4,s3,s2,s1])).nAll hx.1 hx.2
 have g5:=(hp.mv (H':=H5) (Nat.le_refl _) (by intros;first|with_reducible rfl|simp(disch:=omega)only[Ze,Zh,s5,s4,s3,s2,s1])).nAll hx.1 hx.2
 ((repeat(first|((with_reducible first|apply Wp.gs|apply Wp.cs|apply Zc|apply Zg|apply Zd|apply Zi|apply Zn|apply Wp.step);case h=>((try simp(disch:=omega)only[↓reduceIte,Za,↓X0,X1,Nat.reduceEqDiff,Int.reduceEq,Nat.reduceAdd,Nat.reduceSub,X2,Ze,Nat.reduceLeDiff,s5,s4,s3,s2,s1,g4,g5,hquo]);with_reducible first|done|exact rfl|exact bT|exact bF))|apply Zf|apply Zj|with_reducible apply Zk|simp only[↓X3]|simp(disch:=decide)only[Zx,Yc,Ya,Zy,Yb,Zz]|with_reducible apply Zb));try(with_reducible apply Zm;case h=>((try simp(disch:=omega)only[X1,Nat.reduceEqDiff,s5,s4,s3,s2,s1,g4,g5,hquo]);with_reducible exact rfl)))
 refine Wp.rta (k64 (c:=n4+10) (o:=0) (id:=id) (e:=0) (cs:=[u,.int .i64 ((gi p x).n / 8),.int .i64 0,.int .i64 0,.int .i64 0,.int .i64 0,.int .i64 0,.int .i64 0]) (v:=u) (l:=p) ⟨(by intros;first|with_reducible rfl|simp(disch:=omega)only[Ze,Zh]),rfl,i3.mv (by intros;first|with_reducible rfl|simp(disch:=omega)only[Ze,Zh]),by omega,by omega,by omega⟩ (by omega) ⟨1,0,⟨#[]⟩,0,0⟩) ?_
 rintro _ H6 n6 q6 s6 ⟨rfl,v6,id6,i6,hPC⟩
 have c6:H6 (n4+10)=some (.row [v6,.int .i64 ((gi p x).n / 8),.int .i64 0,.int .i64 0,.int .i64 0,.int .i64 0,.int .i64 0,.int .i64 0] 0 true):=hPC.hc
 have b6:H6 (n+1)=some (.row [vp] 0 true):=by simp (disch:=omega) only [s6,s5,s4,s3,s2,s1,Ze,Zh]
 have s6n:∀ i,i < n→H6 i=H i:=(by intros;first|with_reducible rfl|simp(disch:=omega)only[Ze,Zh,s6,s5,s4,s3,s2,s1])
 have hm7:∀ i,i < n→(H6.set (n4+10) (some (.row [v6,.int .i64 ((gi p x).n / 8),.int .i64 p.length,.int .i64 0,.int .i64 p.length,.int .i64 0,.int .i64 0,.int .i64 0] 0 true))) i=H i:=(by intros;first|with_reducible rfl|simp(disch:=omega)only[Ze,Zh,s6n])
 have g7:=(hp.mv (Nat.le_refl _) hm7).nAll hx.1 hx.2
 ((repeat(first|((with_reducible first|apply Wp.gs|apply Wp.cs|apply Zc|apply Zg|apply Zd|apply Zi|apply Zn|apply Wp.step);case h=>((try simp(disch:=omega)only[↓reduceIte,Za,↓X0,X1,Nat.reduceEqDiff,Int.reduceEq,Nat.reduceAdd,Nat.reduceSub,X2,Ze,Nat.reduceLeDiff,c6,b6,g7]);with_reducible first|done|exact rfl|exact bT|exact bF))|apply Zf|apply Zj|with_reducible apply Zk|simp only[↓X3]|simp(disch:=decide)only[Zx,Yc,Ya,Zy,Yb,Zz]|with_reducible apply Zb));try(with_reducible apply Zm;case h=>((try simp(disch:=omega)only[X1,Nat.reduceEqDiff,c6,b6,g7]);with_reducible exact rfl)))
 have hPC7:PC (n4+10) 0 id6 n6 (H6.set (n4+10) (some (.row [v6,.int .i64 ((gi p x).n / 8),.int .i64 p.length,.int .i64 0,.int .i64 p.length,.int .i64 0,.int .i64 0,.int .i64 0] 0 true))) [v6,.int .i64 ((gi p x).n / 8),.int .i64 p.length,.int .i64 0,.int .i64 p.length,.int .i64 0,.int .i64 0,.int .i64 0] 0 v6 (p++[⟨1,0,⟨#[]⟩,0,0⟩]):=⟨Zh _ _ _,rfl,hPC.at_.mv (by intros;first|with_reducible rfl|simp(disch:=omega)only[Ze,Zh]),by omega,hPC.idn,hPC.ne⟩
 refine Wp.rta (k65 (hPC7.mv (by omega) rfl rfl) (by simp; omega) _ _) ?_
 rintro _ H8 n8 q8 s8 ⟨rfl,v8,id8,i8,hPC8⟩
 have c8:H8 (n4+10)=some (.row [v8,.int .i64 ((gi p x).n / 8),.int .i64 p.length,.int .i64 0,.int .i64 p.length,.int .i64 0,.int .i64 0,.int .i64 0] 0 true):=hPC8.hc
 have m8:H8 (n+2)=some (.row [nilS,.int .i64 0,.int .i64 0,.int .i64 0,.int .i64 0,.int .i64 0,.int .i64 0,.int .i64 0] 0 true):=by simp (disch:=omega) only [s8,s6,s5,s4,s3,s2,s1,Ze,Zh]
 have s8n:∀ i,i < n→H8 i=H i:=(by intros;first|with_reducible rfl|simp(disch:=omega)only[Ze,Zh,s8,s6n])
 have hl1:((p++[(⟨1,0,⟨#[]⟩,0,0⟩:Nd)]).length:Int)=(p.length:Int)+1:=by simp
 have hlen8:lenV false v8=some (.int .i64 (p.length+2:Nat)):=by rw [(hPC8.at_.lst hPC8.idn).len]; simp
 by_cases h3:p.length+2≤3000
 ·have h3i:¬ (3000:Int) < ((p.length+2:Nat):Int):=by omega
  have hN:OfOk l li ld p x:=⟨hc,hpp,hx,h6,h8,h9,h3⟩
  (repeat(first|((with_reducible first|apply Wp.gs|apply Wp.cs|apply Zc|apply Zg|apply Zd|apply Zi|apply Zn|apply Wp.step);case h=>((try simp(disch:=omega)only[↓reduceIte,Za,↓X0,X1,Nat.reduceEqDiff,Int.reduceEq,Nat.reduceAdd,Nat.reduceSub,X2,Ze,Nat.reduceLeDiff,c8,m8,hl1,hlen8,h3i]);with_reducible first|done|exact rfl|exact bT|exact bF))|apply Zf|apply Zj|with_reducible apply Zk|simp only[↓X3]|simp(disch:=decide)only[Zx,Yc,Ya,Zy,Yb,Zz]|with_reducible apply Zb))
  refine Wp.pure ⟨by simp only; omega,(by intros;first|with_reducible rfl|simp(disch:=omega)only[Ze,Zh,s8n]),v8,?_,?_⟩
  ·simp only [ofA,ofS,ofE,if_pos hN,decide_eq_true hN]
  ·simp only [ofP,if_pos hN]; exact ⟨id8,by omega,by have:=hPC8.idn; omega,hPC8.at_.mv (by intros;first|with_reducible rfl|simp(disch:=omega)only[Ze,Zh])⟩
 ·have h3i:(3000:Int) < ((p.length+2:Nat):Int):=by omega
  (repeat(first|((with_reducible first|apply Wp.gs|apply Wp.cs|apply Zc|apply Zg|apply Zd|apply Zi|apply Zn|apply Wp.step);case h=>((try simp(disch:=omega)only[↓reduceIte,Za,↓X0,X1,Nat.reduceEqDiff,Int.reduceEq,Nat.reduceAdd,Nat.reduceSub,X2,Ze,Nat.reduceLeDiff,c8,m8,hl1,hlen8,h3i]);with_reducible first|done|exact rfl|exact bT|exact bF))|apply Zf|apply Zj|with_reducible apply Zk|simp only[↓X3]|simp(disch:=decide)only[Zx,Yc,Ya,Zy,Yb,Zz]|with_reducible apply Zb))
  exact fin _ _ (by omega) (by intros;first|with_reducible rfl|simp(disch:=omega)only[Ze,Zh,s8n]) (fun h=>h3 h.2.2.2.2.2.2)
theorem k21 {n:Nat} {H:Hp} {v vl vd vp:Value} {l p:List Nd} {li:List Ins} {ld:List Df} (hv:Li eNode n H v l) (hvl:Li eIns n H vl li) (hvd:Li eDef n H vd ld) (hs:∀ x∈l,x.s.size≤1048576) (hsl:∀ x∈li,x.s.size≤1048576) (hsd:∀ x∈ld,x.s.size≤1048576) (hl:l.length≤1048576) (hll:li.length≤1048576) (hld:ld.length≤1048576) (hp:Li eNode n H vp p) (hsp:∀ x∈p,x.s.size≤1048576) (hlp:p.length≤1048576) (x:Int) :
  RtN Try.prog 21 [.agg ⟨[v,vl,vd]⟩,.agg ⟨[vp]⟩,.int .i64 x] H n (fun r H' n'=>∃ u,r=.tuple ⟨[.agg ⟨[u,.int .i64 (ofA l li ld p x),.int .i64 (ofS l li ld p x),.int .i64 (ofE l li ld p x),.int .i64 (ofS l li ld p x),.int .i64 0,.int .i64 0,.int .i64 0]⟩,.bool (decide (OfOk l li ld p x))]⟩∧New eNode n n' H' u (ofP l li ld p x)):=by
 apply RtN.mk
 rw [c21]; unfold S21
 have fin:∀ (H':Hp) (n':Nat),n+1≤n'→(∀ i,i < n→H' i=H i)→¬ OfOk l li ld p x→Wp (some (Value.tuple ⟨[.agg ⟨[nilS,.int .i64 0,.int .i64 0,.int .i64 0,.int .i64 0,.int .i64 0,.int .i64 0,.int .i64 0]⟩,.bool false]⟩,H',n')) (fun q=>n≤q.2.2∧(∀ i,i < n→q.2.1 i=H i)∧∃ u,q.1=.tuple ⟨[.agg ⟨[u,.int .i64 (ofA l li ld p x),.int .i64 (ofS l li ld p x),.int .i64 (ofE l li ld p x),.int .i64 (ofS l li ld p x),.int .i64 0,.int .i64 0,.int .i64 0]⟩,.bool (decide (OfOk l li ld p x))]⟩∧New eNode n q.2.2 q.2.1 u (ofP l li ld p x)):=by
  intro H' n' h1 h2 h3
  refine Wp.pure ⟨by simp only; omega,h2,nilS,?_,?_⟩
  ·simp only [ofA,ofS,ofE,if_neg h3,decide_eq_false h3]
  ·simp only [ofP,if_neg h3]; exact ⟨n,by omega,by omega,At.nil⟩
 ((repeat(first|((with_reducible first|apply Wp.gs|apply Wp.cs|apply Zc|apply Zg|apply Zd|apply Zi|apply Zn|apply Wp.step);case h=>((try simp(disch:=omega)only[↓reduceIte,Za,↓X0,X1,Nat.reduceEqDiff,Int.reduceEq,Nat.reduceAdd,Nat.reduceSub,X2,Ze,Nat.reduceLeDiff]);with_reducible first|done|exact rfl|exact bT|exact bF))|apply Zf|apply Zj|with_reducible apply Zk|simp only[↓X3]|simp(disch:=decide)only[Zx,Yc,Ya,Zy,Yb,Zz]|with_reducible apply Zb));try(with_reducible apply Zm;case h=>((try simp(disch:=omega)only[X1,Nat.reduceEqDiff]);with_reducible exact rfl)))
 refine Wp.rt (k14 (hv.mv (by omega) (by intros;first|with_reducible rfl|simp(disch:=omega)only[Ze,Zh])) (hvl.mv (by omega) (by intros;first|with_reducible rfl|simp(disch:=omega)only[Ze,Zh])) (hvd.mv (by omega) (by intros;first|with_reducible rfl|simp(disch:=omega)only[Ze,Zh])) hs hsl hsd hl hll hld) ?_
 intro H1 n1 q1 s1
 by_cases hc:CodeOk l li ld
 case neg =>
  (repeat(first|((with_reducible first|apply Wp.gs|apply Wp.cs|apply Zc|apply Zg|apply Zd|apply Zi|apply Zn|apply Wp.step);case h=>((try simp(disch:=omega)only[↓reduceIte,Za,↓X0,X1,Nat.reduceEqDiff,Int.reduceEq,Nat.reduceAdd,Nat.reduceSub,X2,Ze,Nat.reduceLeDiff,s1,hc]);with_reducible first|done|exact rfl|exact bT|exact bF))|apply Zf|apply Zj|with_reducible apply Zk|simp only[↓X3]|simp(disch:=decide)only[Zx,Yc,Ya,Zy,Yb,Zz]|with_reducible apply Zb))
  exact fin _ _ (by omega) (by intros;first|with_reducible rfl|simp(disch:=omega)only[Ze,Zh,s1]) (fun h=>hc h.1)
 ((repeat(first|((with_reducible first|apply Wp.gs|apply Wp.cs|apply Zc|apply Zg|apply Zd|apply Zi|apply Zn|apply Wp.step);case h=>((try simp(disch:=omega)only[↓reduceIte,Za,↓X0,X1,Nat.reduceEqDiff,Int.reduceEq,Nat.reduceAdd,Nat.reduceSub,X2,Ze,Nat.reduceLeDiff,s1,hc]);with_reducible first|done|exact rfl|exact bT|exact bF))|apply Zf|apply Zj|with_reducible apply Zk|simp only[↓X3]|simp(disch:=decide)only[Zx,Yc,Ya,Zy,Yb,Zz]|with_reducible apply Zb));try(with_reducible apply Zm;case h=>((try simp(disch:=omega)only[X1,Nat.reduceEqDiff,s1,hc]);with_reducible exact rfl)))
 refine Wp.rt (k48 (hp.mv (by omega) (by intros;first|with_reducible rfl|simp(disch:=omega)only[Ze,Zh,s1])) hsp hlp) ?_
 intro H2 n2 q2 s2
 by_cases hpp:PoolOk p
 case neg =>
  (repeat(first|((with_reducible first|apply Wp.gs|apply Wp.cs|apply Zc|apply Zg|apply Zd|apply Zi|apply Zn|apply Wp.step);case h=>((try simp(disch:=omega)only[↓reduceIte,Za,↓X0,X1,Nat.reduceEqDiff,Int.reduceEq,Nat.reduceAdd,Nat.reduceSub,X2,Ze,Nat.reduceLeDiff,s2,s1,hpp]);with_reducible first|done|exact rfl|exact bT|exact bF))|apply Zf|apply Zj|with_reducible apply Zk|simp only[↓X3]|simp(disch:=decide)only[Zx,Yc,Ya,Zy,Yb,Zz]|with_reducible apply Zb))
  exact fin _ _ (by omega) (by intros;first|with_reducible rfl|simp(disch:=omega)only[Ze,Zh,s2,s1]) (fun h=>hpp h.2.1)
 ((repeat(first|((with_reducible first|apply Wp.gs|apply Wp.cs|apply Zc|apply Zg|apply Zd|apply Zi|apply Zn|apply Wp.step);case h=>((try simp(disch:=omega)only[↓reduceIte,Za,↓X0,X1,Nat.reduceEqDiff,Int.reduceEq,Nat.reduceAdd,Nat.reduceSub,X2,Ze,Nat.reduceLeDiff,s2,s1,hpp]);with_reducible first|done|exact rfl|exact bT|exact bF))|apply Zf|apply Zj|with_reducible apply Zk|simp only[↓X3]|simp(disch:=decide)only[Zx,Yc,Ya,Zy,Yb,Zz]|with_reducible apply Zb));try(with_reducible apply Zm;case h=>((try simp(disch:=omega)only[X1,Nat.reduceEqDiff,s2,s1,hpp]);with_reducible exact rfl)))
 refine Wp.rt (k49 (hp.mv (by omega) (by intros;first|with_reducible rfl|simp(disch:=omega)only[Ze,Zh,s2,s1])) hlp x) ?_
 intro H3 n3 q3 s3
 by_cases hx:0≤x∧x < (p.length:Int)
 case neg =>
  (repeat(first|((with_reducible first|apply Wp.gs|apply Wp.cs|apply Zc|apply Zg|apply Zd|apply Zi|apply Zn|apply Wp.step);case h=>((try simp(disch:=omega)only[↓reduceIte,Za,↓X0,X1,Nat.reduceEqDiff,Int.reduceEq,Nat.reduceAdd,Nat.reduceSub,X2,Ze,Nat.reduceLeDiff,s3,s2,s1,hx]);with_reducible first|done|exact rfl|exact bT|exact bF))|apply Zf|apply Zj|with_reducible apply Zk|simp only[↓X3]|simp(disch:=decide)only[Zx,Yc,Ya,Zy,Yb,Zz]|with_reducible apply Zb))
  exact fin _ _ (by omega) (by intros;first|with_reducible rfl|simp(disch:=omega)only[Ze,Zh,s3,s2,s1]) (fun h=>hx h.2.2.1)
 have hw2:IntKind.i64.wrap ((p.length:Int)+2)=(p.length:Int)+2:=w64 (by omega)
 by_cases h3:p.length+2≤3000
 case neg =>
  (repeat(first|((with_reducible first|apply Wp.gs|apply Wp.cs|apply Zc|apply Zg|apply Zd|apply Zi|apply Zn|apply Wp.step);case h=>((try simp(disch:=omega)only[↓reduceIte,Za,↓X0,X1,Nat.reduceEqDiff,Int.reduceEq,Nat.reduceAdd,Nat.reduceSub,X2,Ze,Nat.reduceLeDiff,s3,s2,s1,hx,and_self,hp.len,hw2,show (3000:Int) < (p.length:Int)+2 by omega]);with_reducible first|done|exact rfl|exact bT|exact bF))|apply Zf|apply Zj|with_reducible apply Zk|simp only[↓X3]|simp(disch:=decide)only[Zx,Yc,Ya,Zy,Yb,Zz]|with_reducible apply Zb))
  exact fin _ _ (by omega) (by intros;first|with_reducible rfl|simp(disch:=omega)only[Ze,Zh,s3,s2,s1]) (fun h=>h3 h.2.2.2.2.2.2)
 have g3:=(hp.mv (H':=H3) (Nat.le_refl _) (by intros;first|with_reducible rfl|simp(disch:=omega)only[Ze,Zh,s3,s2,s1])).nAll hx.1 hx.2
 have hok:=hpp.at hx.1 hx.2
 have hofx:∀ y,gi p x=y→gi p x=y:=fun _ h=>h
 generalize hy:gi p x=y at g3 hok
 obtain ⟨yk,yn,ys,ya,yb⟩:=y
 simp only [Nd.cells] at g3
 by_cases h6:yk=6
 case neg =>
  (repeat(first|((with_reducible first|apply Wp.gs|apply Wp.cs|apply Zc|apply Zg|apply Zd|apply Zi|apply Zn|apply Wp.step);case h=>((try simp(disch:=omega)only[↓reduceIte,Za,↓X0,X1,Nat.reduceEqDiff,Int.reduceEq,Nat.reduceAdd,Nat.reduceSub,X2,Ze,Nat.reduceLeDiff,s3,s2,s1,hx,and_self,hp.len,hw2,show ¬ (3000:Int) < (p.length:Int)+2 by omega,g3,h6]);with_reducible first|done|exact rfl|exact bT|exact bF))|apply Zf|apply Zj|with_reducible apply Zk|simp only[↓X3]|simp(disch:=decide)only[Zx,Yc,Ya,Zy,Yb,Zz]|with_reducible apply Zb))
  exact fin _ _ (by omega) (by intros;first|with_reducible rfl|simp(disch:=omega)only[Ze,Zh,s3,s2,s1]) (fun h=>h6 (by have:=h.2.2.2.1; rw [hy] at this; exact this))
 subst h6
 have hn:=hok.six rfl
 simp only at hn
 have hrem:yn.tmod 8=yn % 8:=Int.tmod_eq_emod_of_nonneg hn.1
 have hquo:IntKind.i64.wrap (yn.tdiv 8)=yn / 8:=by rw [Int.tdiv_eq_ediv_of_nonneg hn.1,w64 (by omega)]
 by_cases h8:yn % 8=0
 case neg =>
  (repeat(first|((with_reducible first|apply Wp.gs|apply Wp.cs|apply Zc|apply Zg|apply Zd|apply Zi|apply Zn|apply Wp.step);case h=>((try simp(disch:=omega)only[↓reduceIte,Za,↓X0,X1,Nat.reduceEqDiff,Int.reduceEq,Nat.reduceAdd,Nat.reduceSub,X2,Ze,Nat.reduceLeDiff,s3,s2,s1,hx,and_self,hp.len,hw2,show ¬ (3000:Int) < (p.length:Int)+2 by omega,g3,eq_self.{1},hrem,h8]);with_reducible first|done|exact rfl|exact bT|exact bF))|apply Zf|apply Zj|with_reducible apply Zk|simp only[↓X3]|simp(disch:=decide)only[Zx,Yc,Ya,Zy,Yb,Zz]|with_reducible apply Zb))
  exact fin _ _ (by omega) (by intros;first|with_reducible rfl|simp(disch:=omega)only[Ze,Zh,s3,s2,s1]) (fun h=>h8 (by have:=h.2.2.2.2.1; rw [hy] at this; exact this))
 by_cases h9:yn / 8 < (li.length:Int)
 case neg =>
  (repeat(first|((with_reducible first|apply Wp.gs|apply Wp.cs|apply Zc|apply Zg|apply Zd|apply Zi|apply Zn|apply Wp.step);case h=>((try simp(disch:=omega)only[↓reduceIte,Za,↓X0,X1,Nat.reduceEqDiff,Int.reduceEq,Nat.reduceAdd,Nat.reduceSub,X2,Ze,Nat.reduceLeDiff,s3,s2,s1,hx,and_self,hp.len,hw2,show ¬ (3000:Int) < (p.length:Int)+2 by omega,g3,eq_self.{1},hrem,h8,hquo,hvl.len,show (li.length:Int)≤yn / 8 by omega]);with_reducible first|done|exact rfl|exact bT|exact bF))|apply Zf|apply Zj|with_reducible apply Zk|simp only[↓X3]|simp(disch:=decide)only[Zx,Yc,Ya,Zy,Yb,Zz]|with_reducible apply Zb))
  exact fin _ _ (by omega) (by intros;first|with_reducible rfl|simp(disch:=omega)only[Ze,Zh,s3,s2,s1]) (fun h=>h9 (by have:=h.2.2.2.2.2.1; rw [hy] at this; exact this))
 have hN:OfOk l li ld p x:=⟨hc,hpp,hx,by rw [hy],by rw [hy]; exact h8,by rw [hy]; exact h9,h3⟩
 ((repeat(first|((with_reducible first|apply Wp.gs|apply Wp.cs|apply Zc|apply Zg|apply Zd|apply Zi|apply Zn|apply Wp.step);case h=>((try simp(disch:=omega)only[↓reduceIte,Za,↓X0,X1,Nat.reduceEqDiff,Int.reduceEq,Nat.reduceAdd,Nat.reduceSub,X2,Ze,Nat.reduceLeDiff,s3,s2,s1,hx,and_self,hp.len,hw2,show ¬ (3000:Int) < (p.length:Int)+2 by omega,g3,eq_self.{1},hrem,h8,hquo,hvl.len,show ¬ (li.length:Int)≤yn / 8 by omega]);with_reducible first|done|exact rfl|exact bT|exact bF))|apply Zf|apply Zj|with_reducible apply Zk|simp only[↓X3]|simp(disch:=decide)only[Zx,Yc,Ya,Zy,Yb,Zz]|with_reducible apply Zb));try(with_reducible apply Zm;case h=>((try simp(disch:=omega)only[X1,Nat.reduceEqDiff,s3,s2,s1,hx,and_self,hp.len,hw2,show ¬ (3000:Int) < (p.length:Int)+2 by omega,g3,eq_self.{1},hrem,h8,hquo,hvl.len,show ¬ (li.length:Int)≤yn / 8 by omega]);with_reducible exact rfl)))
 refine Wp.rtn (k50 (hp.mv (by omega) (by intros;first|with_reducible rfl|simp(disch:=omega)only[Ze,Zh,s3,s2,s1])) (by omega)) ?_
 rintro _ H5 n5 q5 s5 ⟨u,rfl,id,i1,i2,i3⟩
 ((repeat(first|((with_reducible first|apply Wp.gs|apply Wp.cs|apply Zc|apply Zg|apply Zd|apply Zi|apply Zn|apply Wp.step);case h=>((try simp(disch:=omega)only[↓reduceIte,Za,↓X0,X1,Nat.reduceEqDiff,Int.reduceEq,Nat.reduceAdd,Nat.reduceSub,X2,Ze,Nat.reduceLeDiff,s5,s3,s2,s1]);with_reducible first|done|exact rfl|exact bT|exact bF))|apply Zf|apply Zj|with_reducible apply Zk|simp only[↓X3]|simp(disch:=decide)only[Zx,Yc,Ya,Zy,Yb,Zz]|with_reducible apply Zb));try(with_reducible apply Zm;case h=>((try simp(disch:=omega)only[X1,Nat.reduceEqDiff,s5,s3,s2,s1]);with_reducible exact rfl)))
 refine Wp.rta (k41 (c:=n3+25+2) (o:=0) (id:=id) (e:=0) (cs:=[u]) (v:=u) (l:=p) ⟨(by intros;first|with_reducible rfl|simp(disch:=omega)only[Ze,Zh]),rfl,i3.mv (by intros;first|with_reducible rfl|simp(disch:=omega)only[Ze,Zh]),by omega,by omega,by omega⟩ (by omega) ⟨1,0,⟨#[]⟩,0,0⟩) ?_
 rintro _ H6 n6 q6 s6 ⟨rfl,v6,id6,i6,hPC⟩
 have d6:H6 (n3+5)=some (.row [.int .i64 6,.int .i64 yn,.string ys,.int .i64 ya,.int .i64 yb] 0 true):=by simp (disch:=omega) only [s6,s5,Ze,Zh]
 ((repeat(first|((with_reducible first|apply Wp.gs|apply Wp.cs|apply Zc|apply Zg|apply Zd|apply Zi|apply Zn|apply Wp.step);case h=>((try simp(disch:=omega)only[↓reduceIte,Za,↓X0,X1,Nat.reduceEqDiff,Int.reduceEq,Nat.reduceAdd,Nat.reduceSub,X2,Ze,Nat.reduceLeDiff,d6]);with_reducible first|done|exact rfl|exact bT|exact bF))|apply Zf|apply Zj|with_reducible apply Zk|simp only[↓X3]|simp(disch:=decide)only[Zx,Yc,Ya,Zy,Yb,Zz]|with_reducible apply Zb));try(with_reducible apply Zm;case h=>((try simp(disch:=omega)only[X1,Nat.reduceEqDiff,d6]);with_reducible exact rfl)))
 refine Wp.rta (k41 (hPC.mv (by omega) rfl rfl) (by simp; omega) ⟨5,0,⟨#[]⟩,p.length,ya⟩) ?_
 rintro _ H8 n8 q8 s8 ⟨rfl,v8,id8,i8,hPC8⟩
 have c8:H8 (n3+25+2)=some (.row [v8] 0 true):=hPC8.hc
 have d8:H8 (n3+5)=some (.row [.int .i64 6,.int .i64 yn,.string ys,.int .i64 ya,.int .i64 yb] 0 true):=by simp (disch:=omega) only [s8,d6]
 have m8:H8 (n+2)=some (.row [nilS,.int .i64 0,.int .i64 0,.int .i64 0,.int .i64 0,.int .i64 0,.int .i64 0,.int .i64 0] 0 true):=by simp (disch:=omega) only [s8,s6,s5,s3,s2,s1,Ze,Zh]
 have s8n:∀ i,i < n→H8 i=H i:=(by intros;first|with_reducible rfl|simp(disch:=omega)only[Ze,Zh,s8,s6,s5,s3,s2,s1])
 have hl1:((p++[(⟨1,0,⟨#[]⟩,0,0⟩:Nd)]).length:Int)=(p.length:Int)+1:=by simp
 (repeat(first|((with_reducible first|apply Wp.gs|apply Wp.cs|apply Zc|apply Zg|apply Zd|apply Zi|apply Zn|apply Wp.step);case h=>((try simp(disch:=omega)only[↓reduceIte,Za,↓X0,X1,Nat.reduceEqDiff,Int.reduceEq,Nat.reduceAdd,Nat.reduceSub,X2,Ze,Nat.reduceLeDiff,c8,d8,m8,hl1,hquo]);with_reducible first|done|exact rfl|exact bT|exact bF))|apply Zf|apply Zj|with_reducible apply Zk|simp only[↓X3]|simp(disch:=decide)only[Zx,Yc,Ya,Zy,Yb,Zz]|with_reducible apply Zb))
 refine Wp.pure ⟨by simp only; omega,(by intros;first|with_reducible rfl|simp(disch:=omega)only[Ze,Zh,s8n]),v8,?_,?_⟩
 ·simp only [ofA,ofS,ofE,if_pos hN,decide_eq_true hN,hy]
 ·simp only [ofP,if_pos hN,hy]; exact ⟨id8,by omega,by have:=hPC8.idn; omega,hPC8.at_.mv (by intros;first|with_reducible rfl|simp(disch:=omega)only[Ze,Zh])⟩
end Go.Proofs.Ytbgkimkbngocjaa.Ax
set_option linter.unusedVariables false
set_option linter.unusedSimpArgs false
set_option maxHeartbeats 4000000
namespace Go.Proofs.Ytbgkimkbngocjaa.Ax
open Go
theorem MachOk.new {l:List Nd} {li:List Ins} {ld:List Df} {s:ByteArray} (h:NewOk l li ld s):MachOk l li ld (newM l li ld s) (newA l li ld s) 0 (newE l li ld s) 0 0 0 0:=by
 unfold newM newA newE
 rw [if_pos h,if_pos h,if_pos h]
 obtain ⟨h1,h2,h3⟩:=h
 have hr:=defOf_rng ld s
 obtain ⟨-,-,-,-,h5⟩:=id h1
 have hd:=h5 (defOf ld s).toNat (by omega)
 rw [DfOk,show (((defOf ld s).toNat:Nat):Int)=defOf ld s by omega] at hd
 obtain ⟨-,-,d3,-⟩:=hd
 exact ⟨h1,by decide +kernel,by decide,by decide,by decide,.inl ⟨rfl,d3,rfl,rfl⟩⟩
theorem MachOk.of {l:List Nd} {li:List Ins} {ld:List Df} {p:List Nd} {x:Int} (h:OfOk l li ld p x):MachOk l li ld (ofP l li ld p x) (ofA l li ld p x) (ofS l li ld p x) (ofE l li ld p x) (ofS l li ld p x) 0 0 0:=by
 unfold ofP ofA ofS ofE
 rw [if_pos h,if_pos h,if_pos h,if_pos h]
 obtain ⟨h1,h2,h3,h4,h5,h6,h7⟩:=h
 have hx:=h2.at h3.1 h3.2
 have hn:=hx.six h4
 have ha:=hx.one (.inl h4)
 have hlen:((p++[(⟨1,0,⟨#[]⟩,0,0⟩:Nd)]++[(⟨5,0,⟨#[]⟩,(p.length:Int),(gi p x).a⟩:Nd)]).length:Int)=p.length+2:=by simp
 refine ⟨h1,⟨?_,by omega⟩,by omega,by omega,by omega,.inl ⟨rfl,by omega,rfl,rfl⟩⟩
 rw [NodesOk_app,NodesOk_app]
 refine ⟨⟨h2.1,?_,trivial⟩,?_,trivial⟩
 ·exact .inl ⟨rfl,rfl,rfl,rfl,rfl⟩
 ·refine .inr (.inr (.inr (.inr (.inl ⟨rfl,rfl,rfl,?_,?_⟩))))
  ·simp
  ·simp; omega
theorem k19 {n:Nat} {H:Hp} {v:Value} {code:List Int} (hv:Li eByte n H v code) (hb:∀ x∈code,0≤x∧x≤255) (hl:code.length≤1048576):RtN Try.prog 19 [v] H n (fun r H' n'=>∃ u ul ud w p y,r=.tuple ⟨[.agg ⟨[u,ul,ud]⟩,.agg ⟨[w]⟩,.int .i64 y]⟩∧DrawnC n n' H' u ul ud∧New eNode n n' H' w p∧(∀ x∈p,x.s.size≤1048576)∧p.length≤4000):=by
 apply RtN.mk
 rw [c19]; unfold S19
 ((repeat(first|((with_reducible first|apply Wp.gs|apply Wp.cs|apply Zc|apply Zg|apply Zd|apply Zi|apply Zn|apply Wp.step);case h=>((try simp(disch:=omega)only[↓reduceIte,Za,↓X0,X1,Nat.reduceEqDiff,Int.reduceEq,Nat.reduceAdd,Nat.reduceSub,X2,Ze,Nat.reduceLeDiff]);with_reducible first|done|exact rfl|exact bT|exact bF))|apply Zf|apply Zj|with_reducible apply Zk|simp only[↓X3]|with_reducible apply Zb));try(with_reducible apply Zm;case h=>((try simp(disch:=omega)only[X1,Nat.reduceEqDiff]);with_reducible exact rfl)))
 refine Wp.rnew (k33 (hv.mv (by omega) (by intros;first|with_reducible rfl|simp(disch:=omega)only[Ze,Zh])) hb hl) ?_
 intro c H1 n1 hc1 hcn s1 c1
 ((repeat(first|((with_reducible first|apply Wp.gs|apply Wp.cs|apply Zc|apply Zg|apply Zd|apply Zi|apply Zn|apply Wp.step);case h=>((try simp(disch:=omega)only[↓reduceIte,Za,↓X0,X1,Nat.reduceEqDiff,Int.reduceEq,Nat.reduceAdd,Nat.reduceSub]);with_reducible first|done|exact rfl|exact bT|exact bF))|apply Zf|apply Zj|with_reducible apply Zk|simp only[↓X3]|with_reducible apply Zb));try(with_reducible apply Zm;case h=>((try simp(disch:=omega)only[X1,Nat.reduceEqDiff]);with_reducible exact rfl)))
 refine Yh (k57 (c1.up (by omega))) ?_
 rintro _ H2 n2 q2 s2 c2 ⟨u,ul,ud,rfl,hD⟩
 have hc2:=c2.1
 ((repeat(first|((with_reducible first|apply Wp.gs|apply Wp.cs|apply Zc|apply Zg|apply Zd|apply Zi|apply Zn|apply Wp.step);case h=>((try simp(disch:=omega)only[↓reduceIte,Za,↓X0,X1,Nat.reduceEqDiff,Int.reduceEq,Nat.reduceAdd,Nat.reduceSub,X2,Ze,Nat.reduceLeDiff]);with_reducible first|done|exact rfl|exact bT|exact bF))|apply Zf|apply Zj|with_reducible apply Zk|simp only[↓X3]|with_reducible apply Zb));try(with_reducible apply Zm;case h=>((try simp(disch:=omega)only[X1,Nat.reduceEqDiff]);with_reducible exact rfl)))
 refine Yh (k39 (c2.mv (by omega) (fun i hi=>Ze _ _ (by omega)))) ?_
 rintro _ H3 n3 q3 s3 c3 ⟨w,p,rfl,hsh,hp1,k,k1,k2,k3⟩
 ((repeat(first|((with_reducible first|apply Wp.gs|apply Wp.cs|apply Zc|apply Zg|apply Zd|apply Zi|apply Zn|apply Wp.step);case h=>((try simp(disch:=omega)only[↓reduceIte,Za,↓X0,X1,Nat.reduceEqDiff,Int.reduceEq,Nat.reduceAdd,Nat.reduceSub,X2,Ze,Nat.reduceLeDiff]);with_reducible first|done|exact rfl|exact bT|exact bF))|apply Zf|apply Zj|with_reducible apply Zk|simp only[↓X3]|with_reducible apply Zb));try(with_reducible apply Zm;case h=>((try simp(disch:=omega)only[X1,Nat.reduceEqDiff]);with_reducible exact rfl)))
 obtain ⟨M,hM⟩:∃ M,M=H3.set (n2+2) (some (.row [w] 0 true)):=⟨_,rfl⟩
 rw [← hM]
 have cM:Cu c n3 M:=c3.mv (Nat.le_refl _) (fun i hi=>by rw [hM]; exact Ze _ _ (by omega))
 have hwM:At eNode k M w p:=k3.mv (by rw [hM]; exact Ze _ _ (by omega))
 have vw:Li eNode n3 M w p:=hwM.lst k2
 have hz:∀ x∈p,x.s.size≤1048576:=fun x hx=>by have:=hsh x hx; omega
 have b1:M (n1+2)=some (.row [u,ul,ud] 0 true):=by rw [hM]; simp (disch:=omega) only [Ze,Zh,s3]
 have b2:M (n2+2)=some (.row [w] 0 true):=by rw [hM,Zh]
 have b3:M n=some (.row [nilS,nilS,nilS] 0 true):=by rw [hM]; simp (disch:=omega) only [Ze,Zh,s3,s2,s1]
 have b4:M (n+1)=some (.row [nilS] 0 true):=by rw [hM]; simp (disch:=omega) only [Ze,Zh,s3,s2,s1]
 have hlo:∀ i,i < n→M i=H i:=fun i hi=>by rw [hM]; simp (disch:=omega) only [Ze,Zh,s3,s2,s1]
 have hDM:DrawnC (n1+4) n2 M u ul ud:=hD.mv (Nat.le_refl _) (Nat.le_refl _) (fun i h1 h2=>by rw [hM]; simp (disch:=omega) only [Ze,s3])
 refine Wp.rt (k48 (vw.mv (by omega) (fun _ _=>rfl)) hz (by omega)) ?_
 intro H4 n4 q4 s4
 have vw4:=(vw.mv (H':=H4) (m:=n4) (by omega) (fun i hi=>s4 i (by omega))).len
 have b2':H4 (n2+2)=some (.row [w] 0 true):=by rw [s4 _ (by omega)]; exact b2
 have no:∀ (H5:Hp) (n5:Nat),n3≤n5→(∀ i,i < n3→i≠c→H5 i=M i)→Cu c n5 H5→True:=fun _ _ _ _ _=>trivial
 by_cases hp:PoolOk p
 ·by_cases h0:0 < p.length
  ·have h0i:(0:Int) < (p.length:Int):=by omega
   by_cases h40:p.length < 40
   ·have h40i:(p.length:Int) < 40:=by omega
    ((repeat(first|((with_reducible first|apply Wp.gs|apply Wp.cs|apply Zc|apply Zg|apply Zd|apply Zi|apply Zn|apply Wp.step);case h=>((try simp(disch:=omega)only[↓reduceIte,Za,↓X0,X1,Nat.reduceEqDiff,Int.reduceEq,Nat.reduceAdd,Nat.reduceSub,X2,Ze,Nat.reduceLeDiff,hp,b2',vw4,h0i,h40i]);with_reducible first|done|exact rfl|exact bT|exact bF))|apply Zf|apply Zj|with_reducible apply Zk|simp only[↓X3]|with_reducible apply Zb));try(with_reducible apply Zm;case h=>((try simp(disch:=omega)only[X1,Nat.reduceEqDiff,hp,b2',vw4,h0i,h40i]);with_reducible exact rfl)))
    refine Yh (k35 (cM.mv (by omega) (fun i hi=>s4 i (by omega))) 4) ?_
    rintro _ H5 n5 q5 s5 c5 ⟨b,rfl⟩
    cases b with
    | false =>
     have hS:∀ i,i < n3→i≠c→H5 i=M i:=fun i h1 h2=>by rw [s5 _ (by omega) h2,s4 _ (by omega)]
     obtain ⟨l,li,dl,⟨x1,x2,x3,d1,d2,d3,y1,y2,y3,y4,y5,y6,o1,o2,o3⟩,hB⟩:=id hDM
     have hlu:=(o2.lst y4).len
     have hli:=hB.b2
     have e1:H5 (n1+2)=some (.row [u,ul,ud] 0 true):=by rw [hS _ (by omega) (by omega)]; exact b1
     have e2:H5 (n2+2)=some (.row [w] 0 true):=by rw [hS _ (by omega) (by omega)]; exact b2
     have w1:IntKind.i64.wrap (8 * (li.length:Int))=8 * (li.length:Int):=w64 (by omega)
     have vw5:=vw.len
     ((repeat(first|((with_reducible first|apply Wp.gs|apply Wp.cs|apply Zc|apply Zg|apply Zd|apply Zi|apply Zn|apply Wp.step);case h=>((try simp(disch:=omega)only[↓reduceIte,Za,↓X0,X1,Nat.reduceEqDiff,Int.reduceEq,Nat.reduceAdd,Nat.reduceSub,X2,Ze,Nat.reduceLeDiff,e1,hlu,w1]);with_reducible first|done|exact rfl|exact bT|exact bF))|apply Zf|apply Zj|with_reducible apply Zk|simp only[↓X3]|with_reducible apply Zb));try(with_reducible apply Zm;case h=>((try simp(disch:=omega)only[X1,Nat.reduceEqDiff,e1,hlu,w1]);with_reducible exact rfl)))
     refine Wp.bslN eInt [0,8,16,9,8 * (li.length:Int)] (by decide) rfl rfl ?_
     ((repeat(first|((with_reducible first|apply Wp.gs|apply Wp.cs|apply Zc|apply Zg|apply Zd|apply Zi|apply Zn|apply Wp.step);case h=>((try simp(disch:=omega)only[↓reduceIte,Za,↓X0,X1,Nat.reduceEqDiff,Int.reduceEq,Nat.reduceAdd,Nat.reduceSub]);with_reducible first|done|exact rfl|exact bT|exact bF))|apply Zf|apply Zj|with_reducible apply Zk|simp only[↓X3]|with_reducible apply Zb));try(with_reducible apply Zm;case h=>((try simp(disch:=omega)only[X1,Nat.reduceEqDiff]);with_reducible exact rfl)))
     refine Yh (k62 (c5.mv (by omega) (fun i hi=>Ze _ _ (by have:=c5.1; omega))) ((At.of rfl (Zh _ _ _)).lst (by omega)) (Off.sl (by have:=c5.1; omega)) (by simp)) ?_
     rintro _ H6 n6 q6 s6 c6 ⟨a,rfl,-⟩
     have e6:H6 (n2+2)=some (.row [w] 0 true):=by rw [s6 _ (by omega) (by omega),Ze _ _ (by omega)]; exact e2
     ((repeat(first|((with_reducible first|apply Wp.gs|apply Wp.cs|apply Zc|apply Zg|apply Zd|apply Zi|apply Zn|apply Wp.step);case h=>((try simp(disch:=omega)only[↓reduceIte,Za,↓X0,X1,Nat.reduceEqDiff,Int.reduceEq,Nat.reduceAdd,Nat.reduceSub,X2,Ze,Nat.reduceLeDiff,e6,e2,vw5]);with_reducible first|done|exact rfl|exact bT|exact bF))|apply Zf|apply Zj|with_reducible apply Zk|simp only[↓X3]|with_reducible apply Zb));try(with_reducible apply Zm;case h=>((try simp(disch:=omega)only[X1,Nat.reduceEqDiff,e6,e2,vw5]);with_reducible exact rfl)))
     refine Yh (k38 (c6.up (by omega)) _) ?_
     rintro _ H7 n7 q7 s7 c7 ⟨b,rfl,-,-⟩
     have hS7:∀ i,i < n3→i≠c→H7 i=M i:=fun i h1 h2=>by rw [s7 _ (by omega) h2,s6 _ (by omega) h2,Ze _ _ (by omega),hS _ h1 h2]
     ((repeat(first|((with_reducible first|apply Wp.gs|apply Wp.cs|apply Zc|apply Zg|apply Zd|apply Zi|apply Zn|apply Wp.step);case h=>((try simp(disch:=omega)only[↓reduceIte,Za,↓X0,X1,Nat.reduceEqDiff,Int.reduceEq,Nat.reduceAdd,Nat.reduceSub,X2,Ze,Nat.reduceLeDiff]);with_reducible first|done|exact rfl|exact bT|exact bF))|apply Zf|apply Zj|with_reducible apply Zk|simp only[↓X3]|with_reducible apply Zb));try(with_reducible apply Zm;case h=>((try simp(disch:=omega)only[X1,Nat.reduceEqDiff]);with_reducible exact rfl)))
     refine Wp.rta (k41 (c:=n2+2) (o:=0) (id:=k) (cs:=[w]) (e:=0) (v:=w) (l:=p) ⟨by rw [hS7 _ (by omega) (by omega)]; exact b2,rfl,hwM.mv (hS7 _ (by omega) (by omega)),by omega,by omega,by omega⟩ (by omega) ⟨6,a,⟨#[]⟩,b,0⟩) ?_
     rintro _ H9 n9 q9 s9 ⟨rfl,w9,k9,j1,j2⟩
     simp only [List.set_cons_zero] at j2
     have hS9:∀ i,i < n3→i≠c→i≠n2+2→i≠k→H9 i=M i:=fun i h1 h2 h3 h4=>by rw [s9 _ (by omega) h3 h4,hS7 _ h1 h2]
     have g1:H9 (n1+2)=some (.row [u,ul,ud] 0 true):=by rw [hS9 _ (by omega) (by omega) (by omega) (by omega)]; exact b1
     have g2:=j2.hc
     have g3:H9 n=some (.row [nilS,nilS,nilS] 0 true):=by rw [hS9 _ (by omega) (by omega) (by omega) (by omega)]; exact b3
     have g4:H9 (n+1)=some (.row [nilS] 0 true):=by rw [hS9 _ (by omega) (by omega) (by omega) (by omega)]; exact b4
     have j3:=j2.idn
     (repeat(first|((with_reducible first|apply Wp.gs|apply Wp.cs|apply Zc|apply Zg|apply Zd|apply Zi|apply Zn|apply Wp.step);case h=>((try simp(disch:=omega)only[↓reduceIte,Za,↓X0,X1,Nat.reduceEqDiff,Int.reduceEq,Nat.reduceAdd,Nat.reduceSub,X2,Ze,Nat.reduceLeDiff,g1,g2,g3,g4]);with_reducible first|done|exact rfl|exact bT|exact bF))|apply Zf|apply Zj|with_reducible apply Zk|simp only[↓X3]|with_reducible apply Zb))
     refine Wp.pure ⟨by simp only; omega,fun i hi=>by simp (disch:=omega) only [Ze,hS9,hlo],u,ul,ud,w9,p++[⟨6,a,⟨#[]⟩,b,0⟩],_,rfl,hDM.mv (by omega) (by simp only; omega) (fun i h1 h2=>?_),⟨k9,by omega,by simp only; omega,j2.at_.mv (by simp (disch:=omega) only [Ze])⟩,fun x hx=>?_,by simp; omega⟩
     ·have hin:i≠n+1∧i≠n:=by omega
      simp (disch:=omega) only [Ze,hS9]
     ·rcases List.mem_append.1 hx with h | h
      ·exact hz x h
      ·simp only [List.mem_cons,List.not_mem_nil,or_false] at h
       rw [h]; exact Nat.zero_le _
    | true =>
     have hS:∀ i,i < n3→i≠c→H5 i=M i:=fun i h1 h2=>by rw [s5 _ (by omega) h2,s4 _ (by omega)]
     have hw5:At eNode k H5 w p:=hwM.mv (hS _ (by omega) (by omega))
     have e1:H5 (n1+2)=some (.row [u,ul,ud] 0 true):=by rw [hS _ (by omega) (by omega)]; exact b1
     have e2:H5 (n2+2)=some (.row [w] 0 true):=by rw [hS _ (by omega) (by omega)]; exact b2
     ((repeat(first|((with_reducible first|apply Wp.gs|apply Wp.cs|apply Zc|apply Zg|apply Zd|apply Zi|apply Zn|apply Wp.step);case h=>((try simp(disch:=omega)only[↓reduceIte,Za,↓X0,X1,Nat.reduceEqDiff,Int.reduceEq,Nat.reduceAdd,Nat.reduceSub,X2,Ze,Nat.reduceLeDiff,e1,e2]);with_reducible first|done|exact rfl|exact bT|exact bF))|apply Zf|apply Zj|with_reducible apply Zk|simp only[↓X3]|with_reducible apply Zb));try(with_reducible apply Zm;case h=>((try simp(disch:=omega)only[X1,Nat.reduceEqDiff,e1,e2]);with_reducible exact rfl)))
     refine Yh (k40 (c5.up (by omega)) ((hw5.lst (by omega)).mv (m:=n5+8) (by omega) (fun _ _=>rfl)) (hw5.off (by omega)) (by omega)) ?_
     rintro _ H9 n9 q9 s9 c9 ⟨y,rfl⟩
     have hS9:∀ i,i < n3→i≠c→H9 i=M i:=fun i h1 h2=>by rw [s9 _ (by omega) h2,hS _ h1 h2]
     have g1:H9 (n1+2)=some (.row [u,ul,ud] 0 true):=by rw [hS9 _ (by omega) (by omega)]; exact b1
     have g2:H9 (n2+2)=some (.row [w] 0 true):=by rw [hS9 _ (by omega) (by omega)]; exact b2
     have g3:H9 n=some (.row [nilS,nilS,nilS] 0 true):=by rw [hS9 _ (by omega) (by omega)]; exact b3
     have g4:H9 (n+1)=some (.row [nilS] 0 true):=by rw [hS9 _ (by omega) (by omega)]; exact b4
     (repeat(first|((with_reducible first|apply Wp.gs|apply Wp.cs|apply Zc|apply Zg|apply Zd|apply Zi|apply Zn|apply Wp.step);case h=>((try simp(disch:=omega)only[↓reduceIte,Za,↓X0,X1,Nat.reduceEqDiff,Int.reduceEq,Nat.reduceAdd,Nat.reduceSub,X2,Ze,Nat.reduceLeDiff,g1,g2,g3,g4]);with_reducible first|done|exact rfl|exact bT|exact bF))|apply Zf|apply Zj|with_reducible apply Zk|simp only[↓X3]|with_reducible apply Zb))
     exact Wp.pure ⟨by simp only; omega,fun i hi=>by simp (disch:=omega) only [Ze,hS9,hlo],u,ul,ud,w,p,y,rfl,hDM.mv (by omega) (by simp only; omega) (fun i h1 h2=>by simp (disch:=omega) only [Ze,hS9]),⟨k,by omega,by simp only; omega,hwM.mv (by simp (disch:=omega) only [Ze,hS9])⟩,hz,by omega⟩
   ·have h40i:¬ (p.length:Int) < 40:=by omega
    ((repeat(first|((with_reducible first|apply Wp.gs|apply Wp.cs|apply Zc|apply Zg|apply Zd|apply Zi|apply Zn|apply Wp.step);case h=>((try simp(disch:=omega)only[↓reduceIte,Za,↓X0,X1,Nat.reduceEqDiff,Int.reduceEq,Nat.reduceAdd,Nat.reduceSub,X2,Ze,Nat.reduceLeDiff,hp,b2',vw4,h0i,h40i]);with_reducible first|done|exact rfl|exact bT|exact bF))|apply Zf|apply Zj|with_reducible apply Zk|simp only[↓X3]|with_reducible apply Zb));try(with_reducible apply Zm;case h=>((try simp(disch:=omega)only[X1,Nat.reduceEqDiff,hp,b2',vw4,h0i,h40i]);with_reducible exact rfl)))
    obtain ⟨H5,hH5⟩:∃ H5,H5=H4:=⟨_,rfl⟩
    obtain ⟨n5,hn5⟩:∃ n5,n5=n4:=⟨_,rfl⟩
    rw [← hH5,← hn5]
    have q5:n4≤n5:=by omega
    have s5:∀ i,i < n4→i≠c→H5 i=H4 i:=fun i _ _=>by rw [hH5]
    have c5:Cu c n5 H5:=by rw [hH5]; exact cM.mv (by omega) (fun i hi=>s4 i (by omega))
    have hS:∀ i,i < n3→i≠c→H5 i=M i:=fun i h1 h2=>by rw [s5 _ (by omega) h2,s4 _ (by omega)]
    have hw5:At eNode k H5 w p:=hwM.mv (hS _ (by omega) (by omega))
    have e1:H5 (n1+2)=some (.row [u,ul,ud] 0 true):=by rw [hS _ (by omega) (by omega)]; exact b1
    have e2:H5 (n2+2)=some (.row [w] 0 true):=by rw [hS _ (by omega) (by omega)]; exact b2
    ((repeat(first|((with_reducible first|apply Wp.gs|apply Wp.cs|apply Zc|apply Zg|apply Zd|apply Zi|apply Zn|apply Wp.step);case h=>((try simp(disch:=omega)only[↓reduceIte,Za,↓X0,X1,Nat.reduceEqDiff,Int.reduceEq,Nat.reduceAdd,Nat.reduceSub,X2,Ze,Nat.reduceLeDiff,e1,e2]);with_reducible first|done|exact rfl|exact bT|exact bF))|apply Zf|apply Zj|with_reducible apply Zk|simp only[↓X3]|with_reducible apply Zb));try(with_reducible apply Zm;case h=>((try simp(disch:=omega)only[X1,Nat.reduceEqDiff,e1,e2]);with_reducible exact rfl)))
    refine Yh (k40 (c5.up (by omega)) ((hw5.lst (by omega)).mv (m:=n5+8) (by omega) (fun _ _=>rfl)) (hw5.off (by omega)) (by omega)) ?_
    rintro _ H9 n9 q9 s9 c9 ⟨y,rfl⟩
    have hS9:∀ i,i < n3→i≠c→H9 i=M i:=fun i h1 h2=>by rw [s9 _ (by omega) h2,hS _ h1 h2]
    have g1:H9 (n1+2)=some (.row [u,ul,ud] 0 true):=by rw [hS9 _ (by omega) (by omega)]; exact b1
    have g2:H9 (n2+2)=some (.row [w] 0 true):=by rw [hS9 _ (by omega) (by omega)]; exact b2
    have g3:H9 n=some (.row [nilS,nilS,nilS] 0 true):=by rw [hS9 _ (by omega) (by omega)]; exact b3
    have g4:H9 (n+1)=some (.row [nilS] 0 true):=by rw [hS9 _ (by omega) (by omega)]; exact b4
    (repeat(first|((with_reducible first|apply Wp.gs|apply Wp.cs|apply Zc|apply Zg|apply Zd|apply Zi|apply Zn|apply Wp.step);case h=>((try simp(disch:=omega)only[↓reduceIte,Za,↓X0,X1,Nat.reduceEqDiff,Int.reduceEq,Nat.reduceAdd,Nat.reduceSub,X2,Ze,Nat.reduceLeDiff,g1,g2,g3,g4]);with_reducible first|done|exact rfl|exact bT|exact bF))|apply Zf|apply Zj|with_reducible apply Zk|simp only[↓X3]|with_reducible apply Zb))
    exact Wp.pure ⟨by simp only; omega,fun i hi=>by simp (disch:=omega) only [Ze,hS9,hlo],u,ul,ud,w,p,y,rfl,hDM.mv (by omega) (by simp only; omega) (fun i h1 h2=>by simp (disch:=omega) only [Ze,hS9]),⟨k,by omega,by simp only; omega,hwM.mv (by simp (disch:=omega) only [Ze,hS9])⟩,hz,by omega⟩
  ·have h0i:¬ (0:Int) < (p.length:Int):=by omega
   ((repeat(first|((with_reducible first|apply Wp.gs|apply Wp.cs|apply Zc|apply Zg|apply Zd|apply Zi|apply Zn|apply Wp.step);case h=>((try simp(disch:=omega)only[↓reduceIte,Za,↓X0,X1,Nat.reduceEqDiff,Int.reduceEq,Nat.reduceAdd,Nat.reduceSub,X2,Ze,Nat.reduceLeDiff,hp,b2',vw4,h0i]);with_reducible first|done|exact rfl|exact bT|exact bF))|apply Zf|apply Zj|with_reducible apply Zk|simp only[↓X3]|with_reducible apply Zb));try(with_reducible apply Zm;case h=>((try simp(disch:=omega)only[X1,Nat.reduceEqDiff,hp,b2',vw4,h0i]);with_reducible exact rfl)))
   obtain ⟨H5,hH5⟩:∃ H5,H5=H4:=⟨_,rfl⟩
   obtain ⟨n5,hn5⟩:∃ n5,n5=n4:=⟨_,rfl⟩
   rw [← hH5,← hn5]
   have q5:n4≤n5:=by omega
   have s5:∀ i,i < n4→i≠c→H5 i=H4 i:=fun i _ _=>by rw [hH5]
   have c5:Cu c n5 H5:=by rw [hH5]; exact cM.mv (by omega) (fun i hi=>s4 i (by omega))
   have hS:∀ i,i < n3→i≠c→H5 i=M i:=fun i h1 h2=>by rw [s5 _ (by omega) h2,s4 _ (by omega)]
   have hw5:At eNode k H5 w p:=hwM.mv (hS _ (by omega) (by omega))
   have e1:H5 (n1+2)=some (.row [u,ul,ud] 0 true):=by rw [hS _ (by omega) (by omega)]; exact b1
   have e2:H5 (n2+2)=some (.row [w] 0 true):=by rw [hS _ (by omega) (by omega)]; exact b2
   ((repeat(first|((with_reducible first|apply Wp.gs|apply Wp.cs|apply Zc|apply Zg|apply Zd|apply Zi|apply Zn|apply Wp.step);case h=>((try simp(disch:=omega)only[↓reduceIte,Za,↓X0,X1,Nat.reduceEqDiff,Int.reduceEq,Nat.reduceAdd,Nat.reduceSub,X2,Ze,Nat.reduceLeDiff,e1,e2]);with_reducible first|done|exact rfl|exact bT|exact bF))|apply Zf|apply Zj|with_reducible apply Zk|simp only[↓X3]|with_reducible apply Zb));try(with_reducible apply Zm;case h=>((try simp(disch:=omega)only[X1,Nat.reduceEqDiff,e1,e2]);with_reducible exact rfl)))
   refine Yh (k40 (c5.up (by omega)) ((hw5.lst (by omega)).mv (m:=n5+8) (by omega) (fun _ _=>rfl)) (hw5.off (by omega)) (by omega)) ?_
   rintro _ H9 n9 q9 s9 c9 ⟨y,rfl⟩
   have hS9:∀ i,i < n3→i≠c→H9 i=M i:=fun i h1 h2=>by rw [s9 _ (by omega) h2,hS _ h1 h2]
   have g1:H9 (n1+2)=some (.row [u,ul,ud] 0 true):=by rw [hS9 _ (by omega) (by omega)]; exact b1
   have g2:H9 (n2+2)=some (.row [w] 0 true):=by rw [hS9 _ (by omega) (by omega)]; exact b2
   have g3:H9 n=some (.row [nilS,nilS,nilS] 0 true):=by rw [hS9 _ (by omega) (by omega)]; exact b3
   have g4:H9 (n+1)=some (.row [nilS] 0 true):=by rw [hS9 _ (by omega) (by omega)]; exact b4
   (repeat(first|((with_reducible first|apply Wp.gs|apply Wp.cs|apply Zc|apply Zg|apply Zd|apply Zi|apply Zn|apply Wp.step);case h=>((try simp(disch:=omega)only[↓reduceIte,Za,↓X0,X1,Nat.reduceEqDiff,Int.reduceEq,Nat.reduceAdd,Nat.reduceSub,X2,Ze,Nat.reduceLeDiff,g1,g2,g3,g4]);with_reducible first|done|exact rfl|exact bT|exact bF))|apply Zf|apply Zj|with_reducible apply Zk|simp only[↓X3]|with_reducible apply Zb))
   exact Wp.pure ⟨by simp only; omega,fun i hi=>by simp (disch:=omega) only [Ze,hS9,hlo],u,ul,ud,w,p,y,rfl,hDM.mv (by omega) (by simp only; omega) (fun i h1 h2=>by simp (disch:=omega) only [Ze,hS9]),⟨k,by omega,by simp only; omega,hwM.mv (by simp (disch:=omega) only [Ze,hS9])⟩,hz,by omega⟩
 ·((repeat(first|((with_reducible first|apply Wp.gs|apply Wp.cs|apply Zc|apply Zg|apply Zd|apply Zi|apply Zn|apply Wp.step);case h=>((try simp(disch:=omega)only[↓reduceIte,Za,↓X0,X1,Nat.reduceEqDiff,Int.reduceEq,Nat.reduceAdd,Nat.reduceSub,X2,Ze,Nat.reduceLeDiff,hp]);with_reducible first|done|exact rfl|exact bT|exact bF))|apply Zf|apply Zj|with_reducible apply Zk|simp only[↓X3]|with_reducible apply Zb));try(with_reducible apply Zm;case h=>((try simp(disch:=omega)only[X1,Nat.reduceEqDiff,hp]);with_reducible exact rfl)))
  obtain ⟨H5,hH5⟩:∃ H5,H5=H4:=⟨_,rfl⟩
  obtain ⟨n5,hn5⟩:∃ n5,n5=n4:=⟨_,rfl⟩
  rw [← hH5,← hn5]
  have q5:n4≤n5:=by omega
  have s5:∀ i,i < n4→i≠c→H5 i=H4 i:=fun i _ _=>by rw [hH5]
  have c5:Cu c n5 H5:=by rw [hH5]; exact cM.mv (by omega) (fun i hi=>s4 i (by omega))
  have hS:∀ i,i < n3→i≠c→H5 i=M i:=fun i h1 h2=>by rw [s5 _ (by omega) h2,s4 _ (by omega)]
  have hw5:At eNode k H5 w p:=hwM.mv (hS _ (by omega) (by omega))
  have e1:H5 (n1+2)=some (.row [u,ul,ud] 0 true):=by rw [hS _ (by omega) (by omega)]; exact b1
  have e2:H5 (n2+2)=some (.row [w] 0 true):=by rw [hS _ (by omega) (by omega)]; exact b2
  ((repeat(first|((with_reducible first|apply Wp.gs|apply Wp.cs|apply Zc|apply Zg|apply Zd|apply Zi|apply Zn|apply Wp.step);case h=>((try simp(disch:=omega)only[↓reduceIte,Za,↓X0,X1,Nat.reduceEqDiff,Int.reduceEq,Nat.reduceAdd,Nat.reduceSub,X2,Ze,Nat.reduceLeDiff,e1,e2]);with_reducible first|done|exact rfl|exact bT|exact bF))|apply Zf|apply Zj|with_reducible apply Zk|simp only[↓X3]|with_reducible apply Zb));try(with_reducible apply Zm;case h=>((try simp(disch:=omega)only[X1,Nat.reduceEqDiff,e1,e2]);with_reducible exact rfl)))
  refine Yh (k40 (c5.up (by omega)) ((hw5.lst (by omega)).mv (m:=n5+8) (by omega) (fun _ _=>rfl)) (hw5.off (by omega)) (by omega)) ?_
  rintro _ H9 n9 q9 s9 c9 ⟨y,rfl⟩
  have hS9:∀ i,i < n3→i≠c→H9 i=M i:=fun i h1 h2=>by rw [s9 _ (by omega) h2,hS _ h1 h2]
  have g1:H9 (n1+2)=some (.row [u,ul,ud] 0 true):=by rw [hS9 _ (by omega) (by omega)]; exact b1
  have g2:H9 (n2+2)=some (.row [w] 0 true):=by rw [hS9 _ (by omega) (by omega)]; exact b2
  have g3:H9 n=some (.row [nilS,nilS,nilS] 0 true):=by rw [hS9 _ (by omega) (by omega)]; exact b3
  have g4:H9 (n+1)=some (.row [nilS] 0 true):=by rw [hS9 _ (by omega) (by omega)]; exact b4
  (repeat(first|((with_reducible first|apply Wp.gs|apply Wp.cs|apply Zc|apply Zg|apply Zd|apply Zi|apply Zn|apply Wp.step);case h=>((try simp(disch:=omega)only[↓reduceIte,Za,↓X0,X1,Nat.reduceEqDiff,Int.reduceEq,Nat.reduceAdd,Nat.reduceSub,X2,Ze,Nat.reduceLeDiff,g1,g2,g3,g4]);with_reducible first|done|exact rfl|exact bT|exact bF))|apply Zf|apply Zj|with_reducible apply Zk|simp only[↓X3]|with_reducible apply Zb))
  exact Wp.pure ⟨by simp only; omega,fun i hi=>by simp (disch:=omega) only [Ze,hS9,hlo],u,ul,ud,w,p,y,rfl,hDM.mv (by omega) (by simp only; omega) (fun i h1 h2=>by simp (disch:=omega) only [Ze,hS9]),⟨k,by omega,by simp only; omega,hwM.mv (by simp (disch:=omega) only [Ze,hS9])⟩,hz,by omega⟩
end Go.Proofs.Ytbgkimkbngocjaa.Ax
set_option linter.unusedVariables false
set_option linter.unusedSimpArgs false
set_option maxHeartbeats 8000000
namespace Go.Proofs.Ytbgkimkbngocjaa.Ax
open Go
theorem quo8 {x:Int} (h:0≤x∧x≤1000000000):IntKind.i64.wrap (x.tdiv 8)=x / 8:=by
 rw [Int.tdiv_eq_ediv_of_nonneg h.1,w64 (by omega)]
theorem Wp.gv {α β:Type} {v:Value} {l:Array Value} {w:Bool} {A B:Option α} {f:α→Option β} {Q:β→Prop} (h:v=.tuple l) (k:Wp (B.bind f) Q):Wp ((gsel v w A B).bind f) Q:=by subst h; exact k
theorem law5 {v:Value} {code:List Int} {H:Hp} {n:Nat} (hv:Li eByte n H v code) (hb:∀ x∈code,0≤x∧x≤255):∃ H' n',Call Try.prog 5 [v] H n=some (.bool true,H',n'):=by
 rw [c5]; unfold S5
 apply Wp.val
 by_cases hbig:1048576 < code.length
 ·(repeat(first|((with_reducible first|apply Wp.gs|apply Wp.cs|apply Zc|apply Zg|apply Zd|apply Zi|apply Zn|apply Wp.step);case h=>((try simp(disch:=omega)only[↓reduceIte,Za,↓X0,X1,Nat.reduceEqDiff,Int.reduceEq,Nat.reduceAdd,Nat.reduceSub,Zq,k7 (hv.up (show n≤n+3 by omega)),hbig]);with_reducible first|done|exact rfl|exact bT|exact bF))|apply Zf|apply Zj|with_reducible apply Zk|simp only[↓X3]|simp(disch:=decide)only[Zx,Yc,Ya,Zy,Yb,Zz]|with_reducible apply Zb))
  exact Wp.pure rfl
 have hl:code.length≤1048576:=by omega
 ((repeat(first|((with_reducible first|apply Wp.gs|apply Wp.cs|apply Zc|apply Zg|apply Zd|apply Zi|apply Zn|apply Wp.step);case h=>((try simp(disch:=omega)only[↓reduceIte,Za,↓X0,X1,Nat.reduceEqDiff,Int.reduceEq,Nat.reduceAdd,Nat.reduceSub,Zq,k7 (hv.up (show n≤n+3 by omega)),hbig]);with_reducible first|done|exact rfl|exact bT|exact bF))|apply Zf|apply Zj|with_reducible apply Zk|simp only[↓X3]|simp(disch:=decide)only[Zx,Yc,Ya,Zy,Yb,Zz]|with_reducible apply Zb));try(with_reducible apply Zm;case h=>((try simp(disch:=omega)only[X1,Nat.reduceEqDiff,Zq,k7 (hv.up (show n≤n+3 by omega)),hbig]);with_reducible exact rfl)))
 refine Wp.rtn (k16 (hv.mv (by omega) (by intros;first|with_reducible rfl|simp(disch:=omega)only[Ze,Zh])) hb hl) ?_
 rintro _ H1 n1 q1 s1 ⟨u,ul,ud,s,rfl,hs,l,li,ld,⟨i,il,id,d1,d2,d3,a1,a2,b1,b2,c1,c2,o1,o2,o3⟩,⟨z1,z2,z3,k1,k2,k3⟩⟩
 ((repeat(first|((with_reducible first|apply Wp.gs|apply Wp.cs|apply Zc|apply Zg|apply Zd|apply Zi|apply Zn|apply Wp.step);case h=>((try simp(disch:=omega)only[↓reduceIte,Za,↓X0,X1,Nat.reduceEqDiff,Int.reduceEq,Nat.reduceAdd,Nat.reduceSub,X2,Ze,Nat.reduceLeDiff,s1]);with_reducible first|done|exact rfl|exact bT|exact bF))|apply Zf|apply Zj|with_reducible apply Zk|simp only[↓X3]|simp(disch:=decide)only[Zx,Yc,Ya,Zy,Yb,Zz]|with_reducible apply Zb));try(with_reducible apply Zm;case h=>((try simp(disch:=omega)only[X1,Nat.reduceEqDiff,s1]);with_reducible exact rfl)))
 have vn:=(o1.mv (H':=H1.set (n+3+5+5) (some (.row [u,ul,ud] 0 true))) (Ze _ _ (by omega))).lst a2
 have vl:=(o2.mv (H':=H1.set (n+3+5+5) (some (.row [u,ul,ud] 0 true))) (Ze _ _ (by omega))).lst b2
 have vd:=(o3.mv (H':=H1.set (n+3+5+5) (some (.row [u,ul,ud] 0 true))) (Ze _ _ (by omega))).lst c2
 refine Wp.rtn (k17 (vn.mv (by omega) (fun _ _=>rfl)) (vl.mv (by omega) (fun _ _=>rfl)) (vd.mv (by omega) (fun _ _=>rfl)) z1 z2 z3 (by omega) (by omega) (by omega) s) ?_
 rintro _ H2 n2 q2 s2 ⟨mu,rfl,im,im1,im2,om⟩
 ((repeat(first|((with_reducible first|apply Wp.gs|apply Wp.cs|apply Zc|apply Zg|apply Zd|apply Zi|apply Zn|apply Wp.step);case h=>((try simp(disch:=omega)only[↓reduceIte,Za,↓X0,X1,Nat.reduceEqDiff,Int.reduceEq,Nat.reduceAdd,Nat.reduceSub,X2,Ze,Nat.reduceLeDiff,s2,s1]);with_reducible first|done|exact rfl|exact bT|exact bF))|apply Zf|apply Zj|with_reducible apply Zk|simp only[↓X3]|simp(disch:=decide)only[Zx,Yc,Ya,Zy,Yb,Zz]|with_reducible apply Zb));try(with_reducible apply Zm;case h=>((try simp(disch:=omega)only[X1,Nat.reduceEqDiff,s2,s1]);with_reducible exact rfl)))
 refine Wp.rtn (k18 (vn.mv (by omega) (by intros;first|with_reducible rfl|simp(disch:=omega)only[Ze,Zh,s2])) (vl.mv (by omega) (by intros;first|with_reducible rfl|simp(disch:=omega)only[Ze,Zh,s2])) (vd.mv (by omega) (by intros;first|with_reducible rfl|simp(disch:=omega)only[Ze,Zh,s2])) z1 z2 z3 (by omega) (by omega) (by omega) s) ?_
 rintro _ H3 n3 q3 s3 ⟨mu',rfl,-⟩
 ((repeat(first|((with_reducible first|apply Wp.gs|apply Wp.cs|apply Zc|apply Zg|apply Zd|apply Zi|apply Zn|apply Wp.step);case h=>((try simp(disch:=omega)only[↓reduceIte,Za,↓X0,X1,Nat.reduceEqDiff,Int.reduceEq,Nat.reduceAdd,Nat.reduceSub,X2,Ze,Nat.reduceLeDiff,s3,s2,s1]);with_reducible first|done|exact rfl|exact bT|exact bF))|apply Zf|apply Zj|with_reducible apply Zk|simp only[↓X3]|simp(disch:=decide)only[Zx,Yc,Ya,Zy,Yb,Zz]|with_reducible apply Zb));try(with_reducible apply Zm;case h=>((try simp(disch:=omega)only[X1,Nat.reduceEqDiff,s3,s2,s1]);with_reducible exact rfl)))
 refine Wp.rtn (k19 (hv.mv (by omega) (by intros;first|with_reducible rfl|simp(disch:=omega)only[Ze,Zh,s3,s2,s1])) hb hl) ?_
 rintro _ H4 n4 q4 s4 ⟨u',ul',ud',w,p,y,rfl,⟨l',li',ld',⟨i',il',id',d1',d2',d3',a1',a2',b1',b2',c1',c2',o1',o2',o3'⟩,⟨z1',z2',z3',k1',k2',k3'⟩⟩,⟨iw,iw1,iw2,ow⟩,zp,kp⟩
 ((repeat(first|((with_reducible first|apply Wp.gs|apply Wp.cs|apply Zc|apply Zg|apply Zd|apply Zi|apply Zn|apply Wp.step);case h=>((try simp(disch:=omega)only[↓reduceIte,Za,↓X0,X1,Nat.reduceEqDiff,Int.reduceEq,Nat.reduceAdd,Nat.reduceSub,X2,Ze,Nat.reduceLeDiff,s4,s3,s2,s1]);with_reducible first|done|exact rfl|exact bT|exact bF))|apply Zf|apply Zj|with_reducible apply Zk|simp only[↓X3]|simp(disch:=decide)only[Zx,Yc,Ya,Zy,Yb,Zz]|with_reducible apply Zb));try(with_reducible apply Zm;case h=>((try simp(disch:=omega)only[X1,Nat.reduceEqDiff,s4,s3,s2,s1]);with_reducible exact rfl)))
 refine Wp.rtn (k20 ((o1'.mv (by intros;first|with_reducible rfl|simp(disch:=omega)only[Ze,Zh])).lst (by omega)) ((o2'.mv (by intros;first|with_reducible rfl|simp(disch:=omega)only[Ze,Zh])).lst (by omega)) ((o3'.mv (by intros;first|with_reducible rfl|simp(disch:=omega)only[Ze,Zh])).lst (by omega)) z1' z2' z3' (by omega) (by omega) (by omega) ((ow.mv (by intros;first|with_reducible rfl|simp(disch:=omega)only[Ze,Zh])).lst (by omega)) zp (by omega) y) ?_
 rintro _ H5 n5 q5 s5 ⟨xu,rfl,ix,ix1,ix2,ox⟩
 ((repeat(first|((with_reducible first|apply Wp.gs|apply Wp.cs|apply Zc|apply Zg|apply Zd|apply Zi|apply Zn|apply Wp.step);case h=>((try simp(disch:=omega)only[↓reduceIte,Za,↓X0,X1,Nat.reduceEqDiff,Int.reduceEq,Nat.reduceAdd,Nat.reduceSub,X2,Ze,Nat.reduceLeDiff,s5,s4,s3,s2,s1]);with_reducible first|done|exact rfl|exact bT|exact bF))|apply Zf|apply Zj|with_reducible apply Zk|simp only[↓X3]|simp(disch:=decide)only[Zx,Yc,Ya,Zy,Yb,Zz]|with_reducible apply Zb));try(with_reducible apply Zm;case h=>((try simp(disch:=omega)only[X1,Nat.reduceEqDiff,s5,s4,s3,s2,s1]);with_reducible exact rfl)))
 refine Wp.rtn (k21 ((o1'.mv (by intros;first|with_reducible rfl|simp(disch:=omega)only[Ze,Zh,s5])).lst (by omega)) ((o2'.mv (by intros;first|with_reducible rfl|simp(disch:=omega)only[Ze,Zh,s5])).lst (by omega)) ((o3'.mv (by intros;first|with_reducible rfl|simp(disch:=omega)only[Ze,Zh,s5])).lst (by omega)) z1' z2' z3' (by omega) (by omega) (by omega) ((ow.mv (by intros;first|with_reducible rfl|simp(disch:=omega)only[Ze,Zh,s5])).lst (by omega)) zp (by omega) y) ?_
 rintro _ H6 n6 q6 s6 ⟨xu',rfl,-⟩
 ((repeat(first|((with_reducible first|apply Wp.gs|apply Wp.cs|apply Zc|apply Zg|apply Zd|apply Zi|apply Zn|apply Wp.step);case h=>((try simp(disch:=omega)only[↓reduceIte,Za,↓X0,X1,Nat.reduceEqDiff,Int.reduceEq,Nat.reduceAdd,Nat.reduceSub,X2,Ze,Nat.reduceLeDiff,s6,s5,s4,s3,s2,s1,eq_self.{1}]);with_reducible first|done|exact rfl|exact bT|exact bF))|apply Zf|apply Zj|with_reducible apply Zk|simp only[↓X3]|simp(disch:=decide)only[Zx,Yc,Ya,Zy,Yb,Zz]|with_reducible apply Zb));try(with_reducible apply Zm;case h=>((try simp(disch:=omega)only[X1,Nat.reduceEqDiff,s6,s5,s4,s3,s2,s1,eq_self.{1}]);with_reducible exact rfl)))
 generalize hM:H6.set (n5+7) _=M
 have f1:∀ k,k < n3+6→M k=H3.set (n2+6) (some (.row [mu',.int .i64 (newA l li ld s),.int .i64 0,.int .i64 (newE l li ld s),.int .i64 0,.int .i64 0,.int .i64 0,.int .i64 0] 0 true)) k:=fun k hk=>by rw [← hM]; simp (disch:=omega) only [Ze,s6,s5,s4]
 have r1:M (n+3+5+5)=some (.row [u,ul,ud] 0 true):=by rw [f1 _ (by omega)]; simp (disch:=omega) only [Ze,Zh,s3,s2]
 have r2:M (n1+6)=some (.row [mu,.int .i64 (newA l li ld s),.int .i64 0,.int .i64 (newE l li ld s),.int .i64 0,.int .i64 0,.int .i64 0,.int .i64 0] 0 true):=by rw [f1 _ (by omega)]; simp (disch:=omega) only [Ze,Zh,s3]
 have r3:M (n3+6)=some (.row [u',ul',ud'] 0 true):=by rw [← hM]; simp (disch:=omega) only [Ze,Zh,s6,s5]
 have r4:M (n3+7)=some (.row [w] 0 true):=by rw [← hM]; simp (disch:=omega) only [Ze,Zh,s6,s5]
 have r5:M (n4+7)=some (.row [xu,.int .i64 (ofA l' li' ld' p y),.int .i64 (ofS l' li' ld' p y),.int .i64 (ofE l' li' ld' p y),.int .i64 (ofS l' li' ld' p y),.int .i64 0,.int .i64 0,.int .i64 0] 0 true):=by rw [← hM]; simp (disch:=omega) only [Ze,Zh,s6]
 have wn':Li eNode n6 M u l:=(o1.mv (by rw [f1 _ (by omega)]; simp (disch:=omega) only [Ze,s3,s2])).lst (by omega)
 have wl:Li eIns n6 M ul li:=(o2.mv (by rw [f1 _ (by omega)]; simp (disch:=omega) only [Ze,s3,s2])).lst (by omega)
 have wd:Li eDef n6 M ud ld:=(o3.mv (by rw [f1 _ (by omega)]; simp (disch:=omega) only [Ze,s3,s2])).lst (by omega)
 have wm:Li eNode n6 M mu (newM l li ld s):=(om.mv (by rw [f1 _ (by omega)]; simp (disch:=omega) only [Ze,s3])).lst (by omega)
 have f4:∀ k,n3+11≤k→k < n4→M k=H4 k:=fun k hk hk2=>by rw [← hM]; simp (disch:=omega) only [Ze,s6,s5]
 have xn:Li eNode n6 M u' l':=(o1'.mv (f4 _ a1' a2')).lst (by omega)
 have xl:Li eIns n6 M ul' li':=(o2'.mv (f4 _ b1' b2')).lst (by omega)
 have xd:Li eDef n6 M ud' ld':=(o3'.mv (f4 _ c1' c2')).lst (by omega)
 have xw:Li eNode n6 M w p:=(ow.mv (f4 _ iw1 iw2)).lst (by omega)
 have xm:Li eNode n6 M xu (ofP l' li' ld' p y):=(ox.mv (by rw [← hM]; simp (disch:=omega) only [Ze,s6])).lst (by omega)
 clear hM f1 f4
 have last:∀ (H7:Hp) (n7:Nat),n6≤n7→(∀ k,k < n6→H7 k=M k)→True:=fun _ _ _ _=>trivial
 by_cases hN:NewOk l li ld s
 ·rw [decide_eq_true hN]
  have hml:=newM_len l li ld s
  have hMk:=MachOk.new hN
  have hzm:∀ x∈newM l li ld s,x.s.size≤1048576:=by
   intro x hx
   unfold newM at hx
   rw [if_pos hN] at hx
   simp only [List.mem_cons,List.not_mem_nil,or_false] at hx
   rcases hx with rfl | rfl <;> exact Nat.zero_le _
  ((repeat(first|((with_reducible first|apply Wp.gs|apply Wp.cs|apply Zc|apply Zg|apply Zd|apply Zi|apply Zn|apply Wp.step);case h=>((try simp(disch:=omega)only[↓reduceIte,Za,↓X0,X1,Nat.reduceEqDiff,Int.reduceEq,Nat.reduceAdd,Nat.reduceSub,X2,Ze,Nat.reduceLeDiff,r1,r2]);with_reducible first|done|exact rfl|exact bT|exact bF))|apply Zf|apply Zj|with_reducible apply Zk|simp only[↓X3]|simp(disch:=decide)only[Zx,Yc,Ya,Zy,Yb,Zz]|with_reducible apply Zb));try(with_reducible apply Zm;case h=>((try simp(disch:=omega)only[X1,Nat.reduceEqDiff,r1,r2]);with_reducible exact rfl)))
  refine Wp.rt (k22 (wn'.mv (by omega) (fun _ _=>rfl)) (wl.mv (by omega) (fun _ _=>rfl)) (wd.mv (by omega) (fun _ _=>rfl)) z1 z2 z3 (by omega) (by omega) (by omega) (wm.mv (by omega) (fun _ _=>rfl)) hzm (by omega) _ _ _ _ _ _ _) ?_
  intro H7 n7 q7 s7
  have t7:∀ k,k < n6→H7 k=M k:=fun k hk=>s7 k (by omega)
  have r1':H7 (n+3+5+5)=some (.row [u,ul,ud] 0 true):=by rw [t7 _ (by omega)]; exact r1
  have r2':H7 (n1+6)=some (.row [mu,.int .i64 (newA l li ld s),.int .i64 0,.int .i64 (newE l li ld s),.int .i64 0,.int .i64 0,.int .i64 0,.int .i64 0] 0 true):=by rw [t7 _ (by omega)]; exact r2
  ((repeat(first|((with_reducible first|apply Wp.gs|apply Wp.cs|apply Zc|apply Zg|apply Zd|apply Zi|apply Zn|apply Wp.step);case h=>((try simp(disch:=omega)only[↓reduceIte,Za,↓X0,X1,Nat.reduceEqDiff,Int.reduceEq,Nat.reduceAdd,Nat.reduceSub,X2,Ze,Nat.reduceLeDiff,hMk,r1',r2',r1,r2]);with_reducible first|done|exact rfl|exact bT|exact bF))|apply Zf|apply Zj|with_reducible apply Zk|simp only[↓X3]|simp(disch:=decide)only[Zx,Yc,Ya,Zy,Yb,Zz]|with_reducible apply Zb));try(with_reducible apply Zm;case h=>((try simp(disch:=omega)only[X1,Nat.reduceEqDiff,hMk,r1',r2',r1,r2]);with_reducible exact rfl)))
  refine Wp.rt (k11 (wd.mv (by omega) t7) (by omega) s) ?_
  intro H8 n8 q8 s8
  have tX:∀ k,k < n6→H8 k=M k:=fun k hk=>by rw [s8 _ (by omega)]; exact t7 k hk
  have hr:=defOf_rng ld s
  have hd0:=hN.2.1
  have hA:newA l li ld s=(gi ld (defOf ld s)).at_:=by unfold newA; rw [if_pos hN]
  have hk0:(gi (newM l li ld s) 0).k=1:=by unfold newM; rw [if_pos hN]; rfl
  have hl0:(0:Int) < (newM l li ld s).length:=by unfold newM; rw [if_pos hN]; decide
  have g:=(wd.mv (H':=H8) (Nat.le_refl _) tX).dAll (i:=defOf ld s) hd0 hr.2
  have gm:=(wm.mv (H':=H8) (Nat.le_refl _) tX).nAll (i:=0) (by decide) hl0
  have r1'':H8 (n+3+5+5)=some (.row [u,ul,ud] 0 true):=by rw [tX _ (by omega)]; exact r1
  have r2'':H8 (n1+6)=some (.row [mu,.int .i64 (newA l li ld s),.int .i64 0,.int .i64 (newE l li ld s),.int .i64 0,.int .i64 0,.int .i64 0,.int .i64 0] 0 true):=by rw [tX _ (by omega)]; exact r2
  have r3'':H8 (n3+6)=some (.row [u',ul',ud'] 0 true):=by rw [tX _ (by omega)]; exact r3
  have r4'':H8 (n3+7)=some (.row [w] 0 true):=by rw [tX _ (by omega)]; exact r4
  have r5'':H8 (n4+7)=some (.row [xu,.int .i64 (ofA l' li' ld' p y),.int .i64 (ofS l' li' ld' p y),.int .i64 (ofE l' li' ld' p y),.int .i64 (ofS l' li' ld' p y),.int .i64 0,.int .i64 0,.int .i64 0] 0 true):=by rw [tX _ (by omega)]; exact r5
  have hql:=ofP_len l' li' ld' p y
  by_cases hO:OfOk l' li' ld' p y
  ·rw [decide_eq_true hO]
   have hMx:=MachOk.of hO
   rw [show ofA l' li' ld' p y=(gi p y).n / 8 from by unfold ofA; rw [if_pos hO]] at hMx
   have hzx:∀ x∈ofP l' li' ld' p y,x.s.size≤1048576:=by
    intro x hx
    unfold ofP at hx
    rw [if_pos hO] at hx
    simp only [List.mem_append,List.mem_cons,List.not_mem_nil,or_false] at hx
    rcases hx with (hx | rfl) | rfl
    ·exact zp x hx
    ·exact Nat.zero_le _
    ·exact Nat.zero_le _
   have hAx:ofA l' li' ld' p y=(gi p y).n / 8:=by unfold ofA; rw [if_pos hO]
   have hy:=hO.2.2.1
   have hq8:=quo8 ((hO.2.1.at hy.1 hy.2).six hO.2.2.2.1)
   ((repeat(first|((with_reducible first|apply Wp.gs|apply Wp.cs|apply Zc|apply Zg|apply Zd|apply Zi|apply Zn|apply Wp.step);case h=>((try simp(disch:=omega)only[↓reduceIte,Za,↓X0,X1,Nat.reduceEqDiff,Int.reduceEq,Nat.reduceAdd,Nat.reduceSub,X2,Ze,Nat.reduceLeDiff,r1'',r2'',r1',r2',r1,r2,g,gm,hA,hk0,r3'',r4'',r5'',eq_self.{1}]);with_reducible first|done|exact rfl|exact bT|exact bF))|apply Zf|apply Zj|with_reducible apply Zk|simp only[↓X3]|simp(disch:=decide)only[Zx,Yc,Ya,Zy,Yb,Zz]|with_reducible apply Zb));try(with_reducible apply Zm;case h=>((try simp(disch:=omega)only[X1,Nat.reduceEqDiff,r1'',r2'',r1',r2',r1,r2,g,gm,hA,hk0,r3'',r4'',r5'',eq_self.{1}]);with_reducible exact rfl)))
   refine Wp.rt (k22 ((xn.mv (H':=H8) (m:=n8) (by omega) tX).mv (by omega) (fun _ _=>rfl)) ((xl.mv (H':=H8) (m:=n8) (by omega) tX).mv (by omega) (fun _ _=>rfl)) ((xd.mv (H':=H8) (m:=n8) (by omega) tX).mv (by omega) (fun _ _=>rfl)) z1' z2' z3' (by omega) (by omega) (by omega) ((xm.mv (H':=H8) (m:=n8) (by omega) tX).mv (by omega) (fun _ _=>rfl)) hzx (by omega) _ _ _ _ _ _ _) ?_
   intro H9 n9 q9 s9
   have t9:∀ k,k < n6→H9 k=M k:=fun k hk=>by rw [s9 _ (by omega)]; exact tX k hk
   have g3:H9 (n3+6)=some (.row [u',ul',ud'] 0 true):=by rw [t9 _ (by omega)]; exact r3
   have g4:H9 (n3+7)=some (.row [w] 0 true):=by rw [t9 _ (by omega)]; exact r4
   have g5:H9 (n4+7)=some (.row [xu,.int .i64 (ofA l' li' ld' p y),.int .i64 (ofS l' li' ld' p y),.int .i64 (ofE l' li' ld' p y),.int .i64 (ofS l' li' ld' p y),.int .i64 0,.int .i64 0,.int .i64 0] 0 true):=by rw [t9 _ (by omega)]; exact r5
   have gp:=(xw.mv (H':=H9) (Nat.le_refl _) t9).nAll (i:=y) hy.1 hy.2
   (repeat(first|((with_reducible first|apply Wp.gs|apply Wp.cs|apply Zc|apply Zg|apply Zd|apply Zi|apply Zn|apply Wp.step);case h=>((try simp(disch:=omega)only[↓reduceIte,Za,↓X0,X1,Nat.reduceEqDiff,Int.reduceEq,Nat.reduceAdd,Nat.reduceSub,X2,Ze,Nat.reduceLeDiff,hMx,g3,g4,g5,gp,r3'',r4'',r5'',hAx,hq8,eq_self.{1}]);with_reducible first|done|exact rfl|exact bT|exact bF))|apply Zf|apply Zj|with_reducible apply Zk|simp only[↓X3]|simp(disch:=decide)only[Zx,Yc,Ya,Zy,Yb,Zz]|with_reducible apply Zb))
   exact Wp.pure rfl
  ·rw [decide_eq_false hO]
   have hlx:=(xm.mv (H':=H8) (Nat.le_refl _) tX).len
   have hz0:ofP l' li' ld' p y=[]:=by unfold ofP; rw [if_neg hO]
   rw [hz0] at hlx
   have hlx:lenV false xu=some (.int .i64 0):=hlx
   ((repeat(first|((with_reducible first|apply Wp.gs|apply Wp.cs|apply Zc|apply Zg|apply Zd|apply Zi|apply Zn|apply Wp.step);case h=>((try simp(disch:=omega)only[↓reduceIte,Za,↓X0,X1,Nat.reduceEqDiff,Int.reduceEq,Nat.reduceAdd,Nat.reduceSub,X2,Ze,Nat.reduceLeDiff,r1'',r2'',r1',r2',r1,r2,g,gm,hA,hk0,r3'',r4'',r5'',hlx,eq_self.{1}]);with_reducible first|done|exact rfl|exact bT|exact bF))|apply Zf|apply Zj|with_reducible apply Zk|simp only[↓X3]|simp(disch:=decide)only[Zx,Yc,Ya,Zy,Yb,Zz]|with_reducible apply Zb));try(with_reducible apply Zm;case h=>((try simp(disch:=omega)only[X1,Nat.reduceEqDiff,r1'',r2'',r1',r2',r1,r2,g,gm,hA,hk0,r3'',r4'',r5'',hlx,eq_self.{1}]);with_reducible exact rfl)))
   (repeat ((with_reducible apply Wp.gv; case h=>(simp(disch:=omega)only[↓reduceIte,Za,↓X0,X1,Nat.reduceEqDiff,Int.reduceEq,Nat.reduceAdd,Nat.reduceSub]; exact rfl)); ((repeat(first|((with_reducible first|apply Wp.gs|apply Wp.cs|apply Zc|apply Zg|apply Zd|apply Zi|apply Zn|apply Wp.step);case h=>((try simp(disch:=omega)only[↓reduceIte,Za,↓X0,X1,Nat.reduceEqDiff,Int.reduceEq,Nat.reduceAdd,Nat.reduceSub,X2,Ze,Nat.reduceLeDiff,r1'',r2'',r3'',r4'',r5'',eq_self.{1},hlx]);with_reducible first|done|exact rfl|exact bT|exact bF))|apply Zf|apply Zj|with_reducible apply Zk|simp only[↓X3]|simp(disch:=decide)only[Zx,Yc,Ya,Zy,Yb,Zz]|with_reducible apply Zb));try(with_reducible apply Zm;case h=>((try simp(disch:=omega)only[X1,Nat.reduceEqDiff,r1'',r2'',r3'',r4'',r5'',eq_self.{1},hlx]);with_reducible exact rfl)))))
   exact Wp.pure rfl
 ·rw [decide_eq_false hN]
  have tX:∀ k,k < n6→M k=M k:=fun _ _=>rfl
  have r3'':M (n3+6)=some (.row [u',ul',ud'] 0 true):=by rw [tX _ (by omega)]; exact r3
  have r4'':M (n3+7)=some (.row [w] 0 true):=by rw [tX _ (by omega)]; exact r4
  have r5'':M (n4+7)=some (.row [xu,.int .i64 (ofA l' li' ld' p y),.int .i64 (ofS l' li' ld' p y),.int .i64 (ofE l' li' ld' p y),.int .i64 (ofS l' li' ld' p y),.int .i64 0,.int .i64 0,.int .i64 0] 0 true):=by rw [tX _ (by omega)]; exact r5
  have hql:=ofP_len l' li' ld' p y
  by_cases hO:OfOk l' li' ld' p y
  ·rw [decide_eq_true hO]
   have hMx:=MachOk.of hO
   rw [show ofA l' li' ld' p y=(gi p y).n / 8 from by unfold ofA; rw [if_pos hO]] at hMx
   have hzx:∀ x∈ofP l' li' ld' p y,x.s.size≤1048576:=by
    intro x hx
    unfold ofP at hx
    rw [if_pos hO] at hx
    simp only [List.mem_append,List.mem_cons,List.not_mem_nil,or_false] at hx
    rcases hx with (hx | rfl) | rfl
    ·exact zp x hx
    ·exact Nat.zero_le _
    ·exact Nat.zero_le _
   have hAx:ofA l' li' ld' p y=(gi p y).n / 8:=by unfold ofA; rw [if_pos hO]
   have hy:=hO.2.2.1
   have hq8:=quo8 ((hO.2.1.at hy.1 hy.2).six hO.2.2.2.1)
   ((repeat(first|((with_reducible first|apply Wp.gs|apply Wp.cs|apply Zc|apply Zg|apply Zd|apply Zi|apply Zn|apply Wp.step);case h=>((try simp(disch:=omega)only[↓reduceIte,Za,↓X0,X1,Nat.reduceEqDiff,Int.reduceEq,Nat.reduceAdd,Nat.reduceSub,X2,Ze,Nat.reduceLeDiff,r1,r2,r3'',r4'',r5'',eq_self.{1}]);with_reducible first|done|exact rfl|exact bT|exact bF))|apply Zf|apply Zj|with_reducible apply Zk|simp only[↓X3]|simp(disch:=decide)only[Zx,Yc,Ya,Zy,Yb,Zz]|with_reducible apply Zb));try(with_reducible apply Zm;case h=>((try simp(disch:=omega)only[X1,Nat.reduceEqDiff,r1,r2,r3'',r4'',r5'',eq_self.{1}]);with_reducible exact rfl)))
   (repeat ((with_reducible apply Wp.gv; case h=>(simp(disch:=omega)only[↓reduceIte,Za,↓X0,X1,Nat.reduceEqDiff,Int.reduceEq,Nat.reduceAdd,Nat.reduceSub]; exact rfl)); ((repeat(first|((with_reducible first|apply Wp.gs|apply Wp.cs|apply Zc|apply Zg|apply Zd|apply Zi|apply Zn|apply Wp.step);case h=>((try simp(disch:=omega)only[↓reduceIte,Za,↓X0,X1,Nat.reduceEqDiff,Int.reduceEq,Nat.reduceAdd,Nat.reduceSub,X2,Ze,Nat.reduceLeDiff,r1,r2,r3'',r4'',r5'',eq_self.{1}]);with_reducible first|done|exact rfl|exact bT|exact bF))|apply Zf|apply Zj|with_reducible apply Zk|simp only[↓X3]|simp(disch:=decide)only[Zx,Yc,Ya,Zy,Yb,Zz]|with_reducible apply Zb));try(with_reducible apply Zm;case h=>((try simp(disch:=omega)only[X1,Nat.reduceEqDiff,r1,r2,r3'',r4'',r5'',eq_self.{1}]);with_reducible exact rfl)))))
   refine Wp.rt (k22 ((xn.mv (H':=M) (m:=n6) (by omega) tX).mv (by omega) (fun _ _=>rfl)) ((xl.mv (H':=M) (m:=n6) (by omega) tX).mv (by omega) (fun _ _=>rfl)) ((xd.mv (H':=M) (m:=n6) (by omega) tX).mv (by omega) (fun _ _=>rfl)) z1' z2' z3' (by omega) (by omega) (by omega) ((xm.mv (H':=M) (m:=n6) (by omega) tX).mv (by omega) (fun _ _=>rfl)) hzx (by omega) _ _ _ _ _ _ _) ?_
   intro H9 n9 q9 s9
   have t9:∀ k,k < n6→H9 k=M k:=fun k hk=>s9 _ (by omega)
   have g3:H9 (n3+6)=some (.row [u',ul',ud'] 0 true):=by rw [t9 _ (by omega)]; exact r3
   have g4:H9 (n3+7)=some (.row [w] 0 true):=by rw [t9 _ (by omega)]; exact r4
   have g5:H9 (n4+7)=some (.row [xu,.int .i64 (ofA l' li' ld' p y),.int .i64 (ofS l' li' ld' p y),.int .i64 (ofE l' li' ld' p y),.int .i64 (ofS l' li' ld' p y),.int .i64 0,.int .i64 0,.int .i64 0] 0 true):=by rw [t9 _ (by omega)]; exact r5
   have gp:=(xw.mv (H':=H9) (Nat.le_refl _) t9).nAll (i:=y) hy.1 hy.2
   (repeat(first|((with_reducible first|apply Wp.gs|apply Wp.cs|apply Zc|apply Zg|apply Zd|apply Zi|apply Zn|apply Wp.step);case h=>((try simp(disch:=omega)only[↓reduceIte,Za,↓X0,X1,Nat.reduceEqDiff,Int.reduceEq,Nat.reduceAdd,Nat.reduceSub,X2,Ze,Nat.reduceLeDiff,hMx,g3,g4,g5,gp,r3'',r4'',r5'',hAx,hq8,eq_self.{1}]);with_reducible first|done|exact rfl|exact bT|exact bF))|apply Zf|apply Zj|with_reducible apply Zk|simp only[↓X3]|simp(disch:=decide)only[Zx,Yc,Ya,Zy,Yb,Zz]|with_reducible apply Zb))
   exact Wp.pure rfl
  ·rw [decide_eq_false hO]
   have hlx:=(xm.mv (H':=M) (Nat.le_refl _) tX).len
   have hz0:ofP l' li' ld' p y=[]:=by unfold ofP; rw [if_neg hO]
   rw [hz0] at hlx
   have hlx:lenV false xu=some (.int .i64 0):=hlx
   ((repeat(first|((with_reducible first|apply Wp.gs|apply Wp.cs|apply Zc|apply Zg|apply Zd|apply Zi|apply Zn|apply Wp.step);case h=>((try simp(disch:=omega)only[↓reduceIte,Za,↓X0,X1,Nat.reduceEqDiff,Int.reduceEq,Nat.reduceAdd,Nat.reduceSub,X2,Ze,Nat.reduceLeDiff,r1,r2,r3'',r4'',r5'',hlx,eq_self.{1}]);with_reducible first|done|exact rfl|exact bT|exact bF))|apply Zf|apply Zj|with_reducible apply Zk|simp only[↓X3]|simp(disch:=decide)only[Zx,Yc,Ya,Zy,Yb,Zz]|with_reducible apply Zb));try(with_reducible apply Zm;case h=>((try simp(disch:=omega)only[X1,Nat.reduceEqDiff,r1,r2,r3'',r4'',r5'',hlx,eq_self.{1}]);with_reducible exact rfl)))
   (repeat ((with_reducible apply Wp.gv; case h=>(simp(disch:=omega)only[↓reduceIte,Za,↓X0,X1,Nat.reduceEqDiff,Int.reduceEq,Nat.reduceAdd,Nat.reduceSub]; exact rfl)); ((repeat(first|((with_reducible first|apply Wp.gs|apply Wp.cs|apply Zc|apply Zg|apply Zd|apply Zi|apply Zn|apply Wp.step);case h=>((try simp(disch:=omega)only[↓reduceIte,Za,↓X0,X1,Nat.reduceEqDiff,Int.reduceEq,Nat.reduceAdd,Nat.reduceSub,X2,Ze,Nat.reduceLeDiff,r1,r2,r3'',r4'',r5'',eq_self.{1},hlx]);with_reducible first|done|exact rfl|exact bT|exact bF))|apply Zf|apply Zj|with_reducible apply Zk|simp only[↓X3]|simp(disch:=decide)only[Zx,Yc,Ya,Zy,Yb,Zz]|with_reducible apply Zb));try(with_reducible apply Zm;case h=>((try simp(disch:=omega)only[X1,Nat.reduceEqDiff,r1,r2,r3'',r4'',r5'',eq_self.{1},hlx]);with_reducible exact rfl)))))
   exact Wp.pure rfl
end Go.Proofs.Ytbgkimkbngocjaa.Ax
