/- What the law needs: laws of the abstract machine, and contracts of functions. -/
import Derived.Test.YtbgkimkbngocjaaM9
set_option linter.unusedVariables false
set_option linter.unusedSimpArgs false
set_option maxHeartbeats 8000000
namespace Go.Proofs.Ytbgkimkbngocjaa.Ax
open Go
theorem LO.tail {α:Type} {E:Enc α} {c il n:Nat} {H:Hp} {w:Value} {l:List α} (h:LO E c il n H w l) (hz:0 < E.sz) (a:Nat) (ha:a≤l.length):∃ w',sliceV E.sz w (some (.int .i64 (a:Int))) none=some w'∧LO E c il n H w' (l.drop a):=by
 obtain ⟨w',h1,h2⟩:=h.slice hz (some (.int .i64 (a:Int))) none a l.length (by simp [bnd]) (fun d hd=>by simp [bnd,hd]) ha (Nat.le_refl _)
 rw [List.take_of_length_le (by rw [List.length_drop]; omega)] at h2
 exact ⟨w',h1,h2⟩
theorem LO.one1 {c il n:Nat} {H:Hp} {w:Value} {l:List Int} (h:LO eInt c il n H w l) (ha:2≤l.length):∃ w',sliceV 1 w (some (.int .i64 1)) (some (.int .i64 2))=some w'∧LO eInt c il n H w' [gi l 1]:=by
 obtain ⟨w',h1,h2⟩:=h.slice (by decide) (some (.int .i64 1)) (some (.int .i64 2)) 1 2 rfl (fun d hd=>rfl) (by omega) ha
 have:(l.drop 1).take (2 - 1)=[gi l 1]:=by
  rw [show (1:Int)=((1:Nat):Int) from rfl,gi_nat (by omega)]
  rw [List.drop_eq_getElem_cons (by omega:1 < l.length)]
  rfl
 rw [this] at h2
 exact ⟨w',h1,h2⟩
theorem chain_mem {l:List Nd} (hp:PoolOk l):∀ (f:Nat) (v:Int),0≤v→v < l.length→∀ y∈(chain l f v).1,0≤y∧y < v
 | 0,v,_,_,y,hy=>by simp [chain] at hy
 | f+1,v,h0,h1,y,hy=>by
  unfold chain at hy
  by_cases h5:(gi l v).k=5
  ·rw [if_pos h5] at hy
   have hk:=(hp.at h0 h1).pair h5
   rcases List.mem_cons.1 hy with rfl | h
   ·exact hk.1
   ·have:=chain_mem hp f (gi l v).b hk.2.1 (by omega) y h
    omega
  ·rw [if_neg h5] at hy; simp at hy
theorem chainOf_mem {l:List Nd} (hp:PoolOk l) {v:Int} (h0:0≤v) (h1:v < l.length):∀ y∈(Zu l v).1,0≤y∧y < v:=chain_mem hp _ v h0 h1
theorem chainOf_pos {l:List Nd} (hp:PoolOk l) {v:Int} (h0:0≤v) (h1:v < l.length) (h5:(gi l v).k=5):0 < (Zu l v).1.length:=by
 rw [chainOf_eq hp h0 h1,if_pos h5]; simp
theorem New.lo {α:Type} {E:Enc α} {lo n c il:Nat} {H:Hp} {w:Value} {l:List α} (h:New E lo n H w l) (hc:c < lo) (hi:il < lo):LO E c il n H w l:=by
 obtain ⟨id,h1,h2,h3⟩:=h
 exact h3.lo h2 (by omega) (by omega)
theorem k128 {v:Value} {p:List Nd} (hp:PoolOk p) {E:CEx} {l:List Int} (hg:∀ v e,Goes (E v e)) (hE:∀ x∈l,XC 123 v p true E x) {c il n:Nat} {H:Hp} {ul ud wl ew:Value} {s:CS} {e:Env} {w:ByteArray} (h:CC c il n H v ul ud s) (hv:LO eNode c il n H v p) (he:EnvOk e) (hex:∀ x∈l,e.length+1+x.toNat≤90000) (hev:EV c il n H ew e.reverse) (hw:LO eInt c il n H wl l) (hr:∀ x∈l,0≤x∧x < (p.length:Int)) (hl:l.length≤100000):RtA Try.prog 128 [ptr c 0,.string w,wl,ew] c il H n (fun r H' n'=>r=.tuple ⟨[]⟩∧Next c il n n' H' v ud (cForm E p w l e s)):=by
 apply RtA.of
 rw [c128]; unfold S128
 rw [show (⟨#[113,117,111,116,101]⟩:ByteArray)=wQuote from rfl,show (⟨#[105,102]⟩:ByteArray)=wIf from rfl,show (⟨#[100,111]⟩:ByteArray)=wDo from rfl,show (⟨#[102,110]⟩:ByteArray)=wFn from rfl,show (⟨#[108,101,116]⟩:ByteArray)=wLet from rfl]
 have hcn:=h.cn
 have hil:=h.iln
 have hpl:=hp.2
 have hc:=h.hc
 have hlen:=hw.li.len
 have nwQuotewIf:¬ wQuote=wIf:=by decide
 have nwQuotewDo:¬ wQuote=wDo:=by decide
 have nwQuotewFn:¬ wQuote=wFn:=by decide
 have nwQuotewLet:¬ wQuote=wLet:=by decide
 have nwIfwQuote:¬ wIf=wQuote:=by decide
 have nwIfwDo:¬ wIf=wDo:=by decide
 have nwIfwFn:¬ wIf=wFn:=by decide
 have nwIfwLet:¬ wIf=wLet:=by decide
 have nwDowQuote:¬ wDo=wQuote:=by decide
 have nwDowIf:¬ wDo=wIf:=by decide
 have nwDowFn:¬ wDo=wFn:=by decide
 have nwDowLet:¬ wDo=wLet:=by decide
 have nwFnwQuote:¬ wFn=wQuote:=by decide
 have nwFnwIf:¬ wFn=wIf:=by decide
 have nwFnwDo:¬ wFn=wDo:=by decide
 have nwFnwLet:¬ wFn=wLet:=by decide
 have nwLetwQuote:¬ wLet=wQuote:=by decide
 have nwLetwIf:¬ wLet=wIf:=by decide
 have nwLetwDo:¬ wLet=wDo:=by decide
 have nwLetwFn:¬ wLet=wFn:=by decide
 have fin:∀ (H2:Hp) (n2:Nat) (S:CS),n≤n2→Kept c il n H H2→Next c il n n2 H2 v ud S→S=cForm E p w l e s→Wp (some (Value.tuple ⟨[]⟩,H2,n2)) (fun q=>n≤q.2.2∧(∀ i,i < n→i≠c→i≠il→q.2.1 i=H i)∧q.1=.tuple ⟨[]⟩∧Next c il n q.2.2 q.2.1 v ud (cForm E p w l e s)):=by
  intro H2 n2 S z1 z2 z3 z4
  exact Wp.pure ⟨z1,z2,rfl,by rw [← z4]; exact z3⟩
 generalize hF:cForm E p w l e s=F at *
 by_cases e0:w=wQuote
 ·subst e0
  by_cases hl2:l.length=2
  ·have hl2i:(l.length:Int)=2:=by omega
   have hF':F=cPut (Zw 1 (gi l 1) 0) s:=by rw [← hF]; unfold cForm; simp [hl2]
   have g1:=hw.li.iAll (i:=1) (by omega) (by omega)
   ((repeat(first|((with_reducible first|apply Wp.gs|apply Wp.cs|apply Zd|apply Zf|apply Zc|apply Zg|apply Wp.step);case h=>((try simp(disch:=omega)only[↓reduceIte,Za,↓X0,X1,Nat.reduceEqDiff,Int.reduceEq,Nat.reduceAdd,Nat.reduceSub,X2,Zi,Nat.reduceLeDiff,eq_self.{1},hlen,hl2i,g1,bld_ins2]);with_reducible first|done|exact rfl|exact bT|exact bF))|apply Ze|apply Zh|with_reducible apply Zl|simp only[↓X3]|with_reducible apply Zb));try(with_reducible apply Zm;case h=>((try simp(disch:=omega)only[X1,Nat.reduceEqDiff,eq_self.{1},hlen,hl2i,g1,bld_ins2]);with_reducible exact rfl)))
   refine Zy (k115 (h.mv (by omega) rfl rfl) (Zw 1 (gi l 1) 0)) ?_
   rintro _ H2 n2 q2 s2 ⟨rfl,ul2,il2,i2,h2⟩
   (repeat(first|((with_reducible first|apply Wp.gs|apply Wp.cs|apply Zd|apply Zf|apply Zc|apply Zg|apply Wp.step);case h=>((try simp(disch:=omega)only[↓reduceIte,Za,↓X0,X1,Nat.reduceEqDiff,Int.reduceEq,Nat.reduceAdd,Nat.reduceSub]);with_reducible first|done|exact rfl|exact bT|exact bF))|apply Ze|apply Zh|with_reducible apply Zl|simp only[↓X3]|with_reducible apply Zb))
   exact fin _ _ _ (by omega) (fun i a b c=>s2 i (by omega) b c) ⟨ul2,il2,by omega,h2.mv (by omega) rfl rfl⟩ hF'.symm
  ·have hl2i:¬ (l.length:Int)=2:=by omega
   have hF':F=cFail 1 s:=by rw [← hF]; unfold cForm; simp [hl2,nwQuotewIf,nwQuotewDo,nwQuotewFn,nwQuotewLet]
   ((repeat(first|((with_reducible first|apply Wp.gs|apply Wp.cs|apply Zd|apply Zf|apply Zc|apply Zg|apply Wp.step);case h=>((try simp(disch:=omega)only[↓reduceIte,Za,↓X0,X1,Nat.reduceEqDiff,Int.reduceEq,Nat.reduceAdd,Nat.reduceSub,X2,Zi,Nat.reduceLeDiff,eq_self.{1},hlen,hl2i,nwQuotewIf,nwQuotewDo,nwQuotewFn,nwQuotewLet]);with_reducible first|done|exact rfl|exact bT|exact bF))|apply Ze|apply Zh|with_reducible apply Zl|simp only[↓X3]|with_reducible apply Zb));try(with_reducible apply Zm;case h=>((try simp(disch:=omega)only[X1,Nat.reduceEqDiff,eq_self.{1},hlen,hl2i,nwQuotewIf,nwQuotewDo,nwQuotewFn,nwQuotewLet]);with_reducible exact rfl)))
   refine Zy (k111 (h.mv (by omega) rfl rfl) 1 (by decide)) ?_
   rintro _ H2 n2 q2 s2 ⟨rfl,h2⟩
   (repeat(first|((with_reducible first|apply Wp.gs|apply Wp.cs|apply Zd|apply Zf|apply Zc|apply Zg|apply Wp.step);case h=>((try simp(disch:=omega)only[↓reduceIte,Za,↓X0,X1,Nat.reduceEqDiff,Int.reduceEq,Nat.reduceAdd,Nat.reduceSub]);with_reducible first|done|exact rfl|exact bT|exact bF))|apply Ze|apply Zh|with_reducible apply Zl|simp only[↓X3]|with_reducible apply Zb))
   exact fin _ _ _ (by omega) (fun i a b c=>s2 i (by omega) b c) ⟨ul,il,.inl rfl,h2.mv (by omega) rfl rfl⟩ hF'.symm
 by_cases e1:w=wIf
 ·subst e1
  by_cases hl2:l.length=4
  ·have hl2i:(l.length:Int)=4:=by omega
   have hF':F=cIf E l e s:=by rw [← hF]; unfold cForm; simp [hl2,nwIfwQuote]
   ((repeat(first|((with_reducible first|apply Wp.gs|apply Wp.cs|apply Zd|apply Zf|apply Zc|apply Zg|apply Wp.step);case h=>((try simp(disch:=omega)only[↓reduceIte,Za,↓X0,X1,Nat.reduceEqDiff,Int.reduceEq,Nat.reduceAdd,Nat.reduceSub,X2,Zi,Nat.reduceLeDiff,eq_self.{1},hlen,hl2i,nwIfwQuote]);with_reducible first|done|exact rfl|exact bT|exact bF))|apply Ze|apply Zh|with_reducible apply Zl|simp only[↓X3]|with_reducible apply Zb));try(with_reducible apply Zm;case h=>((try simp(disch:=omega)only[X1,Nat.reduceEqDiff,eq_self.{1},hlen,hl2i,nwIfwQuote]);with_reducible exact rfl)))
   refine Zy (k131 hg hE (h.mv (by omega) rfl rfl) (hv.mv (by omega) (fun _ _ _ _=>rfl) (.inl rfl)) he (fun x hx=>by have:=hex x hx; omega) (hev.mv (by omega) (fun _ _ _ _=>rfl) (.inl rfl)) (hw.mv (by omega) (fun _ _ _ _=>rfl) (.inl rfl)) hl2) ?_
   rintro _ H2 n2 q2 s2 ⟨rfl,ul2,il2,i2,h2⟩
   (repeat(first|((with_reducible first|apply Wp.gs|apply Wp.cs|apply Zd|apply Zf|apply Zc|apply Zg|apply Wp.step);case h=>((try simp(disch:=omega)only[↓reduceIte,Za,↓X0,X1,Nat.reduceEqDiff,Int.reduceEq,Nat.reduceAdd,Nat.reduceSub]);with_reducible first|done|exact rfl|exact bT|exact bF))|apply Ze|apply Zh|with_reducible apply Zl|simp only[↓X3]|with_reducible apply Zb))
   exact fin _ _ _ (by omega) (fun i a b c=>s2 i (by omega) b c) ⟨ul2,il2,by omega,h2.mv (by omega) rfl rfl⟩ hF'.symm
  ·have hl2i:¬ (l.length:Int)=4:=by omega
   have hF':F=cFail 1 s:=by rw [← hF]; unfold cForm; simp [hl2,nwIfwQuote,nwIfwDo,nwIfwFn,nwIfwLet]
   ((repeat(first|((with_reducible first|apply Wp.gs|apply Wp.cs|apply Zd|apply Zf|apply Zc|apply Zg|apply Wp.step);case h=>((try simp(disch:=omega)only[↓reduceIte,Za,↓X0,X1,Nat.reduceEqDiff,Int.reduceEq,Nat.reduceAdd,Nat.reduceSub,X2,Zi,Nat.reduceLeDiff,eq_self.{1},hlen,hl2i,nwIfwQuote,nwIfwDo,nwIfwFn,nwIfwLet]);with_reducible first|done|exact rfl|exact bT|exact bF))|apply Ze|apply Zh|with_reducible apply Zl|simp only[↓X3]|with_reducible apply Zb));try(with_reducible apply Zm;case h=>((try simp(disch:=omega)only[X1,Nat.reduceEqDiff,eq_self.{1},hlen,hl2i,nwIfwQuote,nwIfwDo,nwIfwFn,nwIfwLet]);with_reducible exact rfl)))
   refine Zy (k111 (h.mv (by omega) rfl rfl) 1 (by decide)) ?_
   rintro _ H2 n2 q2 s2 ⟨rfl,h2⟩
   (repeat(first|((with_reducible first|apply Wp.gs|apply Wp.cs|apply Zd|apply Zf|apply Zc|apply Zg|apply Wp.step);case h=>((try simp(disch:=omega)only[↓reduceIte,Za,↓X0,X1,Nat.reduceEqDiff,Int.reduceEq,Nat.reduceAdd,Nat.reduceSub]);with_reducible first|done|exact rfl|exact bT|exact bF))|apply Ze|apply Zh|with_reducible apply Zl|simp only[↓X3]|with_reducible apply Zb))
   exact fin _ _ _ (by omega) (fun i a b c=>s2 i (by omega) b c) ⟨ul,il,.inl rfl,h2.mv (by omega) rfl rfl⟩ hF'.symm
 by_cases e2:w=wDo
 ·subst e2
  by_cases hl2:1 < l.length
  ·have hl2i:(1:Int) < (l.length:Int):=by omega
   have hF':F=cBody E e (l.drop 1) s:=by rw [← hF]; unfold cForm; simp [hl2,nwDowQuote,nwDowIf]
   obtain ⟨w1,hs1,hw1⟩:=hw.tail (by decide) 1 (by omega)
   have hs1':sliceV 1 wl (some (.int .i64 1)) none=some w1:=hs1
   ((repeat(first|((with_reducible first|apply Wp.gs|apply Wp.cs|apply Zd|apply Zf|apply Zc|apply Zg|apply Wp.step);case h=>((try simp(disch:=omega)only[↓reduceIte,Za,↓X0,X1,Nat.reduceEqDiff,Int.reduceEq,Nat.reduceAdd,Nat.reduceSub,X2,Zi,Nat.reduceLeDiff,eq_self.{1},hlen,hl2i,nwDowQuote,nwDowIf,hs1']);with_reducible first|done|exact rfl|exact bT|exact bF))|apply Ze|apply Zh|with_reducible apply Zl|simp only[↓X3]|with_reducible apply Zb));try(with_reducible apply Zm;case h=>((try simp(disch:=omega)only[X1,Nat.reduceEqDiff,eq_self.{1},hlen,hl2i,nwDowQuote,nwDowIf,hs1']);with_reducible exact rfl)))
   refine Zy (k114 (fun x hx=>hE x (List.mem_of_mem_drop hx)) (h.mv (by omega) rfl rfl) (hv.mv (by omega) (fun _ _ _ _=>rfl) (.inl rfl)) he (fun x hx=>by have:=hex x (List.mem_of_mem_drop hx); omega) (hev.mv (by omega) (fun _ _ _ _=>rfl) (.inl rfl)) (hw1.mv (by omega) (fun _ _ _ _=>rfl) (.inl rfl)) (by rw [List.length_drop]; omega)) ?_
   rintro _ H2 n2 q2 s2 ⟨rfl,ul2,il2,i2,h2⟩
   (repeat(first|((with_reducible first|apply Wp.gs|apply Wp.cs|apply Zd|apply Zf|apply Zc|apply Zg|apply Wp.step);case h=>((try simp(disch:=omega)only[↓reduceIte,Za,↓X0,X1,Nat.reduceEqDiff,Int.reduceEq,Nat.reduceAdd,Nat.reduceSub]);with_reducible first|done|exact rfl|exact bT|exact bF))|apply Ze|apply Zh|with_reducible apply Zl|simp only[↓X3]|with_reducible apply Zb))
   exact fin _ _ _ (by omega) (fun i a b c=>s2 i (by omega) b c) ⟨ul2,il2,by omega,h2.mv (by omega) rfl rfl⟩ hF'.symm
  ·have hl2i:¬ (1:Int) < (l.length:Int):=by omega
   have hF':F=cFail 1 s:=by rw [← hF]; unfold cForm; simp [hl2,nwDowQuote,nwDowIf,nwDowFn,nwDowLet]
   ((repeat(first|((with_reducible first|apply Wp.gs|apply Wp.cs|apply Zd|apply Zf|apply Zc|apply Zg|apply Wp.step);case h=>((try simp(disch:=omega)only[↓reduceIte,Za,↓X0,X1,Nat.reduceEqDiff,Int.reduceEq,Nat.reduceAdd,Nat.reduceSub,X2,Zi,Nat.reduceLeDiff,eq_self.{1},hlen,hl2i,nwDowQuote,nwDowIf,nwDowFn,nwDowLet]);with_reducible first|done|exact rfl|exact bT|exact bF))|apply Ze|apply Zh|with_reducible apply Zl|simp only[↓X3]|with_reducible apply Zb));try(with_reducible apply Zm;case h=>((try simp(disch:=omega)only[X1,Nat.reduceEqDiff,eq_self.{1},hlen,hl2i,nwDowQuote,nwDowIf,nwDowFn,nwDowLet]);with_reducible exact rfl)))
   refine Zy (k111 (h.mv (by omega) rfl rfl) 1 (by decide)) ?_
   rintro _ H2 n2 q2 s2 ⟨rfl,h2⟩
   (repeat(first|((with_reducible first|apply Wp.gs|apply Wp.cs|apply Zd|apply Zf|apply Zc|apply Zg|apply Wp.step);case h=>((try simp(disch:=omega)only[↓reduceIte,Za,↓X0,X1,Nat.reduceEqDiff,Int.reduceEq,Nat.reduceAdd,Nat.reduceSub]);with_reducible first|done|exact rfl|exact bT|exact bF))|apply Ze|apply Zh|with_reducible apply Zl|simp only[↓X3]|with_reducible apply Zb))
   exact fin _ _ _ (by omega) (fun i a b c=>s2 i (by omega) b c) ⟨ul,il,.inl rfl,h2.mv (by omega) rfl rfl⟩ hF'.symm
 by_cases e3:w=wFn
 ·subst e3
  by_cases hl2:2 < l.length
  ·have hl2i:(2:Int) < (l.length:Int):=by omega
   have m1:=gi_mem (l:=l) (i:=1) (by omega) (by omega)
   have r1:=hr _ m1
   have g1:=hw.li.iAll (i:=1) (by omega) (by omega)
   have hF':F=(if (Zu p (gi l 1)).2=true then cFn E p (Zu p (gi l 1)).1 (l.drop 2) e s else cFail 1 s):=by rw [← hF]; unfold cForm; simp [hl2,nwFnwQuote,nwFnwIf,nwFnwDo]
   obtain ⟨w1,hs1,hw1⟩:=hw.tail (by decide) 2 (by omega)
   have hs1':sliceV 1 wl (some (.int .i64 2)) none=some w1:=hs1
   ((repeat(first|((with_reducible first|apply Wp.gs|apply Wp.cs|apply Zd|apply Zf|apply Zc|apply Zg|apply Wp.step);case h=>((try simp(disch:=omega)only[↓reduceIte,Za,↓X0,X1,Nat.reduceEqDiff,Int.reduceEq,Nat.reduceAdd,Nat.reduceSub,X2,Zi,Nat.reduceLeDiff,eq_self.{1},hlen,hl2i,nwFnwQuote,nwFnwIf,nwFnwDo,g1]);with_reducible first|done|exact rfl|exact bT|exact bF))|apply Ze|apply Zh|with_reducible apply Zl|simp only[↓X3]|with_reducible apply Zb));try(with_reducible apply Zm;case h=>((try simp(disch:=omega)only[X1,Nat.reduceEqDiff,eq_self.{1},hlen,hl2i,nwFnwQuote,nwFnwIf,nwFnwDo,g1]);with_reducible exact rfl)))
   refine Wp.rtn (k89 (o:=0) (hv.li.mv (by omega) (fun _ _=>rfl)) hp (by omega) hc rfl _ r1.1 r1.2) ?_
   rintro _ H2 n2 q2 s2 ⟨up,rfl,hup⟩
   have hnt:notTup up=true:=by obtain ⟨_,_,_,hat⟩:=hup; rcases hat with ⟨h,_⟩ | ⟨h,_⟩ <;> rw [h] <;> rfl
   cases hch:(Zu p (gi l 1)).2 with
   | false =>
    rw [hch,if_neg (by decide)] at hF'
    ((repeat(first|((with_reducible first|apply Wp.gs|apply Wp.cs|apply Zd|apply Zf|apply Zc|apply Zg|apply Wp.step);case h=>((try simp(disch:=omega)only[↓reduceIte,Za,↓X0,X1,Nat.reduceEqDiff,Int.reduceEq,Nat.reduceAdd,Nat.reduceSub,hnt]);with_reducible first|done|exact rfl|exact bT|exact bF))|apply Ze|apply Zh|with_reducible apply Zl|simp only[↓X3]|with_reducible apply Zb));try(with_reducible apply Zm;case h=>((try simp(disch:=omega)only[X1,Nat.reduceEqDiff,hnt]);with_reducible exact rfl)))
    refine Zy (k111 (h.mv (by omega) (s2 c (by omega)) (s2 il (by omega))) 1 (by decide)) ?_
    rintro _ H3 n3 q3 s3 ⟨rfl,h3⟩
    (repeat(first|((with_reducible first|apply Wp.gs|apply Wp.cs|apply Zd|apply Zf|apply Zc|apply Zg|apply Wp.step);case h=>((try simp(disch:=omega)only[↓reduceIte,Za,↓X0,X1,Nat.reduceEqDiff,Int.reduceEq,Nat.reduceAdd,Nat.reduceSub]);with_reducible first|done|exact rfl|exact bT|exact bF))|apply Ze|apply Zh|with_reducible apply Zl|simp only[↓X3]|with_reducible apply Zb))
    exact fin _ _ _ (by omega) (fun i a b c=>(s3 i (by omega) b c).trans (s2 i (by omega))) ⟨ul,il,.inl rfl,h3.mv (by omega) rfl rfl⟩ hF'.symm
   | true =>
    rw [hch,if_pos rfl] at hF'
    have hmm:=chainOf_mem hp r1.1 r1.2
    have hcl:=chainOf_len r1.1 r1.2
    obtain ⟨idp,p1,p2,p3⟩:=hup
    ((repeat(first|((with_reducible first|apply Wp.gs|apply Wp.cs|apply Zd|apply Zf|apply Zc|apply Zg|apply Wp.step);case h=>((try simp(disch:=omega)only[↓reduceIte,Za,↓X0,X1,Nat.reduceEqDiff,Int.reduceEq,Nat.reduceAdd,Nat.reduceSub,hnt]);with_reducible first|done|exact rfl|exact bT|exact bF))|apply Ze|apply Zh|with_reducible apply Zl|simp only[↓X3]|with_reducible apply Zb));try(with_reducible apply Zm;case h=>((try simp(disch:=omega)only[X1,Nat.reduceEqDiff,hnt]);with_reducible exact rfl)))
    have hc2:H2 c=some (.row [v,ul,ud,.int .i64 s.how] 0 true):=by rw [s2 c (by omega)]; exact hc
    refine Wp.rtn (k113 (hv.li.mv (by omega) (fun i hi=>s2 i (by omega))) hc2 (by omega) (p3.lst (by omega)) (fun x hx=>by have:=hmm x hx; omega) (by omega)) ?_
    rintro _ H3 n3 q3 s3 ⟨un,rfl,hun⟩
    have hnt2:notTup un=true:=by obtain ⟨_,_,_,hat⟩:=hun; rcases hat with ⟨h,_⟩ | ⟨h,_⟩ <;> rw [h] <;> rfl
    have hnr:=cNames_rng p (Zu p (gi l 1)).1
    unfold cFn at hF'
    by_cases hn0:(cNames p (Zu p (gi l 1)).1).2=0
    ·rw [if_pos hn0] at hF'
     ((repeat(first|((with_reducible first|apply Wp.gs|apply Wp.cs|apply Zd|apply Zf|apply Zc|apply Zg|apply Wp.step);case h=>((try simp(disch:=omega)only[↓reduceIte,Za,↓X0,X1,Nat.reduceEqDiff,Int.reduceEq,Nat.reduceAdd,Nat.reduceSub,hnt2,hn0,hs1']);with_reducible first|done|exact rfl|exact bT|exact bF))|apply Ze|apply Zh|with_reducible apply Zl|simp only[↓X3]|with_reducible apply Zb));try(with_reducible apply Zm;case h=>((try simp(disch:=omega)only[X1,Nat.reduceEqDiff,hnt2,hn0,hs1']);with_reducible exact rfl)))
     refine Zy (k132 hg (fun x hx=>hE x (List.mem_of_mem_drop hx)) (h.mv (by omega) ((s3 c (by omega)).trans (s2 c (by omega))) ((s3 il (by omega)).trans (s2 il (by omega)))) (hv.mv (by omega) (fun i a _ _=>(s3 i (by omega)).trans (s2 i (by omega))) (.inl rfl)) he (fun x hx=>hex x (List.mem_of_mem_drop hx)) (by have:=hex _ m1; omega) hnr.2 (hev.mv (by omega) (fun i a _ _=>(s3 i (by omega)).trans (s2 i (by omega))) (.inl rfl)) ((hun.lo (by omega) (by omega)).mv (by omega) (fun _ _ _ _=>rfl) (.inl rfl)) (hw1.mv (by omega) (fun i a _ _=>(s3 i (by omega)).trans (s2 i (by omega))) (.inl rfl)) (by rw [List.length_drop]; omega)) ?_
     rintro _ H4 n4 q4 s4 ⟨rfl,ul4,il4,i4,h4⟩
     (repeat(first|((with_reducible first|apply Wp.gs|apply Wp.cs|apply Zd|apply Zf|apply Zc|apply Zg|apply Wp.step);case h=>((try simp(disch:=omega)only[↓reduceIte,Za,↓X0,X1,Nat.reduceEqDiff,Int.reduceEq,Nat.reduceAdd,Nat.reduceSub]);with_reducible first|done|exact rfl|exact bT|exact bF))|apply Ze|apply Zh|with_reducible apply Zl|simp only[↓X3]|with_reducible apply Zb))
     exact fin _ _ _ (by omega) (fun i a b c=>(s4 i (by omega) b c).trans ((s3 i (by omega)).trans (s2 i (by omega)))) ⟨ul4,il4,by omega,h4.mv (by omega) rfl rfl⟩ hF'.symm
    ·rw [if_neg hn0] at hF'
     ((repeat(first|((with_reducible first|apply Wp.gs|apply Wp.cs|apply Zd|apply Zf|apply Zc|apply Zg|apply Wp.step);case h=>((try simp(disch:=omega)only[↓reduceIte,Za,↓X0,X1,Nat.reduceEqDiff,Int.reduceEq,Nat.reduceAdd,Nat.reduceSub,hnt2,hn0]);with_reducible first|done|exact rfl|exact bT|exact bF))|apply Ze|apply Zh|with_reducible apply Zl|simp only[↓X3]|with_reducible apply Zb));try(with_reducible apply Zm;case h=>((try simp(disch:=omega)only[X1,Nat.reduceEqDiff,hnt2,hn0]);with_reducible exact rfl)))
     refine Zy (k111 (h.mv (by omega) ((s3 c (by omega)).trans (s2 c (by omega))) ((s3 il (by omega)).trans (s2 il (by omega)))) _ (by omega)) ?_
     rintro _ H4 n4 q4 s4 ⟨rfl,h4⟩
     (repeat(first|((with_reducible first|apply Wp.gs|apply Wp.cs|apply Zd|apply Zf|apply Zc|apply Zg|apply Wp.step);case h=>((try simp(disch:=omega)only[↓reduceIte,Za,↓X0,X1,Nat.reduceEqDiff,Int.reduceEq,Nat.reduceAdd,Nat.reduceSub]);with_reducible first|done|exact rfl|exact bT|exact bF))|apply Ze|apply Zh|with_reducible apply Zl|simp only[↓X3]|with_reducible apply Zb))
     exact fin _ _ _ (by omega) (fun i a b c=>(s4 i (by omega) b c).trans ((s3 i (by omega)).trans (s2 i (by omega)))) ⟨ul,il,.inl rfl,h4.mv (by omega) rfl rfl⟩ hF'.symm
  ·have hl2i:¬ (2:Int) < (l.length:Int):=by omega
   have hF':F=cFail 1 s:=by rw [← hF]; unfold cForm; simp [hl2,nwFnwQuote,nwFnwIf,nwFnwDo,nwFnwLet]
   ((repeat(first|((with_reducible first|apply Wp.gs|apply Wp.cs|apply Zd|apply Zf|apply Zc|apply Zg|apply Wp.step);case h=>((try simp(disch:=omega)only[↓reduceIte,Za,↓X0,X1,Nat.reduceEqDiff,Int.reduceEq,Nat.reduceAdd,Nat.reduceSub,X2,Zi,Nat.reduceLeDiff,eq_self.{1},hlen,hl2i,nwFnwQuote,nwFnwIf,nwFnwDo,nwFnwLet]);with_reducible first|done|exact rfl|exact bT|exact bF))|apply Ze|apply Zh|with_reducible apply Zl|simp only[↓X3]|with_reducible apply Zb));try(with_reducible apply Zm;case h=>((try simp(disch:=omega)only[X1,Nat.reduceEqDiff,eq_self.{1},hlen,hl2i,nwFnwQuote,nwFnwIf,nwFnwDo,nwFnwLet]);with_reducible exact rfl)))
   refine Zy (k111 (h.mv (by omega) rfl rfl) 1 (by decide)) ?_
   rintro _ H2 n2 q2 s2 ⟨rfl,h2⟩
   (repeat(first|((with_reducible first|apply Wp.gs|apply Wp.cs|apply Zd|apply Zf|apply Zc|apply Zg|apply Wp.step);case h=>((try simp(disch:=omega)only[↓reduceIte,Za,↓X0,X1,Nat.reduceEqDiff,Int.reduceEq,Nat.reduceAdd,Nat.reduceSub]);with_reducible first|done|exact rfl|exact bT|exact bF))|apply Ze|apply Zh|with_reducible apply Zl|simp only[↓X3]|with_reducible apply Zb))
   exact fin _ _ _ (by omega) (fun i a b c=>s2 i (by omega) b c) ⟨ul,il,.inl rfl,h2.mv (by omega) rfl rfl⟩ hF'.symm
 by_cases e4:w=wLet
 ·subst e4
  by_cases hl2:3 < l.length
  ·have hl2i:(3:Int) < (l.length:Int):=by omega
   have m1:=gi_mem (l:=l) (i:=1) (by omega) (by omega)
   have m2:=gi_mem (l:=l) (i:=2) (by omega) (by omega)
   have r1:=hr _ m1
   have hF':F=(if (cNames p [gi l 1]).2=0 then cPut (Zw 7 0 1) (E (gi l 2) e (cFun E (cNames p [gi l 1]).1 (l.drop 3) e s)) else cFail (cNames p [gi l 1]).2 s):=by rw [← hF]; unfold cForm; simp [hl2,nwLetwQuote,nwLetwIf,nwLetwDo,nwLetwFn]
   obtain ⟨w0,hs0,hw0⟩:=hw.one1 (by omega)
   obtain ⟨w1,hs1,hw1⟩:=hw.tail (by decide) 3 (by omega)
   have hs1':sliceV 1 wl (some (.int .i64 3)) none=some w1:=hs1
   ((repeat(first|((with_reducible first|apply Wp.gs|apply Wp.cs|apply Zd|apply Zf|apply Zc|apply Zg|apply Wp.step);case h=>((try simp(disch:=omega)only[↓reduceIte,Za,↓X0,X1,Nat.reduceEqDiff,Int.reduceEq,Nat.reduceAdd,Nat.reduceSub,X2,Zi,Nat.reduceLeDiff,eq_self.{1},hlen,hl2i,nwLetwQuote,nwLetwIf,nwLetwDo,nwLetwFn,hs0]);with_reducible first|done|exact rfl|exact bT|exact bF))|apply Ze|apply Zh|with_reducible apply Zl|simp only[↓X3]|with_reducible apply Zb));try(with_reducible apply Zm;case h=>((try simp(disch:=omega)only[X1,Nat.reduceEqDiff,eq_self.{1},hlen,hl2i,nwLetwQuote,nwLetwIf,nwLetwDo,nwLetwFn,hs0]);with_reducible exact rfl)))
   refine Wp.rtn (k113 (hv.li.mv (by omega) (fun i hi=>rfl)) hc (by omega) (hw0.li.mv (by omega) (fun _ _=>rfl)) (fun x hx=>by simp at hx; rw [hx]; exact r1) (by simp)) ?_
   rintro _ H3 n3 q3 s3 ⟨un,rfl,hun⟩
   have hnt2:notTup un=true:=by obtain ⟨_,_,_,hat⟩:=hun; rcases hat with ⟨h,_⟩ | ⟨h,_⟩ <;> rw [h] <;> rfl
   have hnr:=cNames_rng p [gi l 1]
   by_cases hn0:(cNames p [gi l 1]).2=0
   ·rw [if_pos hn0] at hF'
    ((repeat(first|((with_reducible first|apply Wp.gs|apply Wp.cs|apply Zd|apply Zf|apply Zc|apply Zg|apply Wp.step);case h=>((try simp(disch:=omega)only[↓reduceIte,Za,↓X0,X1,Nat.reduceEqDiff,Int.reduceEq,Nat.reduceAdd,Nat.reduceSub,hnt2,hn0,hs1']);with_reducible first|done|exact rfl|exact bT|exact bF))|apply Ze|apply Zh|with_reducible apply Zl|simp only[↓X3]|with_reducible apply Zb));try(with_reducible apply Zm;case h=>((try simp(disch:=omega)only[X1,Nat.reduceEqDiff,hnt2,hn0,hs1']);with_reducible exact rfl)))
    refine Zy (k132 hg (fun x hx=>hE x (List.mem_of_mem_drop hx)) (h.mv (by omega) (s3 c (by omega)) (s3 il (by omega))) (hv.mv (by omega) (fun i a _ _=>s3 i (by omega)) (.inl rfl)) he (fun x hx=>hex x (List.mem_of_mem_drop hx)) (by have:=hex _ m1; omega) hnr.2 (hev.mv (by omega) (fun i a _ _=>s3 i (by omega)) (.inl rfl)) ((hun.lo (by omega) (by omega)).mv (by omega) (fun _ _ _ _=>rfl) (.inl rfl)) (hw1.mv (by omega) (fun i a _ _=>s3 i (by omega)) (.inl rfl)) (by rw [List.length_drop]; omega)) ?_
    rintro _ H4 n4 q4 s4 ⟨rfl,ul4,il4,i4,h4⟩
    have hk4:Kept c il n H H4:=fun i a b c=>(s4 i (by omega) b c).trans (s3 i (by omega))
    have g2:=(hw.mv (m:=n4) (by omega) hk4 (show il4=il∨n≤il4 by omega)).li.iAll (i:=2) (by omega) (by omega)
    have hcn4:=h4.cn
    have hiln4:=h4.iln
    ((repeat(first|((with_reducible first|apply Wp.gs|apply Wp.cs|apply Zd|apply Zf|apply Zc|apply Zg|apply Wp.step);case h=>((try simp(disch:=omega)only[↓reduceIte,Za,↓X0,X1,Nat.reduceEqDiff,Int.reduceEq,Nat.reduceAdd,Nat.reduceSub,g2]);with_reducible first|done|exact rfl|exact bT|exact bF))|apply Ze|apply Zh|with_reducible apply Zl|simp only[↓X3]|with_reducible apply Zb));try(with_reducible apply Zm;case h=>((try simp(disch:=omega)only[X1,Nat.reduceEqDiff,g2]);with_reducible exact rfl)))
    refine Zy (hE _ m2 c il4 _ _ ul4 ud ew _ e (h4.mv (by omega) rfl rfl) (hv.mv (by omega) hk4 (by omega)) he (by have:=hex _ m2; omega) (hev.mv (by omega) hk4 (by omega))) ?_
    rintro _ H5 n5 q5 s5 ⟨rfl,ul5,il5,i5,h5⟩
    have hcn5:=h5.cn
    have hiln5:=h5.iln
    ((repeat(first|((with_reducible first|apply Wp.gs|apply Wp.cs|apply Zd|apply Zf|apply Zc|apply Zg|apply Wp.step);case h=>((try simp(disch:=omega)only[↓reduceIte,Za,↓X0,X1,Nat.reduceEqDiff,Int.reduceEq,Nat.reduceAdd,Nat.reduceSub,bld_ins3]);with_reducible first|done|exact rfl|exact bT|exact bF))|apply Ze|apply Zh|with_reducible apply Zl|simp only[↓X3]|with_reducible apply Zb));try(with_reducible apply Zm;case h=>((try simp(disch:=omega)only[X1,Nat.reduceEqDiff,bld_ins3]);with_reducible exact rfl)))
    refine Zy (k115 (h5.mv (by omega) rfl rfl) (Zw 7 0 1)) ?_
    rintro _ H6 n6 q6 s6 ⟨rfl,ul6,il6,i6,h6⟩
    (repeat(first|((with_reducible first|apply Wp.gs|apply Wp.cs|apply Zd|apply Zf|apply Zc|apply Zg|apply Wp.step);case h=>((try simp(disch:=omega)only[↓reduceIte,Za,↓X0,X1,Nat.reduceEqDiff,Int.reduceEq,Nat.reduceAdd,Nat.reduceSub]);with_reducible first|done|exact rfl|exact bT|exact bF))|apply Ze|apply Zh|with_reducible apply Zl|simp only[↓X3]|with_reducible apply Zb))
    exact fin _ _ _ (by omega) (fun i a b c=>by rw [s6 i (by omega) b (by omega),s5 i (by omega) b (by omega)]; exact hk4 i a b c) ⟨ul6,il6,by omega,h6.mv (by omega) rfl rfl⟩ hF'.symm
   ·rw [if_neg hn0] at hF'
    ((repeat(first|((with_reducible first|apply Wp.gs|apply Wp.cs|apply Zd|apply Zf|apply Zc|apply Zg|apply Wp.step);case h=>((try simp(disch:=omega)only[↓reduceIte,Za,↓X0,X1,Nat.reduceEqDiff,Int.reduceEq,Nat.reduceAdd,Nat.reduceSub,hnt2,hn0]);with_reducible first|done|exact rfl|exact bT|exact bF))|apply Ze|apply Zh|with_reducible apply Zl|simp only[↓X3]|with_reducible apply Zb));try(with_reducible apply Zm;case h=>((try simp(disch:=omega)only[X1,Nat.reduceEqDiff,hnt2,hn0]);with_reducible exact rfl)))
    refine Zy (k111 (h.mv (by omega) (s3 c (by omega)) (s3 il (by omega))) _ (by omega)) ?_
    rintro _ H4 n4 q4 s4 ⟨rfl,h4⟩
    (repeat(first|((with_reducible first|apply Wp.gs|apply Wp.cs|apply Zd|apply Zf|apply Zc|apply Zg|apply Wp.step);case h=>((try simp(disch:=omega)only[↓reduceIte,Za,↓X0,X1,Nat.reduceEqDiff,Int.reduceEq,Nat.reduceAdd,Nat.reduceSub]);with_reducible first|done|exact rfl|exact bT|exact bF))|apply Ze|apply Zh|with_reducible apply Zl|simp only[↓X3]|with_reducible apply Zb))
    exact fin _ _ _ (by omega) (fun i a b c=>(s4 i (by omega) b c).trans (s3 i (by omega))) ⟨ul,il,.inl rfl,h4.mv (by omega) rfl rfl⟩ hF'.symm
  ·have hl2i:¬ (3:Int) < (l.length:Int):=by omega
   have hF':F=cFail 1 s:=by rw [← hF]; unfold cForm; simp [hl2,nwLetwQuote,nwLetwIf,nwLetwDo,nwLetwFn]
   ((repeat(first|((with_reducible first|apply Wp.gs|apply Wp.cs|apply Zd|apply Zf|apply Zc|apply Zg|apply Wp.step);case h=>((try simp(disch:=omega)only[↓reduceIte,Za,↓X0,X1,Nat.reduceEqDiff,Int.reduceEq,Nat.reduceAdd,Nat.reduceSub,X2,Zi,Nat.reduceLeDiff,eq_self.{1},hlen,hl2i,nwLetwQuote,nwLetwIf,nwLetwDo,nwLetwFn]);with_reducible first|done|exact rfl|exact bT|exact bF))|apply Ze|apply Zh|with_reducible apply Zl|simp only[↓X3]|with_reducible apply Zb));try(with_reducible apply Zm;case h=>((try simp(disch:=omega)only[X1,Nat.reduceEqDiff,eq_self.{1},hlen,hl2i,nwLetwQuote,nwLetwIf,nwLetwDo,nwLetwFn]);with_reducible exact rfl)))
   refine Zy (k111 (h.mv (by omega) rfl rfl) 1 (by decide)) ?_
   rintro _ H2 n2 q2 s2 ⟨rfl,h2⟩
   (repeat(first|((with_reducible first|apply Wp.gs|apply Wp.cs|apply Zd|apply Zf|apply Zc|apply Zg|apply Wp.step);case h=>((try simp(disch:=omega)only[↓reduceIte,Za,↓X0,X1,Nat.reduceEqDiff,Int.reduceEq,Nat.reduceAdd,Nat.reduceSub]);with_reducible first|done|exact rfl|exact bT|exact bF))|apply Ze|apply Zh|with_reducible apply Zl|simp only[↓X3]|with_reducible apply Zb))
   exact fin _ _ _ (by omega) (fun i a b c=>s2 i (by omega) b c) ⟨ul,il,.inl rfl,h2.mv (by omega) rfl rfl⟩ hF'.symm
 have hF':F=cFail 1 s:=by rw [← hF]; unfold cForm; simp [e0,e1,e2,e3,e4]
 ((repeat(first|((with_reducible first|apply Wp.gs|apply Wp.cs|apply Zd|apply Zf|apply Zc|apply Zg|apply Wp.step);case h=>((try simp(disch:=omega)only[↓reduceIte,Za,↓X0,X1,Nat.reduceEqDiff,Int.reduceEq,Nat.reduceAdd,Nat.reduceSub,X2,Zi,Nat.reduceLeDiff,eq_self.{1},hlen,e0,e1,e2,e3,e4]);with_reducible first|done|exact rfl|exact bT|exact bF))|apply Ze|apply Zh|with_reducible apply Zl|simp only[↓X3]|with_reducible apply Zb));try(with_reducible apply Zm;case h=>((try simp(disch:=omega)only[X1,Nat.reduceEqDiff,eq_self.{1},hlen,e0,e1,e2,e3,e4]);with_reducible exact rfl)))
 refine Zy (k111 (h.mv (by omega) rfl rfl) 1 (by decide)) ?_
 rintro _ H2 n2 q2 s2 ⟨rfl,h2⟩
 (repeat(first|((with_reducible first|apply Wp.gs|apply Wp.cs|apply Zd|apply Zf|apply Zc|apply Zg|apply Wp.step);case h=>((try simp(disch:=omega)only[↓reduceIte,Za,↓X0,X1,Nat.reduceEqDiff,Int.reduceEq,Nat.reduceAdd,Nat.reduceSub]);with_reducible first|done|exact rfl|exact bT|exact bF))|apply Ze|apply Zh|with_reducible apply Zl|simp only[↓X3]|with_reducible apply Zb))
 exact fin _ _ _ (by omega) (fun i a b c=>s2 i (by omega) b c) ⟨ul,il,.inl rfl,h2.mv (by omega) rfl rfl⟩ hF'.symm
end Go.Proofs.Ytbgkimkbngocjaa.Ax
