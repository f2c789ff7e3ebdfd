/- What the law needs: laws of the abstract machine, and contracts of functions. -/
import Derived.Test.YtcffcnipmgkjfaaGreatM2
import Derived.Test.YtcffcnipmgkjfaaGreatM3
set_option linter.unusedVariables false
set_option linter.unusedSimpArgs false
set_option maxHeartbeats 8000000
namespace Go.Proofs.YtcffcnipmgkjfaaGreat.Ax
open Go
def InsOk (x:Ins)(k m a:Int):Prop :=
 (x.op=1/\(0<=x.n/\x.n < k)/\x.i=0/\x.s=⟨#[]⟩) ∨
 (x.op=2/\(0<=x.n/\x.n<=20)/\(0<=x.i/\x.i<=3)/\x.s=⟨#[]⟩) ∨
 (x.op=3/\x.n=0/\x.i=0/\Yd x.s=true) ∨
 ((x.op=4∨x.op=5)/\(a+1<=x.n/\x.n<=m)/\x.i=0/\x.s=⟨#[]⟩) ∨
 (x.op=6/\(a+1<=x.n/\x.n<=m - 1)/\(0<=x.i/\x.i<=4)/\x.s=⟨#[]⟩) ∨
 (x.op=7/\x.n=0/\(0<=x.i/\x.i<=4)/\x.s=⟨#[]⟩) ∨
 ((x.op=8∨x.op=9)/\x.n=0/\x.i=0/\x.s=⟨#[]⟩)
instance (x:Ins) (k m a:Int):Decidable (InsOk x k m a):=by unfold InsOk; infer_instance
theorem Xk (k n a:Int)(s:ByteArray)(k' n' a':Int)(s':ByteArray):Zd (.agg [(0,(.int .i64)),(1,(.int .i64)),(2,(.int .i64)),(3,.string)]) .eql (.agg ⟨[.int .i64 k,.int .i64 n,.int .i64 a,.string s]⟩) (.agg ⟨[.int .i64 k',.int .i64 n',.int .i64 a',.string s']⟩)=some (.bool (decide (k=k'/\n=n'/\a=a'/\s=s'))):=by
 have e:Zd (.agg [(0,(.int .i64)),(1,(.int .i64)),(2,(.int .i64)),(3,.string)]) .eql (.agg ⟨[.int .i64 k,.int .i64 n,.int .i64 a,.string s]⟩) (.agg ⟨[.int .i64 k',.int .i64 n',.int .i64 a',.string s']⟩)=some (.bool ((k == k') && ((n == n') && ((a == a') && ((s.toList == s'.toList) && true))))):=rfl
 rw[e,text_beq]
 by_cases h1:k=k' <;> by_cases h2:n=n' <;> by_cases h3:s=s' <;> by_cases h4:a=a' <;> simp[h1,h2,h3,h4]
theorem rNameOk (s:ByteArray)(hs:s.size<=1048576)(H:Hp)(n:Nat):Rt Tryz.prog 75 [.string s] H n (.bool (Yd s)):=by
 obtain⟨H1,n1,a1,a2,a3⟩:=k75 s hs H n
 exact⟨H1,n1,a1,a2,a3⟩
theorem sNameOk (s:ByteArray)(hs:s.size<=1048576)(H:Hp)(n:Nat):Rt Tryz.prog 79 [.string s] H n (.bool (Yd s)):=by
 obtain⟨n1,a1,a3⟩:=k79 s hs H n
 exact⟨H,n1,a1,Same.refl _ _,a3⟩
theorem k74 {n:Nat}{H:Hp}{v vl vd:Value}{l:List Nd}{li:List Ins}(hv:Li eNode n H v l)(hl:l.length<=1048576)(hvl:Li eIns n H vl li)(hli:li.length<=400)(hsz:∀ x∈li,x.s.size<=1048576){j:Nat}(hj:j < li.length):Rt Tryz.prog 74 [.agg ⟨[v,vl,vd]⟩,.int .i64 j] H n (.bool (decide (InsOk (gi li (j:Int)) l.length li.length j))):=by
 apply Rt.mk
 rw[c74];unfold S74
 have hji:(j:Int) < li.length:=by omega
 have hw1:IntKind.i64.wrap ((j:Int)+1)=(j:Int)+1:=Wo Om
 have hw2:IntKind.i64.wrap ((li.length:Int) - 1)=(li.length:Int) - 1:=Wo Om
 have hx:=hsz _ (Yb (l:=li) (i:=(j:Int)) Om hji)
 have g:=(hvl.mv (H':=H.set n (some (.row [v,vl,vd] 0 true))) (Nat.le_refl _) Mo).sAll (i:=(j:Int)) Om hji
 have hlen:=hvl.len
 generalize gi li (j:Int)=x at g hx ⊢
 obtain⟨xo,xn,xi,xs⟩:=x
 simp only[Ins.cells]at g hx
 generalize hm:(li.length:Int)=m at *
 have fin:∀ (b:Bool) (H':Hp) (n':Nat),n<=n'->(∀ i,i < n->H' i=H i)->b=decide (InsOk ⟨xo,xn,xi,xs⟩ l.length m j)->Wp (some (Value.bool b,H',n')) (fun q=>n<=q.2.2/\(∀ i,i < n->q.2.1 i=H i)/\q.1=.bool (decide (InsOk ⟨xo,xn,xi,xs⟩ l.length m j))):=by
  intro b H' n' h1 h2 h3
  exact Wp.pure ⟨h1,h2,by rw[h3]⟩
 by_cases e1:xo=1
 ·subst e1
  refine W1 g ?_
  refine Zv (k41 (hv.mv Om Mo) hl xn) ?_
  intro H1 n1 q1 s1
  refine W1 s1 ?_
  refine fin _ _ _ Om ((Mm s1)) ?_
  rw[Bool.eq_iff_iff];simp[InsOk];try grind
 by_cases e2:xo=2
 ·subst e2
  refine W1 (Zu g @k43) ?_
  refine fin _ _ _ Om Mo ?_
  rw[Bool.eq_iff_iff];simp[InsOk];try grind
 by_cases e3:xo=3
 ·subst e3
  refine W1 (Zu g @k43) ?_
  refine Zv (rNameOk xs hx _ _) ?_
  intro H1 n1 q1 s1
  refine W1 trivial ?_
  refine fin _ _ _ Om ((Mm s1)) ?_
  rw[Bool.eq_iff_iff];simp[InsOk];try grind
 by_cases e4:xo=4
 ·subst e4
  refine W1 (Xm g @k43 hlen hw1 hw2) ?_
  refine fin _ _ _ Om Mo ?_
  rw[Bool.eq_iff_iff];simp[InsOk];try grind
 by_cases e5:xo=5
 ·subst e5
  refine W1 (Xm g @k43 hlen hw1 hw2) ?_
  refine fin _ _ _ Om Mo ?_
  rw[Bool.eq_iff_iff];simp[InsOk];try grind
 by_cases e6:xo=6
 ·subst e6
  refine W1 (Xm g @k43 hlen hw1 hw2) ?_
  refine fin _ _ _ Om Mo ?_
  rw[Bool.eq_iff_iff];simp[InsOk];try grind
 by_cases e7:xo=7
 ·subst e7
  refine W1 (Xm g @k43 hlen hw1 hw2) ?_
  refine fin _ _ _ Om Mo ?_
  rw[Bool.eq_iff_iff];simp[InsOk];try grind
 by_cases e8:xo=8
 ·subst e8
  refine W1 (Xm g @k43 hlen hw1 hw2) ?_
  refine fin _ _ _ Om Mo ?_
  rw[Bool.eq_iff_iff];simp[InsOk];try grind
 by_cases e9:xo=9
 ·subst e9
  refine W1 (Xm g @k43 hlen hw1 hw2) ?_
  refine fin _ _ _ Om Mo ?_
  rw[Bool.eq_iff_iff];simp[InsOk];try grind
 refine W1 (Yj g @k43 e1 e2 e3 e4 e5 (Yv e6 e7 e8 e9)) ?_
 refine fin _ _ _ Om Mo ?_
 simp[InsOk,e1,e2,e3,e4,e5,e6,e7,e8,e9]
theorem k78 {n:Nat}{H:Hp}{v vl vd:Value}{l:List Nd}{li:List Ins}(hv:Li eNode n H v l)(hl:l.length<=1048576)(hvl:Li eIns n H vl li)(hli:li.length<=400)(hsz:∀ x∈li,x.s.size<=1048576){j:Nat}(hj:j < li.length):Rt Tryz.prog 78 [.agg ⟨[v,vl,vd]⟩,.int .i64 j] H n (.bool (decide (InsOk (gi li (j:Int)) l.length li.length j))):=by
 apply Rt.mk
 rw[c78];unfold S78
 have hji:(j:Int) < li.length:=by omega
 have hx:=hsz _ (Yb (l:=li) (i:=(j:Int)) Om hji)
 have g:=(hvl.mv (H':=H.set n (some (.row [v,vl,vd] 0 true))) (Nat.le_refl _) Mo).sAll (i:=(j:Int)) Om hji
 have hlen:=hvl.len
 generalize gi li (j:Int)=x at g hx ⊢
 obtain⟨xo,xn,xi,xs⟩:=x
 simp only[Ins.cells]at g hx
 generalize hm:(li.length:Int)=m at *
 have fin:∀ (b:Bool) (H':Hp) (n':Nat),n<=n'->(∀ i,i < n->H' i=H i)->b=decide (InsOk ⟨xo,xn,xi,xs⟩ l.length m j)->Wp (some (Value.bool b,H',n')) (fun q=>n<=q.2.2/\(∀ i,i < n->q.2.1 i=H i)/\q.1=.bool (decide (InsOk ⟨xo,xn,xi,xs⟩ l.length m j))):=by
  intro b H' n' h1 h2 h3
  exact Wp.pure ⟨h1,h2,by rw[h3]⟩
 by_cases e1:xo=1
 ·subst e1
  by_cases c0:xi=0/\xs=⟨#[]⟩
  case neg=>
   refine W1 (Yv @Xk g hlen c0) ?_
   refine fin _ _ _ Om (Mo) ?_
   rw[Bool.eq_iff_iff];simp[InsOk];try grind
  obtain⟨rfl,rfl⟩:=c0
  refine W1 (Xq @Xk g hlen @and_self @true_and @and_true) ?_
  refine Zv (k46 (hv.mv Om Mo) hl xn) ?_
  intro H1 n1 q1 s1
  refine W1 s1 ?_
  refine fin _ _ _ Om ((Mm s1)) ?_
  rw[Bool.eq_iff_iff];simp[InsOk];try grind
 by_cases e2:xo=2
 ·subst e2
  by_cases c0:xs=⟨#[]⟩
  case neg=>
   refine W1 (Yv @Xk g hlen c0) ?_
   refine fin _ _ _ Om (Mo) ?_
   rw[Bool.eq_iff_iff];simp[InsOk];try grind
  by_cases c1:0<=xn/\xn<=20
  case neg=>
   refine W1 (Xq @Xk g hlen c0 c1 @k47) ?_
   refine fin _ _ _ Om (Mo) ?_
   rw[Bool.eq_iff_iff];simp[InsOk];try grind
  refine W1 (Wt @Xk g hlen c0 c1 @k47 @and_self) ?_
  refine fin _ _ _ Om (Mo) ?_
  rw[Bool.eq_iff_iff];simp[InsOk];try grind
 by_cases e3:xo=3
 ·subst e3
  by_cases c0:xn=0/\xi=0
  case neg=>
   refine W1 (Yv @Xk g hlen c0) ?_
   refine fin _ _ _ Om (Mo) ?_
   rw[Bool.eq_iff_iff];simp[InsOk];try grind
  obtain⟨rfl,rfl⟩:=c0
  refine W1 (Xq @Xk g hlen @and_self @true_and @and_true) ?_
  refine Zv (sNameOk xs hx _ _) ?_
  intro H1 n1 q1 s1
  refine W1 trivial ?_
  refine fin _ _ _ Om ((Mm s1)) ?_
  rw[Bool.eq_iff_iff];simp[InsOk];try grind
 by_cases e4:xo=4
 ·subst e4
  by_cases c0:xi=0/\xs=⟨#[]⟩
  case neg=>
   refine W1 (Yv @Xk g hlen c0) ?_
   refine fin _ _ _ Om (Mo) ?_
   rw[Bool.eq_iff_iff];simp[InsOk];try grind
  obtain⟨rfl,rfl⟩:=c0
  by_cases c1:(j:Int) < xn
  case neg=>
   refine W1 (Wt @Xk g hlen c1 @and_self @true_and @and_true) ?_
   refine fin _ _ _ Om (Mo) ?_
   rw[Bool.eq_iff_iff];simp[InsOk];try grind
  refine W1 (Wt @Xk g hlen c1 @and_self @true_and @and_true) ?_
  refine fin _ _ _ Om (Mo) ?_
  rw[Bool.eq_iff_iff];simp[InsOk];try grind
 by_cases e5:xo=5
 ·subst e5
  by_cases c0:xi=0/\xs=⟨#[]⟩
  case neg=>
   refine W1 (Yv @Xk g hlen c0) ?_
   refine fin _ _ _ Om (Mo) ?_
   rw[Bool.eq_iff_iff];simp[InsOk];try grind
  obtain⟨rfl,rfl⟩:=c0
  by_cases c1:(j:Int) < xn
  case neg=>
   refine W1 (Wt @Xk g hlen c1 @and_self @true_and @and_true) ?_
   refine fin _ _ _ Om (Mo) ?_
   rw[Bool.eq_iff_iff];simp[InsOk];try grind
  refine W1 (Wt @Xk g hlen c1 @and_self @true_and @and_true) ?_
  refine fin _ _ _ Om (Mo) ?_
  rw[Bool.eq_iff_iff];simp[InsOk];try grind
 by_cases e6:xo=6
 ·subst e6
  by_cases c0:xs=⟨#[]⟩
  case neg=>
   refine W1 (Yv @Xk g hlen c0) ?_
   refine fin _ _ _ Om (Mo) ?_
   rw[Bool.eq_iff_iff];simp[InsOk];try grind
  by_cases c1:(j:Int) < xn
  case neg=>
   refine W1 (Xm @Xk g hlen c0 c1) ?_
   refine fin _ _ _ Om (Mo) ?_
   rw[Bool.eq_iff_iff];simp[InsOk];try grind
  by_cases c2:xn < m
  case neg=>
   refine W1 (Xq @Xk g hlen c0 c1 c2) ?_
   refine fin _ _ _ Om (Mo) ?_
   rw[Bool.eq_iff_iff];simp[InsOk];try grind
  refine W1 (Wt @Xk g hlen c0 c1 c2 @k47) ?_
  refine fin _ _ _ Om (Mo) ?_
  rw[Bool.eq_iff_iff];simp[InsOk];try grind
 by_cases e7:xo=7
 ·subst e7
  by_cases c0:xn=0/\xs=⟨#[]⟩
  case neg=>
   refine W1 (Yv @Xk g hlen c0) ?_
   refine fin _ _ _ Om (Mo) ?_
   rw[Bool.eq_iff_iff];simp[InsOk];try grind
  obtain⟨rfl,rfl⟩:=c0
  refine W1 (Wt @Xk g hlen @k47 @and_self @true_and @and_true) ?_
  refine fin _ _ _ Om (Mo) ?_
  rw[Bool.eq_iff_iff];simp[InsOk];try grind
 by_cases e8:xo=8
 ·subst e8
  refine W1 (Ye @Xk g hlen) ?_
  refine fin _ _ _ Om Mo ?_
  rw[Bool.eq_iff_iff];simp[InsOk];try grind
 by_cases e9:xo=9
 ·subst e9
  refine W1 (Ye @Xk g hlen) ?_
  refine fin _ _ _ Om Mo ?_
  rw[Bool.eq_iff_iff];simp[InsOk];try grind
 refine W1 (Yj @Xk g hlen e1 e2 e3 e4 (Xm e5 e6 e7 e8 e9)) ?_
 refine fin _ _ _ Om Mo ?_
 simp[InsOk,e1,e2,e3,e4,e5,e6,e7,e8,e9]
end Go.Proofs.YtcffcnipmgkjfaaGreat.Ax
