/- What the law needs: laws of the abstract machine, and contracts of functions. -/
import Derived.Test.YtcffcnipmgkjfaaGreatM2
import Derived.Test.YtcffcnipmgkjfaaGreatM4
set_option linter.unusedVariables false
set_option linter.unusedSimpArgs false
set_option maxHeartbeats 8000000
namespace Go.Proofs.YtcffcnipmgkjfaaGreat.Ax
open Go
def Xy (p q:List Nd)(v:Int):List Nd × List Int:=Ym (Xu q [v]) (-1) p q
theorem one_root {v:Int}{q:List Nd}(h:0<=v/\v < (q.length:Int)):∀ r∈[v],0<=r/\r < (q.length:Int):=by
 intro r hr;simp at hr;rw[hr];exact h
theorem k98 {c o id n:Nat}{H:Hp}{cs:List Value}{e:Nat}{v:Value}{p q:List Nd}{vq:Value}(h:PC c o id n H cs e v p)(hq:Li eNode n H vq q)(hqc:Off c vq)(hqi:Off id vq)(hp:PoolOk q)(x:Int)(hx:0<=x/\x < (q.length:Int)) (hpl:p.length<=1000000) :
  RtA Tryz.prog 98 [ptr c o,.agg ⟨[vq]⟩,.int .i64 x] c id H n (fun r H' n'=>r=.int .i64 (gi (Xy p q x).2 x)/\∃ v' id',(id'=id∨n<=id')/\PC c o id' n' H' (cs.set o v') e v' (Xy p q x).1):=by
 apply RtA.of
 rw[c98];unfold S98
 have hcn:=h.cn
 have hid:=h.idn
 have hR:At eInt (n+5) ((H.set n (some (.row [vq] 0 true))).set (n+5) (some (.row [.int .i64 x] 1 true))) (sl (n+5) 0 1) [x]:=.inr ⟨rfl,Ze _ _ _⟩
 refine W1 @bsl_i ?_
 refine Zj (k126 (roots:=[x]) (h.mv Om Mo Mo) (hq.mv Om Mo) hqc hqi hp (hR.lst Om) (one_root hx) (by simp) hpl) ?_
 rintro _ H1 n1 q1 s1 ⟨ida,v',id',i1,i2,rfl,i3,i4,i5,i6⟩
 have hix:=idx1 (id:=ida) (k:=.i64) (m:=q.length) hx.1 hx.2
 have hfl:=flat_i (l:=(Ym (Xu q [x]) (-1) p q).2) hx.1 (by rw[inRun_len];exact hx.2)
 refine W1 (Ye hix i3 hfl) ?_
 exact Wp.pure ⟨So,(Mm s1),rfl,v',id',by omega,i6⟩
theorem cp_gi {p q:List Nd}(hp:PoolOk q){x:Int}(hx:0<=x/\x < (q.length:Int)):(Ym (Xu q [x]) 0 p q).1=(Xy p q x).1/\gi (Ym (Xu q [x]) 0 p q).2 x=gi (Xy p q x).2 x:=by
 have h:=inRun_zz (p:=p) hp [x] 0 (-1)
 exact⟨h.1,h.2 x hx.1 hx.2 (reachM_in hp (one_root hx) (by simp))⟩
theorem k84 {c o id n:Nat}{H:Hp}{cs:List Value}{e:Nat}{v:Value}{p q:List Nd}{vq:Value}(h:PC c o id n H cs e v p)(hq:Li eNode n H vq q)(hqc:Off c vq)(hqi:Off id vq)(hp:PoolOk q)(x:Int)(hx:0<=x/\x < (q.length:Int)) (hpl:p.length<=1000000) :
  RtA Tryz.prog 84 [ptr c o,.agg ⟨[vq]⟩,.int .i64 x] c id H n (fun r H' n'=>r=.int .i64 (gi (Xy p q x).2 x)/\∃ v' id',(id'=id∨n<=id')/\PC c o id' n' H' (cs.set o v') e v' (Xy p q x).1):=by
 apply RtA.of
 rw[c84];unfold S84
 have hcn:=h.cn
 have hid:=h.idn
 have hR:At eInt (n+6) ((H.set n (some (.row [vq] 0 true))).set (n+6) (some (.row [.int .i64 x] 1 true))) (sl (n+6) 0 1) [x]:=.inr ⟨rfl,Ze _ _ _⟩
 refine W1 @bsl_i ?_
 refine Ya (k118 (roots:=[x]) (hq.mv Om Mo) hp (hR.lst Om) (one_root hx) (by simp)) ?_
 rintro _ H1 n1 q1 s1 ⟨idt,i1,i2,rfl,i3⟩
 refine W1 s1 ?_
 refine Zj (k117 (told:=Xu q [x]) (h.mv Om (Mm s1) (Mm s1)) (hq.mv Om (Mm s1)) hqc hqi hp i3 (reachM_len _ _) i2 Om Om hpl) ?_
 rintro _ H2 n2 q2 s2 ⟨ida,v',id',j1,j2,rfl,j3,j4,j5,j6⟩
 have hix:=idx1 (id:=ida) (k:=.i64) (m:=q.length) hx.1 hx.2
 have hfl:=flat_i (l:=(Ym (Xu q [x]) 0 p q).2) hx.1 (by rw[inRun_len];exact hx.2)
 have hz:=cp_gi (p:=p) hp hx
 rw[hz.2]at hfl
 rw[hz.1]at j6
 refine W1 (Ye hix j3 hfl) ?_
 exact Wp.pure ⟨So,(Mm (Zu s2 s1)),rfl,v',id',by omega,j6⟩
end Go.Proofs.YtcffcnipmgkjfaaGreat.Ax
