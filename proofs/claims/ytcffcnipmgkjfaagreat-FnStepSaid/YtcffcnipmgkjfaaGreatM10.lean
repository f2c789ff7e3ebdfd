/- What the law needs: laws of the abstract machine, and contracts of functions. -/
import Derived.Test.YtcffcnipmgkjfaaGreatM2
import Derived.Test.YtcffcnipmgkjfaaGreatM9
import Derived.Test.YtcffcnipmgkjfaaGreatM3
set_option linter.unusedVariables false
set_option linter.unusedSimpArgs false
set_option maxHeartbeats 8000000
namespace Go.Proofs.YtcffcnipmgkjfaaGreat.Ax
open Go
abbrev Drawn (c:Nat)(d:Int)(b:Nat):Prop:=∀ {H:Hp}{n:Nat},Cu c n H->RtD Tryz.prog 149 [ptr c 0,.int .i64 d] c H n (fun v _ _=>∃ x:ByteArray,v=.string x/\tx0 x=true/\x.size<=b)
theorem d0149 {c:Nat}(d:Int)(hd:d<=0):Drawn c d 12:=by
 intro H n hc
 apply RtD.mk
 rw[c149];unfold S149
 refine W0 hd ?_
 refine Wp.bslS tx12 (by decide +kernel) (by decide +kernel) (by decide) (by decide +kernel) (by simp[Vu]) ?_
 intro xs H1 h1 h2 s1 h3
 have hcn:=hc.1
 refine W0 trivial ?_
 refine Zy (k110 (hc.mv Om (fun i hi=>s1 i Om)) (h3.lst Om) (h3.off Om) h1) ?_
 rintro _ H2 n2 q2 s2 c2 ⟨x,rfl,hx⟩
 have:=h2 x hx
 simp only[tx12,Bool.and_eq_true,decide_eq_true_eq]at this
 refine W0 trivial ?_
 exact Wp.pure ⟨So,fun i hi hne=>(s2 i Om hne).trans (s1 i Om),c2.up So,x,rfl,this.1,this.2⟩
theorem dS149 {c:Nat}(d:Int)(h0:0 < d)(h9:d<=100)(b1 b2:Nat)(hb1:b1<=1000)(hb2:b2<=1000)(ih1:Drawn c (d - 1) b1) (ih2:Drawn c (d - 2) b2):Drawn c d (2 * b1+b2+60):=by
 intro H n hc
 apply RtD.mk
 rw[c149];unfold S149
 have hd:¬ d<=0:=by omega
 have w1:IntKind.i64.wrap (d - 1)=d - 1:=Wo Om
 have w2:IntKind.i64.wrap (d - 2)=d - 2:=Wo Om
 have hcn:=hc.1
 refine W0 (Zu hd w1) ?_
 refine Zy (ih1 (hc.up Om)) ?_
 rintro _ H1 n1 q1 s1 c1 ⟨x,rfl,hx,hxb⟩
 refine W0 w1 ?_
 refine Zy (ih1 (c1.up Om)) ?_
 rintro _ H2 n2 q2 s2 c2 ⟨y,rfl,hy,hyb⟩
 refine W0 trivial ?_
 refine Zy (k69 (c2.up Om) 9) ?_
 rintro _ H3 n3 q3 s3 c3 ⟨r,rfl,-,hr⟩
 have hr:=hr Om
 by_cases h0:r=0
 ·subst h0
  refine W0 trivial ?_
  (repeat((first|refine Wp.saddL (by decide +kernel) Om ?_|refine Wp.saddR (by decide +kernel) (by assumption) Om ?_|refine Wp.saddV (by assumption) Om Om ?_);intro _ _ _))
  refine W0 w2 ?_
  refine Zy (ih2 (c3.up Om)) ?_
  rintro _ H4 n4 q4 s4 c4 ⟨z,rfl,hz,hzb⟩
  refine W0 trivial ?_
  (repeat((first|refine Wp.saddL (by decide +kernel) Om ?_|refine Wp.saddR (by decide +kernel) (by assumption) Om ?_|refine Wp.saddV (by assumption) Om Om ?_);intro _ _ _))
  exact Wp.pure ⟨So,(Mm (Yv s4 s3 s2 s1)),c4.up So,_,rfl,by assumption,by omega⟩
 by_cases h1:r=1
 ·subst h1
  refine W0 (((show¬ (1:Int)=0 by decide))) ?_
  (repeat((first|refine Wp.saddL (by decide +kernel) Om ?_|refine Wp.saddR (by decide +kernel) (by assumption) Om ?_|refine Wp.saddV (by assumption) Om Om ?_);intro _ _ _))
  exact Wp.pure ⟨So,(Mm (Ye s3 s2 s1)),c3.up So,_,rfl,by assumption,by omega⟩
 by_cases h2:r=2
 ·subst h2
  refine W0 (Zu ((show¬ (2:Int)=0 by decide)) ((show¬ (2:Int)=1 by decide))) ?_
  (repeat((first|refine Wp.saddL (by decide +kernel) Om ?_|refine Wp.saddR (by decide +kernel) (by assumption) Om ?_|refine Wp.saddV (by assumption) Om Om ?_);intro _ _ _))
  exact Wp.pure ⟨So,(Mm (Ye s3 s2 s1)),c3.up So,_,rfl,by assumption,by omega⟩
 by_cases h3:r=3
 ·subst h3
  refine W0 (Ye ((show¬ (3:Int)=0 by decide)) ((show¬ (3:Int)=1 by decide)) ((show¬ (3:Int)=2 by decide))) ?_
  (repeat((first|refine Wp.saddL (by decide +kernel) Om ?_|refine Wp.saddR (by decide +kernel) (by assumption) Om ?_|refine Wp.saddV (by assumption) Om Om ?_);intro _ _ _))
  exact Wp.pure ⟨So,(Mm (Ye s3 s2 s1)),c3.up So,_,rfl,by assumption,by omega⟩
 by_cases h4:r=4
 ·subst h4
  refine W0 (Yv ((show¬ (4:Int)=0 by decide)) ((show¬ (4:Int)=1 by decide)) ((show¬ (4:Int)=2 by decide)) ((show¬ (4:Int)=3 by decide))) ?_
  (repeat((first|refine Wp.saddL (by decide +kernel) Om ?_|refine Wp.saddR (by decide +kernel) (by assumption) Om ?_|refine Wp.saddV (by assumption) Om Om ?_);intro _ _ _))
  exact Wp.pure ⟨So,(Mm (Ye s3 s2 s1)),c3.up So,_,rfl,by assumption,by omega⟩
 by_cases h5:r=5
 ·subst h5
  refine W0 (Xm ((show¬ (5:Int)=0 by decide)) ((show¬ (5:Int)=1 by decide)) ((show¬ (5:Int)=2 by decide)) ((show¬ (5:Int)=3 by decide)) ((show¬ (5:Int)=4 by decide))) ?_
  (repeat((first|refine Wp.saddL (by decide +kernel) Om ?_|refine Wp.saddR (by decide +kernel) (by assumption) Om ?_|refine Wp.saddV (by assumption) Om Om ?_);intro _ _ _))
  exact Wp.pure ⟨So,(Mm (Ye s3 s2 s1)),c3.up So,_,rfl,by assumption,by omega⟩
 by_cases h6:r=6
 ·subst h6
  refine W0 (Xq ((show¬ (6:Int)=0 by decide)) ((show¬ (6:Int)=1 by decide)) ((show¬ (6:Int)=2 by decide)) ((show¬ (6:Int)=3 by decide)) ((show¬ (6:Int)=4 by decide)) ((show¬ (6:Int)=5 by decide))) ?_
  refine Wp.bslS tx12 (by decide +kernel) (by decide +kernel) (by decide) (by decide +kernel) (by simp[Vu]) ?_
  intro xs H4 a1 a2 s4 a3
  have hc3:=c3.1
  refine W0 trivial ?_
  refine Zy (k110 (c3.mv Om (fun i hi=>s4 i Om)) (a3.lst Om) (a3.off Om) a1) ?_
  rintro _ H5 n5 q5 s5 c5 ⟨z,rfl,hz⟩
  have hz:=a2 z hz
  simp only[tx12,Bool.and_eq_true,decide_eq_true_eq]at hz
  refine W0 trivial ?_
  (repeat((first|refine Wp.saddL (by decide +kernel) Om ?_|refine Wp.saddR (by decide +kernel) (by assumption) Om ?_|refine Wp.saddV (by assumption) Om Om ?_);intro _ _ _))
  exact Wp.pure ⟨So,(Mm (Xm s5 s4 s3 s2 s1)),c5.up So,_,rfl,by assumption,by omega⟩
 by_cases h7:r=7
 ·subst h7
  refine W0 (Wt ((show¬ (7:Int)=0 by decide)) ((show¬ (7:Int)=1 by decide)) ((show¬ (7:Int)=2 by decide)) ((show¬ (7:Int)=3 by decide)) ((show¬ (7:Int)=4 by decide)) ((show¬ (7:Int)=5 by decide)) ((show¬ (7:Int)=6 by decide))) ?_
  refine Wp.bslS tx12 (by decide +kernel) (by decide +kernel) (by decide) (by decide +kernel) (by simp[Vu]) ?_
  intro xs H4 a1 a2 s4 a3
  have hc3:=c3.1
  refine W0 trivial ?_
  refine Zy (k110 (c3.mv Om (fun i hi=>s4 i Om)) (a3.lst Om) (a3.off Om) a1) ?_
  rintro _ H5 n5 q5 s5 c5 ⟨z,rfl,hz⟩
  have hz:=a2 z hz
  simp only[tx12,Bool.and_eq_true,decide_eq_true_eq]at hz
  refine W0 trivial ?_
  (repeat((first|refine Wp.saddL (by decide +kernel) Om ?_|refine Wp.saddR (by decide +kernel) (by assumption) Om ?_|refine Wp.saddV (by assumption) Om Om ?_);intro _ _ _))
  exact Wp.pure ⟨So,(Mm (Xm s5 s4 s3 s2 s1)),c5.up So,_,rfl,by assumption,by omega⟩
 refine W0 (Yj h0 h1 h2 h3 h4 h5 h6 h7) ?_
 exact Wp.pure ⟨So,(Mm (Ye s3 s2 s1)),c3.up So,x,rfl,hx,by omega⟩
theorem k149 {c:Nat}:Drawn c 3 2000:=by
 have e0:=@d0149 c (1 - 1) (by decide)
 have e0':=@d0149 c (1 - 2) (by decide)
 have e1:=@dS149 c 1 (by decide) (by decide) 12 12 (by decide) (by decide) e0 e0'
 have e2:=@dS149 c 2 (by decide) (by decide) 96 12 (by decide) (by decide) e1 e0
 have e3:=@dS149 c 3 (by decide) (by decide) 264 96 (by decide) (by decide) e2 e1
 intro H n hc
 obtain⟨v,H',n',h1,h2,h3,h4,x,h5,h6,h7⟩:=e3 hc
 exact⟨v,H',n',h1,h2,h3,h4,x,h5,h6,by omega⟩
theorem k130 {c n:Nat}{H:Hp}(hc:Cu c n H):RtD Tryz.prog 130 [ptr c 0] c H n (fun v _ _=>∃ x:ByteArray,v=.string x/\tx0 x=true/\x.size<=2000):=by
 apply RtD.mk
 rw[c130];unfold S130
 refine W0 trivial ?_
 refine Zy (k108 (hc.up Om) 4) ?_
 rintro _ H1 n1 q1 s1 c1 ⟨b,rfl⟩
 cases b with
 | false=>
  have hc1:=c1.1
  refine W0 trivial ?_
  refine Ya (k148 _ _) ?_
  rintro w H2 n2 q2 s2 ⟨xs,h1,h2,id,i1,i2,i3⟩
  refine W0 trivial ?_
  refine Zy (k110 (c1.mv Om (Mm s2)) (i3.lst i2) (i3.off Om) h1) ?_
  rintro _ H3 n3 q3 s3 c3 ⟨x,rfl,hx⟩
  have:=h2 x hx
  simp only[tx400,Bool.and_eq_true,decide_eq_true_eq]at this
  refine W0 trivial ?_
  exact Wp.pure ⟨So,(Mm (Ye s3 s2 s1)),c3.up So,x,rfl,this.1,by omega⟩
 | true=>
  refine W0 trivial ?_
  refine Zy (k149 (c1.up Om)) ?_
  rintro _ H2 n2 q2 s2 c2 ⟨x,rfl,hx,hxb⟩
  refine W0 trivial ?_
  exact Wp.pure ⟨So,(Mm (Zu s2 s1)),c2.up So,x,rfl,hx,hxb⟩
structure LO {α:Type}(E:Enc α)(c il n:Nat)(H:Hp)(w:Value)(l:List α):Prop where
 li:Li E n H w l
 oc:Off c w
 oi:Off il w
theorem LO.mv {α:Type}{E:Enc α}{c il il' n m:Nat}{H H':Hp}{w:Value}{l:List α}(h:LO E c il n H w l)(hm:n<=m)(hs:∀ i,i < n->i≠c->i≠il->H' i=H i)(hi:il'=il∨n<=il'):LO E c il' m H' w l:=by
 refine⟨(h.li.keep' fun i o a k e=>hs i (h.li.2 i o a k e) (h.oc i o a k e) (h.oi i o a k e)).up hm,h.oc,?_⟩
 rcases hi with rfl|hi
 ·exact h.oi
 ·exact h.li.off hi
theorem LO.li' {α:Type}{E:Enc α}{c il n m:Nat}{H H':Hp}{w:Value}{l:List α}(h:LO E c il n H w l)(hm:n<=m)(hs:∀ i,i < n->i≠c->i≠il->H' i=H i):Li E m H' w l:=(h.mv hm hs (.inl rfl)).li
theorem At.lo {α:Type}{E:Enc α}{id c il n:Nat}{H:Hp}{w:Value}{l:List α}(h:At E id H w l)(hn:id < n)(hc:id≠c)(hi:id≠il):LO E c il n H w l:=by
 refine⟨h.lst hn,?_,?_⟩ <;> (rcases h with⟨rfl,_⟩|⟨rfl,_⟩) <;> intro i o a k e <;> cases e <;> assumption
theorem sliceV_off {sz:Nat}{v v':Value}{lo hi:Option Value}(h:Yt sz v lo hi=some v'){c:Nat}(ho:Off c v):Off c v':=by
 unfold Yt at h
 split at h
 ·rename_i str
  cases hb:bnd 0 lo with
  | none=>simp[hb]at h
  | some a=>
   cases hb2:bnd str.size hi with
   | none=>simp[hb,hb2]at h
   | some b=>
    simp only[hb,hb2,Option.bind_some]at h
    split at h
    ·cases h;intro i o a k e;cases e
    ·cases h
 ·cases hb:bnd 0 lo with
  | none=>simp[hb]at h
  | some a=>
   cases hb2:bnd 0 hi with
   | none=>simp[hb,hb2]at h
   | some b=>
    simp only[hb,hb2,Option.bind_some]at h
    split at h
    ·cases h;intro i o a k e;cases e
    ·cases h
 ·rename_i i o n q
  cases hb:bnd 0 lo with
  | none=>simp[hb]at h
  | some a=>
   cases hb2:bnd n hi with
   | none=>simp[hb,hb2]at h
   | some b=>
    simp only[hb,hb2,Option.bind_some]at h
    split at h
    ·split at h
     ·cases h;intro i o a k e;cases e
     ·cases h;intro i' o' a' k' e;cases e;exact ho _ _ _ _ rfl
    ·cases h
 ·cases hb:bnd 0 lo with
  | none=>simp[hb]at h
  | some a=>
   cases hb2:bnd 0 hi with
   | none=>simp[hb,hb2]at h
   | some b=>
    simp only[hb,hb2,Option.bind_some]at h
    split at h
    ·cases h;intro i o a k e;cases e
    ·cases h
 ·cases h
theorem LO.slice {α:Type}{E:Enc α}{c il n:Nat}{H:Hp}{w:Value}{l:List α}(h:LO E c il n H w l)(hz:0 < E.sz)(lo hi:Option Value)(a b:Nat)(ha:bnd 0 lo=some a)(hb:∀ d,d=l.length->bnd d hi=some b)(hab:a<=b)(hbl:b<=l.length):∃ w',Yt E.sz w lo hi=some w'/\LO E c il n H w' ((l.drop a).take (b - a)):=by
 obtain⟨w',h1,h2⟩:=h.li.slice hz lo hi a b ha hb hab hbl
 exact⟨w',h1,h2,sliceV_off h1 h.oc,sliceV_off h1 h.oi⟩
abbrev eVl:Enc Value:=⟨1,fun x=>[x],fun _=>rfl⟩
theorem Li.vAll {n:Nat}{H:Hp}{v:Value}{l:List Value}(h:Li eVl n H v l){i:Int}(h0:0<=i)(h1:i < l.length):(∀ k,Zo 1 v (.int k i)=some (elP 1 v i.toNat))/\ld false 1 (elP 1 v i.toNat) H=some (l[i.toNat]'Om) :=
 ⟨fun k=>h.idx h0 h1,h.ldc h0 h1 rfl⟩
structure EV (c il n:Nat)(H:Hp)(w:Value)(e:List (List ByteArray)):Prop where
 ex:∃ ws:List Value,LO eVl c il n H w ws/\ws.length=e.length/\∀ (i:Nat) (h1:i < ws.length) (h2:i < e.length),LO eStr c il n H ws[i] e[i]/\cell1 ws[i]=true
theorem EV.mv {c il il' n m:Nat}{H H':Hp}{w:Value}{e:List (List ByteArray)}(h:EV c il n H w e)(hm:n<=m)(hs:∀ i,i < n->i≠c->i≠il->H' i=H i)(hi:il'=il∨n<=il'):EV c il' m H' w e:=by
 obtain⟨ws,h1,h2,h3⟩:=h.ex
 exact⟨ws,h1.mv hm hs hi,h2,fun i a b=>⟨(h3 i a b).1.mv hm hs hi,(h3 i a b).2⟩⟩
structure CC (c il n:Nat)(H:Hp)(v ul ud:Value)(s:CS):Prop where
 hc:H c=some (.row [v,ul,ud,.int .i64 s.how] 0 true)
 al:At eIns il H ul s.L
 cn:c < n
 iln:il < n
 ne:il≠c
 len:s.L.length<=400
 hr:0<=s.how/\s.how<=3
theorem CC.mv {c il n m:Nat}{H H':Hp}{v ul ud:Value}{s:CS}(h:CC c il n H v ul ud s)(hm:n<=m)(h1:H' c=H c)(h2:H' il=H il):CC c il m H' v ul ud s :=
 ⟨by rw[h1];exact h.hc,h.al.mv h2,by have:=h.cn;omega,by have:=h.iln;omega,h.ne,h.len,h.hr⟩
theorem bld_ins (a b c:Int):Xf [.int .i64 0,.int .i64 0,.int .i64 0,.string ⟨#[]⟩] [(0,1,.int .i64 a),(1,1,.int .i64 b),(2,1,.int .i64 c)]=some (.agg ⟨(Zw a b c).cells⟩):=rfl
theorem bld_ins2 (a b:Int):Xf [.int .i64 0,.int .i64 0,.int .i64 0,.string ⟨#[]⟩] [(0,1,.int .i64 a),(1,1,.int .i64 b)]=some (.agg ⟨(Zw a b 0).cells⟩):=rfl
theorem bld_ins3 (a c:Int):Xf [.int .i64 0,.int .i64 0,.int .i64 0,.string ⟨#[]⟩] [(0,1,.int .i64 a),(2,1,.int .i64 c)]=some (.agg ⟨(Zw a 0 c).cells⟩):=rfl
theorem bld_ins1 (a:Int):Xf [.int .i64 0,.int .i64 0,.int .i64 0,.string ⟨#[]⟩] [(0,1,.int .i64 a)]=some (.agg ⟨(Zw a 0 0).cells⟩):=rfl
theorem bld_insS (a:Int)(s:ByteArray):Xf [.int .i64 0,.int .i64 0,.int .i64 0,.string ⟨#[]⟩] [(0,1,.int .i64 a),(3,1,.string s)]=some (.agg ⟨(⟨a,0,0,s⟩:Ins).cells⟩):=rfl
theorem noDup_range {l:List ByteArray}(h:∀ i:Nat,i < l.length->Ua (gi l (i:Int)) (l.take i) 0=none):noDup l=true:=by
 unfold noDup
 rw[List.all_eq_true]
 intro i hi
 rw[h i (by simpa using hi)];rfl
theorem noDup_not {l:List ByteArray}{i k:Nat}(hi:i < l.length)(h:Ua (gi l (i:Int)) (l.take i) 0=some k):noDup l=false:=by
 unfold noDup
 rw[List.all_eq_false]
 exact⟨i,by simpa using hi,by rw[h];simp⟩
theorem isVar_eq (x:Nd):isVar x=(decide (x.k=4) && !Vq x.s):=rfl
theorem names_take {p:List Nd}{l:List Int}{j:Nat}(h:j < l.length):(l.take (j+1)).map (fun v=>(gi p v).s)=(l.take j).map (fun v=>(gi p v).s)++[(gi p (gi l (j:Int))).s]:=by
 rw[Wa h,List.map_append,Yq h];rfl
theorem cNames_bad {p:List Nd}{l:List Int}{v:Int}(hv:v∈l)(h:isVar (gi p v)=false):Ys p l=([],1):=by
 unfold Ys
 rw[if_neg]
 rintro⟨h1,_⟩
 rw[List.all_eq_true]at h1
 have:=h1 v hv
 rw[h]at this;cases this
theorem cNames_long {p:List Nd}{l:List Int}(h:4 < l.length):Ys p l=([],1):=by
 unfold Ys
 rw[if_neg Om]
theorem cNames_dup {p:List Nd}{l:List Int}(h:∀ v∈l,isVar (gi p v)=true) (hl:l.length<=4)(hd:noDup (l.map fun v=>(gi p v).s)=false):Ys p l=([],2):=by
 unfold Ys
 rw[if_pos ⟨List.all_eq_true.2 h,hl⟩,hd];rfl
theorem cNames_ok {p:List Nd}{l:List Int}(h:∀ v∈l,isVar (gi p v)=true) (hl:l.length<=4)(hd:noDup (l.map fun v=>(gi p v).s)=true):Ys p l=(l.map fun v=>(gi p v).s,0):=by
 unfold Ys
 rw[if_pos ⟨List.all_eq_true.2 h,hl⟩,hd];rfl
theorem mem_take_next {l:List Int}{j:Nat}(hj:j < l.length){v:Int}(hv:v∈l.take (j+1)):v∈l.take j∨v=gi l (j:Int):=by
 rw[Wa hj]at hv
 rcases List.mem_append.1 hv with h|h
 ·exact .inl h
 ·simp at h;right;rw[Yq hj];exact h
def EnvOk (e:Env):Prop:=e.length<=100000/\∀ f∈e,f.length<=4
abbrev Kept (c il n:Nat)(H H':Hp):Prop:=∀ i,i < n->i≠c->i≠il->H' i=H i
abbrev Next (c il n n':Nat)(H':Hp)(v ud:Value)(s:CS):Prop:=∃ ul' il',(il'=il∨n<=il')/\CC c il' n' H' v ul' ud s
theorem cVar_drop {w:ByteArray}{e:Env}{m:Nat}(h:m < e.length):cVar w (e.drop m) m=match Ua w (e[m]) 0 with|some i=>some (m,i)|none=>cVar w (e.drop (m+1)) (m+1):=by
 rw[List.drop_eq_getElem_cons h,cVar]
 cases Ua w e[m] 0 <;> rfl
theorem bsl_v (id:Nat)(x:Value)(hx:cell1 x=true)(H:Hp):Xx id 1 1 [nilS] [(0,1,x)] H=some (sl id 0 1,H.set id (some (.row [x] 1 true))):=by
 simp[Xx,fill,vcells1 hx,Yz]
theorem body_next (E:CEx)(e:Env)(l:List Int){j:Nat}(hj:j < l.length)(s:CS):Vm E e (l.take (j+1)) s=E (gi l (j:Int)) e (if 0 < j then Yu (Zw 9 0 0) (Vm E e (l.take j) s)else Vm E e (l.take j) s):=by
 rw[Wa hj,← Yq hj]
 cases hl:l.take j with
 | nil=>
  have:j=0:=by
   have:(l.take j).length=0:=by rw[hl];rfl
   rw[List.length_take]at this;omega
  subst this
  simp[Vm]
 | cons a r=>
  have:0 < j:=by
   have:(l.take j).length=r.length+1:=by rw[hl];rfl
   rw[List.length_take]at this;omega
  rw[if_pos this]
  simp[Vm,List.foldl_append]
end Go.Proofs.YtcffcnipmgkjfaaGreat.Ax
