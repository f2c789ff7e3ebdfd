/- What the law needs: laws of the abstract machine, and contracts of functions. -/
import Derived.Test.YtcffcnipmgkjfaaGreatM1
import Derived.Test.YtcffcnipmgkjfaaGreatSh
import Derived.Test.YtcffcnipmgkjfaaGreatM2
set_option linter.unusedVariables false
set_option linter.unusedSimpArgs false
set_option maxHeartbeats 8000000
namespace Go.Proofs.YtcffcnipmgkjfaaGreat.Ax
open Go
theorem k47 (a b c:Int)(H:Hp)(n:Nat):Call Tryz.prog 47 [.int .i64 a,.int .i64 b,.int .i64 c] H n=some (.bool (decide (b<=a/\a<=c)),H,n+10):=by
 rw[c47];unfold S47
 by_cases h1:b<=a <;> simp[Zz,Zn,Wy,Vc,Yi,Yg,h1]
theorem k43 (a b c:Int)(H:Hp)(n:Nat):Call Tryz.prog 43 [.int .i64 a,.int .i64 b,.int .i64 c] H n=some (.bool (decide (b<=a/\a<=c)),H,n+10):=by
 rw[c43];unfold S43
 by_cases h1:b<=a <;> simp[Zz,Zn,Wy,Vc,Yi,Yg,h1]
def Xj (a:Int):Bool:=decide (97<=a/\a<=122) || (decide (a=43) || (decide (a=45) || (decide (a=42) || (decide (a=60) || (decide (a=61) || (decide (a=63) || (decide (a=33) || decide (a=47))))))))
theorem k116 (a:Int)(H:Hp)(n:Nat):Call Tryz.prog 116 [.int .u8 a] H n=some (.bool (Xj a),H,n+40):=by
 rw[c116];unfold S116 Xj
 by_cases h1:97<=a
 ·by_cases h2:a<=122
  ·simp[Zz,Zn,Wy,Vc,Vt,Yi,Yf,Yg,h1,h2]
  ·by_cases e43:a=43
   ·simp[Zz,Zn,Wy,Vc,Vt,Yi,Yf,Yg,h1,h2,e43]
   ·by_cases e45:a=45
    ·simp[Zz,Zn,Wy,Vc,Vt,Yi,Yf,Yg,h1,h2,e43,e45]
    ·by_cases e42:a=42
     ·simp[Zz,Zn,Wy,Vc,Vt,Yi,Yf,Yg,h1,h2,e43,e45,e42]
     ·by_cases e60:a=60
      ·simp[Zz,Zn,Wy,Vc,Vt,Yi,Yf,Yg,h1,h2,e43,e45,e42,e60]
      ·by_cases e61:a=61
       ·simp[Zz,Zn,Wy,Vc,Vt,Yi,Yf,Yg,h1,h2,e43,e45,e42,e60,e61]
       ·by_cases e63:a=63
        ·simp[Zz,Zn,Wy,Vc,Vt,Yi,Yf,Yg,h1,h2,e43,e45,e42,e60,e61,e63]
        ·by_cases e33:a=33
         ·simp[Zz,Zn,Wy,Vc,Vt,Yi,Yf,Yg,h1,h2,e43,e45,e42,e60,e61,e63,e33]
         ·by_cases e47:a=47
          ·simp[Zz,Zn,Wy,Vc,Vt,Yi,Yf,Yg,h1,h2,e43,e45,e42,e60,e61,e63,e33,e47]
          ·simp[Zz,Zn,Wy,Vc,Vt,Yi,Yf,Yg,h1,h2,e43,e45,e42,e60,e61,e63,e33,e47]
 ·by_cases e43:a=43
  ·simp[Zz,Zn,Wy,Vc,Vt,Yi,Yf,Yg,h1,e43]
  ·by_cases e45:a=45
   ·simp[Zz,Zn,Wy,Vc,Vt,Yi,Yf,Yg,h1,e43,e45]
   ·by_cases e42:a=42
    ·simp[Zz,Zn,Wy,Vc,Vt,Yi,Yf,Yg,h1,e43,e45,e42]
    ·by_cases e60:a=60
     ·simp[Zz,Zn,Wy,Vc,Vt,Yi,Yf,Yg,h1,e43,e45,e42,e60]
     ·by_cases e61:a=61
      ·simp[Zz,Zn,Wy,Vc,Vt,Yi,Yf,Yg,h1,e43,e45,e42,e60,e61]
      ·by_cases e63:a=63
       ·simp[Zz,Zn,Wy,Vc,Vt,Yi,Yf,Yg,h1,e43,e45,e42,e60,e61,e63]
       ·by_cases e33:a=33
        ·simp[Zz,Zn,Wy,Vc,Vt,Yi,Yf,Yg,h1,e43,e45,e42,e60,e61,e63,e33]
        ·by_cases e47:a=47
         ·simp[Zz,Zn,Wy,Vc,Vt,Yi,Yf,Yg,h1,e43,e45,e42,e60,e61,e63,e33,e47]
         ·simp[Zz,Zn,Wy,Vc,Vt,Yi,Yf,Yg,h1,e43,e45,e42,e60,e61,e63,e33,e47]
theorem l151 {C:Zb}{H:Hp}{v:Value}{l:List Int}(hv:View H 1 v (bytesV l) l.length) (hl:l.length<=1048576)(x:Int):∀ (d j:Nat)(t:Tm)(n:Nat),j+d=l.length->t 0=v->t 1=.int .u8 x->t 7=.int .i64 l.length->t 8=.int .i64 j ->
  ∃ o,Zm (S151L0 C Zm) t H n=some o/\n<=o.n/\o.H=H/\((o.e=.exit 0/\x ∉ l.drop j)∨(o.e=.ret/\∃ k:Nat,o.t 4=.int .i64 k/\x∈l.drop j)):=by
 intro d
 induction d with
 | zero=>
  intro j t n hj h0 h1 h7 h8
  rw[Loop_eq]
  unfold S151L0
  have:¬ (j:Int) < l.length:=by omega
  simp[h7,h8,i_lss,Xz,this,Xw]
  rw[List.drop_eq_nil_of_le Om];simp
 | succ d ih=>
  intro j t n hj h0 h1 h7 h8
  have hlt:j < l.length:=by omega
  obtain⟨p,hp,hc,_⟩:=hv.idx (k:=.i64) (j:=(j:Int)) Om Om
  have hld:=hc (.int .u8 l[j]) rfl (by simp[hlt])
  rw[Loop_eq]
  unfold S151L0
  have hd:l.drop j=l[j] :: l.drop (j+1):=(List.drop_eq_getElem_cons hlt)
  by_cases hx:x=l[j]
  ·simp[h0,h1,h7,h8,i_lss,Vt,Xz,hlt,Xw,hp,hld,← hx,Zn]
   rw[hd,hx]
   exact⟨⟨j,rfl⟩,List.mem_cons_self ..⟩
  ·have hw:IntKind.i64.wrap ((j:Int)+1)=((j+1:Nat):Int):=by rw[Wo Om];omega
   simp only[h0,h1,h7,h8,i_lss,Vt,i_add,Xz,hp,hld,Option.bind_some,hx,decide_false,Bool.false_eq_true,if_false,Int.ofNat_lt,hlt,decide_true,if_true,hw,Xw]
   obtain⟨o,e1,e2,e3,e4⟩:=ih (j+1) (put (put (put (put (put (put (put (put (put (put (put t 9 (.bool true)) 10 (.int .i64 j)) 5 (.int .i64 j)) 11 (.int .u8 x)) 12 v) 13 (.int .i64 j)) 14 p) 15 (.int .u8 l[j])) 16 (.bool false)) 18 (.int .i64 ((j+1:Nat):Int))) 8 (.int .i64 ((j+1:Nat):Int))) (n+11) Om (Pp h0) (Pp h1) (Pp h7) Po
   refine⟨o,e1,by omega,e3,?_⟩
   rw[hd]
   rcases e4 with⟨e4,e5⟩|⟨e4,k,e5,e6⟩
   ·exact .inl ⟨e4,by simp only[List.mem_cons,not_or];exact⟨hx,e5⟩⟩
   ·exact .inr ⟨e4,k,e5,List.mem_cons_of_mem _ e6⟩
theorem k151 {H:Hp}{v:Value}{l:List Int}(hv:View H 1 v (bytesV l) l.length) (hl:l.length<=1048576)(x:Int)(n:Nat):∃ (r:Int)(n':Nat),n<=n'/\Call Tryz.prog 151 [v,.int .u8 x] H n=some (.int .i64 r,H,n')/\(0<=r↔x∈l):=by
 rw[c151];unfold S151
 simp only[Zz,List.getD_cons_zero,hv.len,Option.bind_some]
 obtain⟨o,e1,e2,e3,e4⟩:=l151 (C:=Call Tryz.prog) hv hl x l.length 0 (put (put (put (put (Zp [v,.int .u8 x]) 4 (.int .i64 0)) 6 v) 7 (.int .i64 l.length)) 8 (.int .i64 0)) (n+4) Om Pa Pa Po Po
 rw[e1]
 obtain⟨oe,ot,oH,on⟩:=o
 simp only at e2 e3 e4
 subst e3
 rcases e4 with⟨rfl,e4⟩|⟨rfl,k,e4,e5⟩
 ·refine⟨-1,on+1,by omega,?_,?_⟩
  ·simp[outOf,Xe]
  ·simpa using e4
 ·refine⟨k,on,by omega,?_,?_⟩
  ·simp[outOf,Xe,e4]
  ·simp at e5;simp[e5]
theorem k135 {H:Hp}{v:Value}{l:List Int}(hv:View H 1 v (bytesV l) l.length) (hl:l.length<=1048576)(x:Int)(n:Nat):∃ (n':Nat),n<=n'/\Call Tryz.prog 135 [v,.int .u8 x] H n=some (.bool (decide (x∈l)),H,n'):=by
 rw[c135];unfold S135
 obtain⟨r,n',h1,h2,h3⟩:=k151 hv hl x (n+6)
 refine⟨n',by omega,?_⟩
 simp[Zz,h2,Wy,h3]
theorem k113 (a:Int)(H:Hp)(n:Nat):∃ (H':Hp)(n':Nat),n<=n'/\Same n H H'/\Call Tryz.prog 113 [.int .u8 a] H n=some (.bool (Xj a),H',n'):=by
 rw[c113];unfold S113
 by_cases h1:97<=a/\a<=122
 ·refine⟨H,n+14,by omega,fun _ _=>rfl,?_⟩
  simp[Zz,Zn,Wy,Vc,Yi,Yf,Yg,h1,Xj]
 ·have hv:View (H.set (n+8) (some (.row (bytesV [43,45,42,60,61,63,33,47]) 1 true))) 1 (sl (n+8) 0 8) (bytesV [43,45,42,60,61,63,33,47]) 8:=View.new (e:=1) (rw:=true) (by simp[Hp.set]) rfl
  obtain⟨n',e1,e2⟩:=k135 hv (by decide) a (n+14)
  refine⟨H.set (n+8) (some (.row (bytesV [43,45,42,60,61,63,33,47]) 1 true)),n',by omega,fun i hi=>by simp[Hp.set];omega,?_⟩
  have hb:Xx (n+8) 1 8 [.int .u8 0] [(0,1,.int .u8 43),(1,1,.int .u8 45),(2,1,.int .u8 42),(3,1,.int .u8 60),(4,1,.int .u8 61),(5,1,.int .u8 63),(6,1,.int .u8 33),(7,1,.int .u8 47)] H=some (sl (n+8) 0 8,H.set (n+8) (some (.row (bytesV [43,45,42,60,61,63,33,47]) 1 true))):=rfl
  have hm:conv .mark (n+9) (sl (n+8) 0 8) (H.set (n+8) (some (.row (bytesV [43,45,42,60,61,63,33,47]) 1 true)))=some (sl (n+8) 0 8,H.set (n+8) (some (.row (bytesV [43,45,42,60,61,63,33,47]) 1 true))):=by simp[conv,Hp.set]
  have hn:Xj a=decide (a∈[43,45,42,60,61,63,33,47]):=by
   unfold Xj
   rw[decide_eq_false h1]
   simp
  rw[hn]
  by_cases h2:97<=a
  ·have h3:¬ a<=122:=fun h=>h1 ⟨h2,h⟩
   simp only[Zz,Zn,Wy,Vc,Yi,Yf,Yg,h2,h3,List.getD_cons_zero,Option.bind_some,decide_true,decide_false,if_true,Nat.reduceEqDiff,if_false,Bool.false_eq_true,hb,hm,e2]
  ·simp only[Zz,Zn,Wy,Vc,Yi,Yf,Yg,h2,List.getD_cons_zero,Option.bind_some,decide_true,decide_false,if_true,Nat.reduceEqDiff,if_false,Bool.false_eq_true,hb,hm,e2]
def Zk (s:ByteArray):List Int:=s.data.toList.map fun b=>(b.toNat:Int)
theorem Yn (s:ByteArray):(Zk s).length=s.size:=by simp[Zk]
theorem idx_nums {s:ByteArray}{k:IntKind}{j:Nat}(h1:j < s.size):idxS (.string s) (.int k j)=some (.int .u8 ((Zk s)[j]'(by rw[Yn];exact h1))):=by
 have hd:j < s.data.toList.length:=by simpa using h1
 simp[idxS,h1,Zk,hd]
theorem l79 (s:ByteArray)(hs:s.size<=1048576):∀ (d j:Nat)(t:Tm)(H:Hp)(n:Nat),j+d=s.size->t 0=.string s->t 3=.int .i64 j ->
  ∃ o,Zm (S79L0 (Call Tryz.prog) Zm) t H n=some o/\n<=o.n/\o.H=H/\((o.e=.exit 0/\o.t 0=.string s/\((Zk s).drop j).all Xj=true)∨(o.e=.ret/\o.t 2=.bool false/\((Zk s).drop j).all Xj=false)):=by
 intro d
 induction d with
 | zero=>
  intro j t H n hj h0 h3
  rw[Loop_eq]
  unfold S79L0
  have:¬ (j:Int) < s.size:=by omega
  simp[h0,h3,len_str,i_lss,Xz,this,Xw,Zn]
  rw[List.drop_eq_nil_of_le (by rw[Yn];omega)]
  simp
 | succ d ih=>
  intro j t H n hj h0 h3
  have hlt:j < s.size:=by omega
  have hlt':j < (Zk s).length:=by rw[Yn];exact hlt
  have hd:(Zk s).drop j=(Zk s)[j] :: (Zk s).drop (j+1):=List.drop_eq_getElem_cons hlt'
  rw[Loop_eq]
  generalize hLL:Zm (S79L0 (Call Tryz.prog) Zm)=LL at ih ⊢
  unfold S79L0
  have hix:=idx_nums (k:=.i64) hlt
  cases hb:Xj (Zk s)[j]with
  | false=>
   simp[h0,h3,len_str,i_lss,Xz,hlt,Xw,hix,k116,un_not,hb,Zn]
   rw[hd]
   exact⟨by omega,_,List.mem_cons_self ..,hb⟩
  | true=>
   have hw:IntKind.i64.wrap ((j:Int)+1)=((j+1:Nat):Int):=by rw[Wo Om];omega
   simp only[h0,h3,len_str,i_lss,Xz,Int.ofNat_lt,hlt,decide_true,if_true,hix,k116,un_not,hb,i_add,Option.bind_some,Bool.not_true,Bool.false_eq_true,if_false,Xw,hw]
   generalize hT:put _ _ _=T
   obtain⟨o,e1,e2,e3,e4⟩:=ih (j+1) T H (n+9+40+3) Om (by rw[← hT];simp[Zn,h0]) (by rw[← hT];simp[Zn])
   refine⟨o,e1,by omega,e3,?_⟩
   rw[hd,List.all_cons,hb,Bool.true_and]
   exact e4
theorem k79 (s:ByteArray)(hs:s.size<=1048576)(H:Hp)(n:Nat):∃ n',n<=n'/\Call Tryz.prog 79 [.string s] H n=some (.bool (decide (1<=s.size/\s.size<=12) && (Zk s).all Xj),H,n'):=by
 rw[c79];unfold S79
 obtain⟨⟨oe,ot,oH,on⟩,e1,e2,e3,e4⟩:=l79 s hs s.size 0 (put (put (Zp [.string s]) 2 (.bool false)) 3 (.int .i64 0)) H (n+2) Om Pa Po
 rw[e1]
 simp only at e2 e3 e4
 subst e3
 rw[List.drop_zero]at e4
 rcases e4 with⟨rfl,e4,e5⟩|⟨rfl,e4,e5⟩
 ·refine⟨on+4+10,by omega,?_⟩
  have hz:((1:Int)<=s.size/\(s.size:Int)<=12)=(1<=s.size/\s.size<=12):=by apply propext;omega
  simp only[outOf,Xe,if_true,e4,len_str,Option.bind_some,k47,hz,e5,Bool.and_true]
 ·refine⟨on,by omega,?_⟩
  simp[outOf,Xe,e4,e5]
theorem l75 (s:ByteArray)(hs:s.size<=1048576):∀ (d j:Nat)(t:Tm)(H:Hp)(n:Nat),j+d=s.size->t 0=.string s->t 9=.int .i64 s.size->t 10=.int .i64 j ->
  ∃ o,Zm (S75L0 (Call Tryz.prog) Zm) t H n=some o/\n<=o.n/\Same n H o.H/\((o.e=.exit 0/\((Zk s).drop j).all Xj=true)∨(o.e=.ret/\o.t 2=.bool false/\((Zk s).drop j).all Xj=false)):=by
 intro d
 induction d with
 | zero=>
  intro j t H n hj h0 h9 h10
  rw[Loop_eq]
  unfold S75L0
  have:¬ (j:Int) < s.size:=by omega
  simp[h9,h10,i_lss,Xz,this,Xw,Zn]
  refine⟨Same.refl _ _,?_⟩
  rw[List.drop_eq_nil_of_le (by rw[Yn];omega)]
  simp
 | succ d ih=>
  intro j t H n hj h0 h9 h10
  have hlt:j < s.size:=by omega
  have hlt':j < (Zk s).length:=by rw[Yn];exact hlt
  have hd:(Zk s).drop j=(Zk s)[j] :: (Zk s).drop (j+1):=List.drop_eq_getElem_cons hlt'
  rw[Loop_eq]
  generalize hLL:Zm (S75L0 (Call Tryz.prog) Zm)=LL at ih ⊢
  unfold S75L0
  have hix:=idx_nums (k:=.i64) hlt
  obtain⟨H1,n1,f1,f2,f3⟩:=k113 (Zk s)[j] H (n+8)
  cases hb:Xj (Zk s)[j]with
  | false=>
   rw[hb]at f3
   simp[h0,h9,h10,i_lss,Xz,hlt,Xw,hix,f3,un_not,Zn]
   rw[hd]
   exact⟨by omega,f2.less Om,_,List.mem_cons_self ..,hb⟩
  | true=>
   rw[hb]at f3
   have hw:IntKind.i64.wrap ((j:Int)+1)=((j+1:Nat):Int):=by rw[Wo Om];omega
   simp only[h0,h9,h10,i_lss,Xz,Int.ofNat_lt,hlt,decide_true,if_true,hix,f3,un_not,i_add,Option.bind_some,Bool.not_true,Bool.false_eq_true,if_false,Xw,hw]
   generalize hT:put _ _ _=T
   obtain⟨o,e1,e2,e3,e4⟩:=ih (j+1) T H1 (n1+2) Om (by rw[← hT];simp[Zn,h0]) (by rw[← hT];simp[Zn,h9]) (by rw[← hT];simp[Zn])
   refine⟨o,e1,by omega,(f2.less Om).trans e3 Om,?_⟩
   rw[hd,List.all_cons,hb,Bool.true_and]
   exact e4
theorem k75 (s:ByteArray)(hs:s.size<=1048576)(H:Hp)(n:Nat):∃ H' n',n<=n'/\Same n H H'/\Call Tryz.prog 75 [.string s] H n=some (.bool (decide (1<=s.size/\s.size<=12) && (Zk s).all Xj),H',n'):=by
 rw[c75];unfold S75
 by_cases hz:1<=s.size/\s.size<=12
 ·have hz':(1:Int)<=s.size/\(s.size:Int)<=12:=by omega
  simp only[Zz,List.getD_cons_zero,len_str,Option.bind_some,k43,hz',and_self,decide_true,un_not,Bool.not_true,Xz,Bool.false_eq_true,if_false]
  obtain⟨⟨oe,ot,oH,on⟩,e1,e2,e3,e4⟩:=l75 s hs s.size 0 (put (put (put (put (put (put (put (put (Zp [.string s]) 2 (.bool false)) 4 (.string s)) 5 (.int .i64 s.size)) 6 (.bool true)) 7 (.bool false)) 8 (.string s)) 9 (.int .i64 s.size)) 10 (.int .i64 0)) H (n+5+10+3) Om Pa Po Po
  rw[e1]
  simp only at e2 e3 e4
  rw[List.drop_zero]at e4
  rcases e4 with⟨rfl,e5⟩|⟨rfl,e4,e5⟩
  ·refine⟨oH,on+1,by omega,e3.less Om,?_⟩
   simp[outOf,Xe,e5,hz]
  ·refine⟨oH,on,by omega,e3.less Om,?_⟩
   simp[outOf,Xe,e4,e5]
 ·have hz':¬ ((1:Int)<=s.size/\(s.size:Int)<=12):=by omega
  refine⟨H,n+5+10+1,by omega,Same.refl _ _,?_⟩
  simp only[Zz,List.getD_cons_zero,len_str,Option.bind_some,k43,hz',decide_false,un_not,Bool.not_false,Xz,if_true,hz,Bool.false_and]
def Yd (s:ByteArray):Bool:=decide (1<=s.size/\s.size<=12) && (Zk s).all Xj
def NodeOk (x:Nd)(m:Int):Prop :=
 (x.k=1/\x.n=0/\x.s=⟨#[]⟩/\x.a=0/\x.b=0) ∨
 (x.k=2/\(0<=x.n/\x.n<=1)/\x.s=⟨#[]⟩/\x.a=0/\x.b=0) ∨
 (x.k=3/\(-1000000000<=x.n/\x.n<=1000000000)/\x.s=⟨#[]⟩/\x.a=0/\x.b=0) ∨
 (x.k=4/\x.n=0/\Yd x.s=true/\x.a=0/\x.b=0) ∨
 (x.k=5/\x.n=0/\x.s=⟨#[]⟩/\(0<=x.a/\x.a<=m - 1)/\(0<=x.b/\x.b<=m - 1)) ∨
 (x.k=6/\(0<=x.n/\x.n<=1000000000)/\x.s=⟨#[]⟩/\(0<=x.a/\x.a<=m - 1)/\x.b=0) ∨
 (x.k=7/\x.n=0/\x.s=⟨#[]⟩/\(0<=x.a/\x.a<=m - 1)/\x.b=0) ∨
 (x.k=8/\(0<=x.n/\x.n<=99)/\x.s=⟨#[]⟩/\x.a=0/\x.b=0) ∨
 (x.k=9/\(0<=x.n/\x.n<=1000000000)/\x.s=⟨#[]⟩/\x.a=0/\x.b=0)
instance (x:Nd) (m:Int):Decidable (NodeOk x m):=by unfold NodeOk; infer_instance
theorem k77 (x:Nd)(hx:x.s.size<=1048576)(m:Int)(hm:0<=m/\m<=1000000000)(H:Hp)(n:Nat):Rt Tryz.prog 77 [.agg ⟨x.cells⟩,.int .i64 m] H n (.bool (decide (NodeOk x m))):=by
 apply Rt.of
 rw[c77];unfold S77
 have hw:IntKind.i64.wrap (m - 1)=m - 1:=Wo Om
 obtain⟨xk,xn,xs,xa,xb⟩:=x
 simp only at hx
 have fin:∀ (b:Bool) (H':Hp) (n':Nat),n<=n'->Same n H H'->b=decide (NodeOk ⟨xk,xn,xs,xa,xb⟩ m)->Wp (some (Value.bool b,H',n')) (fun q=>n<=q.2.2/\Same n H q.2.1/\q.1=.bool (decide (NodeOk ⟨xk,xn,xs,xa,xb⟩ m))):=by
  intro b H' n' h1 h2 h3
  exact Wp.pure ⟨h1,h2,by rw[h3]⟩
 by_cases e1:xk=1
 ·subst e1
  refine W1 (Zu @Nd.cells.eq_1 @k43) ?_
  refine fin _ _ _ Om (by(repeat(first|exact Same.refl _ _|refine Same.set ?_ Om _))) ?_
  rw[Bool.eq_iff_iff];simp[NodeOk,Yd];try grind
 by_cases e2:xk=2
 ·subst e2
  refine W1 (Zu @Nd.cells.eq_1 @k43) ?_
  refine fin _ _ _ Om (by(repeat(first|exact Same.refl _ _|refine Same.set ?_ Om _))) ?_
  rw[Bool.eq_iff_iff];simp[NodeOk,Yd];try grind
 by_cases e3:xk=3
 ·subst e3
  refine W1 (Zu @Nd.cells.eq_1 @k43) ?_
  refine fin _ _ _ Om (by(repeat(first|exact Same.refl _ _|refine Same.set ?_ Om _))) ?_
  rw[Bool.eq_iff_iff];simp[NodeOk,Yd];try grind
 by_cases e4:xk=4
 ·subst e4
  obtain⟨H1,n1,a1,a2,a3⟩:=k75 xs hx (H.set n (some (.row [.int .i64 4,.int .i64 xn,.string xs,.int .i64 xa,.int .i64 xb] 0 true))) (n+30)
  have b0:H1 n=some (.row [.int .i64 4,.int .i64 xn,.string xs,.int .i64 xa,.int .i64 xb] 0 true):=by rw[a2 n Om];exact Ze _ _ _
  refine W1 (Yv @Nd.cells.eq_1 @k43 a3 b0) ?_
  refine fin _ _ _ ?_ (((Same.refl _ _).set (Nat.le_refl _) _).trans (a2.less (show n<=n+30 by omega)) (Nat.le_refl _)) ?_
  ·omega
  rw[Bool.eq_iff_iff];simp[NodeOk,Yd];try grind
 by_cases e5:xk=5
 ·subst e5
  refine W1 (Ye @Nd.cells.eq_1 @k43 hw) ?_
  refine fin _ _ _ Om (by(repeat(first|exact Same.refl _ _|refine Same.set ?_ Om _))) ?_
  rw[Bool.eq_iff_iff];simp[NodeOk,Yd];try grind
 by_cases e6:xk=6
 ·subst e6
  refine W1 (Ye @Nd.cells.eq_1 @k43 hw) ?_
  refine fin _ _ _ Om (by(repeat(first|exact Same.refl _ _|refine Same.set ?_ Om _))) ?_
  rw[Bool.eq_iff_iff];simp[NodeOk,Yd];try grind
 by_cases e7:xk=7
 ·subst e7
  refine W1 (Ye @Nd.cells.eq_1 @k43 hw) ?_
  refine fin _ _ _ Om (by(repeat(first|exact Same.refl _ _|refine Same.set ?_ Om _))) ?_
  rw[Bool.eq_iff_iff];simp[NodeOk,Yd];try grind
 by_cases e8:xk=8
 ·subst e8
  refine W1 (Zu @Nd.cells.eq_1 @k43) ?_
  refine fin _ _ _ Om (by(repeat(first|exact Same.refl _ _|refine Same.set ?_ Om _))) ?_
  rw[Bool.eq_iff_iff];simp[NodeOk,Yd];try grind
 by_cases e9:xk=9
 ·subst e9
  refine W1 (Zu @Nd.cells.eq_1 @k43) ?_
  refine fin _ _ _ Om (by(repeat(first|exact Same.refl _ _|refine Same.set ?_ Om _))) ?_
  rw[Bool.eq_iff_iff];simp[NodeOk,Yd];try grind
 refine W1 (Yj @Nd.cells.eq_1 @k43 e1 e2 e3 e4 e5 (Yv e6 e7 e8 e9)) ?_
 refine fin _ _ _ Om (by(repeat(first|exact Same.refl _ _|refine Same.set ?_ Om _))) ?_
 simp[NodeOk,e1,e2,e3,e4,e5,e6,e7,e8,e9]
theorem k81 (x:Nd)(hx:x.s.size<=1048576)(m:Int)(hm:0<=m/\m<=1000000000)(H:Hp)(n:Nat):Rt Tryz.prog 81 [.agg ⟨x.cells⟩,.int .i64 m] H n (.bool (decide (NodeOk x m))):=by
 apply Rt.of
 rw[c81];unfold S81
 have hw:IntKind.i64.wrap (m - 1)=m - 1:=Wo Om
 obtain⟨xk,xn,xs,xa,xb⟩:=x
 simp only at hx
 have fin:∀ (b:Bool) (H':Hp) (n':Nat),n<=n'->Same n H H'->b=decide (NodeOk ⟨xk,xn,xs,xa,xb⟩ m)->Wp (some (Value.bool b,H',n')) (fun q=>n<=q.2.2/\Same n H q.2.1/\q.1=.bool (decide (NodeOk ⟨xk,xn,xs,xa,xb⟩ m))):=by
  intro b H' n' h1 h2 h3
  exact Wp.pure ⟨h1,h2,by rw[h3]⟩
 by_cases e1:xk=1
 ·subst e1
  refine W1 (Ye @Nd.cells.eq_1 @k47 hw) ?_
  refine fin _ _ _ Om (by(repeat(first|exact Same.refl _ _|refine Same.set ?_ Om _))) ?_
  rw[Bool.eq_iff_iff];simp[NodeOk,Yd];try grind
 by_cases e2:xk=2
 ·subst e2
  by_cases c0:0<=xn/\xn<=1
  case neg=>
   refine W1 (Yv @Nd.cells.eq_1 @k47 hw c0) ?_
   refine fin _ _ _ Om (by(repeat(first|exact Same.refl _ _|refine Same.set ?_ Om _))) ?_
   rw[Bool.eq_iff_iff];simp[NodeOk,Yd];try grind
  refine W1 (Xm @Nd.cells.eq_1 @k47 hw c0 @and_self) ?_
  refine fin _ _ _ Om (by(repeat(first|exact Same.refl _ _|refine Same.set ?_ Om _))) ?_
  rw[Bool.eq_iff_iff];simp[NodeOk,Yd];try grind
 by_cases e3:xk=3
 ·subst e3
  by_cases c0 : -1000000000<=xn/\xn<=1000000000
  case neg=>
   refine W1 (Yv @Nd.cells.eq_1 @k47 hw c0) ?_
   refine fin _ _ _ Om (by(repeat(first|exact Same.refl _ _|refine Same.set ?_ Om _))) ?_
   rw[Bool.eq_iff_iff];simp[NodeOk,Yd];try grind
  refine W1 (Xm @Nd.cells.eq_1 @k47 hw c0 @and_self) ?_
  refine fin _ _ _ Om (by(repeat(first|exact Same.refl _ _|refine Same.set ?_ Om _))) ?_
  rw[Bool.eq_iff_iff];simp[NodeOk,Yd];try grind
 by_cases e4:xk=4
 ·subst e4
  obtain⟨n1,a1,a3⟩:=k79 xs hx (H.set n (some (.row [.int .i64 4,.int .i64 xn,.string xs,.int .i64 xa,.int .i64 xb] 0 true))) (n+8+10+6+10+21)
  by_cases c0:(decide (1<=xs.size/\xs.size<=12) && (Zk xs).all Xj)=true
  ·rw[c0]at a3
   refine W1 (Yv @Nd.cells.eq_1 @k47 hw a3) ?_
   refine fin _ _ _ Om (by(repeat(first|exact Same.refl _ _|refine Same.set ?_ Om _))) ?_
   rw[Bool.eq_iff_iff];simp[NodeOk,Yd]at c0 ⊢;try grind
  ·rw[Bool.not_eq_true]at c0;rw[c0]at a3
   refine W1 (Yv @Nd.cells.eq_1 @k47 hw a3) ?_
   refine fin _ _ _ Om (by(repeat(first|exact Same.refl _ _|refine Same.set ?_ Om _))) ?_
   simp only[NodeOk,Yd,c0];simp
 by_cases e5:xk=5
 ·subst e5
  by_cases c0:(0<=xa/\xa<=m - 1)/\(0<=xb/\xb<=m - 1)
  case neg=>
   refine W1 (Yv @Nd.cells.eq_1 @k47 hw (show(decide (0<=xa/\xa<=m - 1) && decide (0<=xb/\xb<=m - 1))=false by simp only[← Bool.decide_and];exact decide_eq_false c0)) ?_
   refine fin _ _ _ Om (by(repeat(first|exact Same.refl _ _|refine Same.set ?_ Om _))) ?_
   rw[Bool.eq_iff_iff];simp[NodeOk,Yd];try grind
  by_cases c1:xn=0
  case neg=>
   refine W1 (Wt @Nd.cells.eq_1 @k47 hw c0.1 c0.2 @and_self c1) ?_
   refine fin _ _ _ Om (by(repeat(first|exact Same.refl _ _|refine Same.set ?_ Om _))) ?_
   rw[Bool.eq_iff_iff];simp[NodeOk,Yd];try grind
  refine W1 (Yj @Nd.cells.eq_1 @k47 hw c0.1 c0.2 @and_self c1 @and_self) ?_
  refine fin _ _ _ Om (by(repeat(first|exact Same.refl _ _|refine Same.set ?_ Om _))) ?_
  rw[Bool.eq_iff_iff];simp[NodeOk,Yd];try grind
 by_cases e6:xk=6
 ·subst e6
  by_cases c0:0<=xa/\xa<=m - 1
  case neg=>
   refine W1 (Yv @Nd.cells.eq_1 @k47 hw c0) ?_
   refine fin _ _ _ Om (by(repeat(first|exact Same.refl _ _|refine Same.set ?_ Om _))) ?_
   rw[Bool.eq_iff_iff];simp[NodeOk,Yd];try grind
  by_cases c1:0<=xn/\xn<=1000000000
  case neg=>
   refine W1 (Xq @Nd.cells.eq_1 @k47 hw c0 @and_self c1) ?_
   refine fin _ _ _ Om (by(repeat(first|exact Same.refl _ _|refine Same.set ?_ Om _))) ?_
   rw[Bool.eq_iff_iff];simp[NodeOk,Yd];try grind
  by_cases c2:xb=0
  case neg=>
   refine W1 (Yj @Nd.cells.eq_1 @k47 hw c0 @and_self c1 @and_self c2) ?_
   refine fin _ _ _ Om (by(repeat(first|exact Same.refl _ _|refine Same.set ?_ Om _))) ?_
   rw[Bool.eq_iff_iff];simp[NodeOk,Yd];try grind
  refine W1 (Yj @Nd.cells.eq_1 @k47 hw c0 @and_self c1 @and_self (Zu c2 @and_self)) ?_
  refine fin _ _ _ Om (by(repeat(first|exact Same.refl _ _|refine Same.set ?_ Om _))) ?_
  rw[Bool.eq_iff_iff];simp[NodeOk,Yd];try grind
 by_cases e7:xk=7
 ·subst e7
  by_cases c0:0<=xa/\xa<=m - 1
  case neg=>
   refine W1 (Yv @Nd.cells.eq_1 @k47 hw c0) ?_
   refine fin _ _ _ Om (by(repeat(first|exact Same.refl _ _|refine Same.set ?_ Om _))) ?_
   rw[Bool.eq_iff_iff];simp[NodeOk,Yd];try grind
  by_cases c1:xn=0
  case neg=>
   refine W1 (Xq @Nd.cells.eq_1 @k47 hw c0 @and_self c1) ?_
   refine fin _ _ _ Om (by(repeat(first|exact Same.refl _ _|refine Same.set ?_ Om _))) ?_
   rw[Bool.eq_iff_iff];simp[NodeOk,Yd];try grind
  by_cases c2:xb=0
  case neg=>
   refine W1 (Yj @Nd.cells.eq_1 @k47 hw c0 @and_self c1 @and_self c2) ?_
   refine fin _ _ _ Om (by(repeat(first|exact Same.refl _ _|refine Same.set ?_ Om _))) ?_
   rw[Bool.eq_iff_iff];simp[NodeOk,Yd];try grind
  refine W1 (Yj @Nd.cells.eq_1 @k47 hw c0 @and_self c1 @and_self (Zu c2 @and_self)) ?_
  refine fin _ _ _ Om (by(repeat(first|exact Same.refl _ _|refine Same.set ?_ Om _))) ?_
  rw[Bool.eq_iff_iff];simp[NodeOk,Yd];try grind
 by_cases e8:xk=8
 ·subst e8
  by_cases c0:0<=xn/\xn<=99
  case neg=>
   refine W1 (Yv @Nd.cells.eq_1 @k47 hw c0) ?_
   refine fin _ _ _ Om (by(repeat(first|exact Same.refl _ _|refine Same.set ?_ Om _))) ?_
   rw[Bool.eq_iff_iff];simp[NodeOk,Yd];try grind
  refine W1 (Xm @Nd.cells.eq_1 @k47 hw c0 @and_self) ?_
  refine fin _ _ _ Om (by(repeat(first|exact Same.refl _ _|refine Same.set ?_ Om _))) ?_
  rw[Bool.eq_iff_iff];simp[NodeOk,Yd];try grind
 by_cases e9:xk=9
 ·subst e9
  by_cases c0:0<=xn/\xn<=1000000000
  case neg=>
   refine W1 (Yv @Nd.cells.eq_1 @k47 hw c0) ?_
   refine fin _ _ _ Om (by(repeat(first|exact Same.refl _ _|refine Same.set ?_ Om _))) ?_
   rw[Bool.eq_iff_iff];simp[NodeOk,Yd];try grind
  refine W1 (Xm @Nd.cells.eq_1 @k47 hw c0 @and_self) ?_
  refine fin _ _ _ Om (by(repeat(first|exact Same.refl _ _|refine Same.set ?_ Om _))) ?_
  rw[Bool.eq_iff_iff];simp[NodeOk,Yd];try grind
 refine W1 (Yj @Nd.cells.eq_1 @k47 hw e1 e2 e3 e4 (Xm e5 e6 e7 e8 e9)) ?_
 refine fin _ _ _ Om (by(repeat(first|exact Same.refl _ _|refine Same.set ?_ Om _))) ?_
 simp[NodeOk,e1,e2,e3,e4,e5,e6,e7,e8,e9]
def NodesOk:List Nd->Nat->Prop
 | [],_=>True
 | x :: l,i=>NodeOk x i/\NodesOk l (i+1)
instance:∀ (l:List Nd) (i:Nat),Decidable (NodesOk l i)
 | [],_=>isTrue trivial
 | x :: l,i=>@instDecidableAnd _ _ _ (instDecidableNodesOk l (i+1))
def PoolOk (l:List Nd):Prop:=NodesOk l 0/\l.length<=3000
instance (l:List Nd):Decidable (PoolOk l):=by unfold PoolOk; infer_instance
theorem Wl:∀ (l m:List Nd)(i:Nat),NodesOk (l++m) i↔NodesOk l i/\NodesOk m (i+l.length)
 | [],m,i=>by simp[NodesOk]
 | x :: l,m,i=>by
  rw[List.cons_append,NodesOk,NodesOk,Wl l m (i+1),List.length_cons,and_assoc,show i+1+l.length=i+(l.length+1) by omega]
theorem l40 {n0:Nat}{H0:Hp}{v:Value}{l:List Nd}(hv:Li eNode n0 H0 v l)(hs:∀ x∈l,x.s.size<=1048576)(hl:l.length<=1048576):∀ t H n,n0<=n->Same n0 H0 H->t 6=v->t 7=.int .i64 l.length->t 8=.int .i64 0 ->
  Wp (Zm (S40L0 (Call Tryz.prog) Zm) t H n) (fun o=>n<=o.n/\Same n H o.H/\((o.e=.exit 0/\o.t 1=t 1/\NodesOk l 0)∨(o.e=.ret/\o.t 2=.bool false/\¬ NodesOk l 0))):=by
 intro t H n hn0 hsm0 e6 e7 e8
 refine Zt (fun d T H' n'=>∃ (j:Nat),j+d=l.length/\n<=n'/\Same n H H'/\T 1=t 1/\T 6=v/\T 7=.int .i64 l.length/\T 8=.int .i64 j/\NodesOk (l.take j) 0) _ ?_ l.length t H n ⟨0,by omega,by omega,Same.refl _ _,rfl,e6,e7,e8,by simp[NodesOk]⟩
 rintro d T H' n' ⟨j,hj,hn,hsm,e1,e6,e7,e8,hok⟩
 unfold S40L0
 have hv':=hv.keep (hsm0.trans hsm hn0) (Nat.le_refl _)
 by_cases hlt:(j:Int) < l.length
 ·have hlt':j < l.length:=by omega
  have g:=hv'.nAll Om hlt
  have hw:=wj (j:=j) (len:=l.length) hlt' Om
  obtain⟨H1,n1,a1,a2,a3⟩:=k77 (gi l (j:Int)) (hs _ (Yb Om hlt)) (j:Int) Om (H'.set (n'+4) (some (.row (gi l (j:Int)).cells 0 true))) (n'+11)
  have s2:Same n H H1:=(hsm.set (show n<=n'+4 by omega) _).trans (a2.less (show n<=n'+11 by omega)) (Nat.le_refl _)
  have hz:Yz [Value.int .i64 0,.int .i64 0,.string ⟨#[]⟩,.int .i64 0,.int .i64 0] 0 (gi l (j:Int)).cells=(gi l (j:Int)).cells:=rfl
  have hc:(gi l (j:Int)).cells.length=5:=rfl
  have hd:(List.take 5 (List.drop 0 (gi l (j:Int)).cells))=(gi l (j:Int)).cells:=rfl
  have hnx:NodesOk (l.take (j+1)) 0↔NodesOk (l.take j) 0/\NodeOk (gi l (j:Int)) (j:Int):=by
   rw[Wa hlt',Wl,List.length_take,Nat.min_eq_left Om,Nat.zero_add,Yq hlt']
   simp[NodesOk]
  by_cases h:NodeOk (gi l (j:Int)) (j:Int)
  ·rw[decide_eq_true h]at a3
   refine W0 (Yj e6 e7 e8 hlt g hw @st_agg (Yj @stv_set hc hz @ldA_set hd a3 @Hp_set_set (Zu @List.length_cons.{0} @List.length_nil.{0}))) ?_
   exact Wp.pure (Nxt.go (d - 1) Om ⟨j+1,by omega,by omega,s2,Pp e1,Pp e6,Pp e7,Po,hnx.2 ⟨hok,h⟩⟩)
  ·rw[decide_eq_false h]at a3
   refine W0 (Yj e6 e7 e8 hlt g hw @st_agg (Yj @stv_set hc hz @ldA_set hd a3 @Hp_set_set (Zu @List.length_cons.{0} @List.length_nil.{0}))) ?_
   refine Wp.pure (Nxt.ret ⟨So,s2,.inr ⟨rfl,Po,fun hn=>?_⟩⟩)
   have:NodesOk (l.take (j+1)) 0:=by
    rw[← List.take_append_drop (j+1) l,Wl]at hn
    exact hn.1
   exact h (hnx.1 this).2
 ·refine W0 (Yv e6 e7 e8 hlt) ?_
  rw[List.take_of_length_le Om]at hok
  exact Wp.pure (Nxt.exit ⟨Nat.le_trans hn (Nat.le_add_right _ _),hsm,.inl ⟨rfl,Pp e1,hok⟩⟩)
theorem k40 {n:Nat}{H:Hp}{v:Value}{l:List Nd}(hv:Li eNode n H v l)(hs:∀ x∈l,x.s.size<=1048576)(hl:l.length<=1048576):Rt Tryz.prog 40 [.agg ⟨[v]⟩] H n (.bool (decide (PoolOk l))):=by
 apply Rt.of
 rw[c40];unfold S40
 have s1:Same n H (H.set n (some (.row [v] 0 true))):=by(repeat(first|exact Same.refl _ _|refine Same.set ?_ Om _))
 refine W1 hv.len ?_
 refine Wp.bind (l40 (n0:=n) (hv.keep s1 (Nat.le_refl _)) hs hl _ _ _ Om (Same.refl _ _) Po Po Po) ?_
 rintro⟨oe,ot,oH,on⟩ ⟨f2,f3,f4⟩
 simp only at f2 f3 f4
 have hb:oH n=some (.row [v] 0 true):=by rw[f3 n Om];exact Ze _ _ _
 rcases f4 with⟨rfl,f4,f5⟩|⟨rfl,f4,f5⟩
 ·have f4:ot 1=ptr n 0:=by rw[f4];simp[Zn]
  refine W0 (Xq @outOf.eq_1 f4 @ld_r hb @Yc hv.len) ?_
  refine Wp.pure ⟨So,s1.trans (f3.less Om) (Nat.le_refl _),?_⟩
  have:decide (PoolOk l)=decide ((l.length:Int)<=3000):=by
   by_cases hc:(l.length:Int)<=3000
   ·rw[decide_eq_true hc];exact decide_eq_true ⟨f5,by omega⟩
   ·rw[decide_eq_false hc];exact decide_eq_false fun h=>hc (by have:=h.2;omega)
  rw[this]
 ·refine W0 f4 ?_
  exact Wp.pure ⟨So,s1.trans (f3.less Om) (Nat.le_refl _),by show ot 2=_;rw[f4,decide_eq_false fun h=>f5 h.1]⟩
theorem l45 {n0 b:Nat}{H0:Hp}{v:Value}{l:List Nd}(hv:Li eNode n0 H0 v l)(hs:∀ x∈l,x.s.size<=1048576)(hl:l.length<=1048576):∀ t H n,n0<=n->Same n0 H0 H->b < n->H b=some (.row [v] 0 true)->t 1=ptr b 0->t 3=.int .i64 0 ->
  Wp (Zm (S45L0 (Call Tryz.prog) Zm) t H n) (fun o=>n<=o.n/\Same n H o.H/\((o.e=.exit 0/\o.t 1=ptr b 0/\NodesOk l 0)∨(o.e=.ret/\o.t 2=.bool false/\¬ NodesOk l 0))):=by
 intro t H n hn0 hsm0 hb hH e1 e3
 refine Zt (fun d T H' n'=>∃ (j:Nat),j+d=l.length/\n<=n'/\Same n H H'/\T 1=ptr b 0/\T 3=.int .i64 j/\NodesOk (l.take j) 0) _ ?_ l.length t H n ⟨0,by omega,by omega,Same.refl _ _,e1,e3,by simp[NodesOk]⟩
 rintro d T H' n' ⟨j,hj,hn,hsm,e1,e3,hok⟩
 unfold S45L0
 have hv':=hv.keep (hsm0.trans hsm hn0) (Nat.le_refl _)
 have hb':H' b=some (.row [v] 0 true):=by rw[hsm b hb];exact hH
 by_cases hlt:(j:Int) < l.length
 ·have hlt':j < l.length:=by omega
  have g:=hv'.nAll Om hlt
  have hw:=wj (j:=j) (len:=l.length) hlt' Om
  obtain⟨H1,n1,a1,a2,a3⟩:=k81 (gi l (j:Int)) (hs _ (Yb Om hlt)) (j:Int) Om H' (n'+13)
  have s2:Same n H H1:=hsm.trans (a2.less (show n<=n'+13 by omega)) (Nat.le_refl _)
  have hnx:NodesOk (l.take (j+1)) 0↔NodesOk (l.take j) 0/\NodeOk (gi l (j:Int)) (j:Int):=by
   rw[Wa hlt',Wl,List.length_take,Nat.min_eq_left Om,Nat.zero_add,Yq hlt']
   simp[NodesOk]
  by_cases h:NodeOk (gi l (j:Int)) (j:Int)
  ·rw[decide_eq_true h]at a3
   refine W0 (Yj e1 e3 @ld_r hb' @Yc hv'.len hlt (Ye g hw a3)) ?_
   exact Wp.pure (Nxt.go (d - 1) Om ⟨j+1,by omega,by omega,s2,Pp e1,Po,hnx.2 ⟨hok,h⟩⟩)
  ·rw[decide_eq_false h]at a3
   refine W0 (Yj e1 e3 @ld_r hb' @Yc hv'.len hlt (Ye g hw a3)) ?_
   refine Wp.pure (Nxt.ret ⟨So,s2,.inr ⟨rfl,Po,fun hn=>?_⟩⟩)
   have:NodesOk (l.take (j+1)) 0:=by
    rw[← List.take_append_drop (j+1) l,Wl]at hn
    exact hn.1
   exact h (hnx.1 this).2
 ·refine W0 (Wt e1 e3 @ld_r hb' @Yc hv'.len hlt) ?_
  rw[List.take_of_length_le Om]at hok
  exact Wp.pure (Nxt.exit ⟨Nat.le_trans hn (Nat.le_add_right _ _),hsm,.inl ⟨rfl,Pp e1,hok⟩⟩)
theorem k45 {n:Nat}{H:Hp}{v:Value}{l:List Nd}(hv:Li eNode n H v l)(hs:∀ x∈l,x.s.size<=1048576)(hl:l.length<=1048576):Rt Tryz.prog 45 [.agg ⟨[v]⟩] H n (.bool (decide (PoolOk l))):=by
 apply Rt.of
 rw[c45];unfold S45
 have s1:Same n H (H.set n (some (.row [v] 0 true))):=by(repeat(first|exact Same.refl _ _|refine Same.set ?_ Om _))
 refine W1 hv.len ?_
 refine Wp.bind (l45 (n0:=n) (b:=n) (hv.keep s1 (Nat.le_refl _)) hs hl _ _ _ Om (Same.refl _ _) Om (Ze _ _ _) Po Po) ?_
 rintro⟨oe,ot,oH,on⟩ ⟨f2,f3,f4⟩
 simp only at f2 f3 f4
 have hb:oH n=some (.row [v] 0 true):=by rw[f3 n Om];exact Ze _ _ _
 rcases f4 with⟨rfl,f4,f5⟩|⟨rfl,f4,f5⟩
 ·refine W0 (Xm f4 @ld_r hb @Yc hv.len) ?_
  refine Wp.pure ⟨So,s1.trans (f3.less Om) (Nat.le_refl _),?_⟩
  have:decide (PoolOk l)=decide ((l.length:Int)<=3000):=by
   by_cases hc:(l.length:Int)<=3000
   ·rw[decide_eq_true hc];exact decide_eq_true ⟨f5,by omega⟩
   ·rw[decide_eq_false hc];exact decide_eq_false fun h=>hc (by have:=h.2;omega)
  rw[this]
 ·refine W0 f4 ?_
  exact Wp.pure ⟨So,s1.trans (f3.less Om) (Nat.le_refl _),by show ot 2=_;rw[f4,decide_eq_false fun h=>f5 h.1]⟩
theorem NodesOk_at:∀ {l:List Nd}{i:Nat},NodesOk l i->∀ {j:Nat},j < l.length->NodeOk (gi l (j:Int)) ((i+j:Nat):Int)
 | x :: l,i,h,0,_=>h.1
 | x :: l,i,h,j+1,hj=>by
  have:=NodesOk_at h.2 (j:=j) (by simpa using hj)
  rw[show i+1+j=i+(j+1) by omega]at this
  exact this
theorem PoolOk.at {l:List Nd}(h:PoolOk l){v:Int}(h0:0<=v)(h1:v < l.length):NodeOk (gi l v) v:=by
 obtain⟨j,rfl⟩:=Int.eq_ofNat_of_zero_le h0
 have:=NodesOk_at h.1 (j:=j) Om
 rw[Nat.zero_add]at this
 exact this
theorem NodeOk.pair {x:Nd}{m:Int}(h:NodeOk x m)(hk:x.k=5):(0<=x.a/\x.a < m)/\(0<=x.b/\x.b < m):=by
 rcases h with h|h|h|h|h|h|h|h|h <;> (obtain⟨h1,h2⟩:=h;rw[hk]at h1;try(exact absurd h1 (by decide)))
 omega
theorem NodeOk.one {x:Nd}{m:Int}(h:NodeOk x m)(hk:x.k=6∨x.k=7):0<=x.a/\x.a < m:=by
 rcases h with h|h|h|h|h|h|h|h|h <;> obtain⟨h1,h2⟩:=h <;> omega
theorem k46 {n:Nat}{H:Hp}{v:Value}{l:List Nd}(hv:Li eNode n H v l)(hl:l.length<=1048576)(i:Int):Rt Tryz.prog 46 [.agg ⟨[v]⟩,.int .i64 i] H n (.bool (decide (0<=i/\i < l.length))):=by
 apply Rt.of
 rw[c46];unfold S46
 have hw:IntKind.i64.wrap ((l.length:Int) - 1)=l.length - 1:=Wo Om
 have he:(0<=i/\i<=(l.length:Int) - 1)=(0<=i/\i < (l.length:Int)):=propext Om
 refine W1 (Yv hv.len hw @k47 he) ?_
 exact Wp.pure ⟨So,by(repeat(first|exact Same.refl _ _|refine Same.set ?_ Om _)),rfl⟩
theorem k41 {n:Nat}{H:Hp}{v:Value}{l:List Nd}(hv:Li eNode n H v l)(hl:l.length<=1048576)(i:Int):Rt Tryz.prog 41 [.agg ⟨[v]⟩,.int .i64 i] H n (.bool (decide (0<=i/\i < l.length))):=by
 apply Rt.of
 rw[c41];unfold S41
 have hw:IntKind.i64.wrap ((l.length:Int) - 1)=l.length - 1:=Wo Om
 have he:(0<=i/\i<=(l.length:Int) - 1)=(0<=i/\i < (l.length:Int)):=propext Om
 refine W1 (Yv hv.len hw @k43 he) ?_
 exact Wp.pure ⟨So,by(repeat(first|exact Same.refl _ _|refine Same.set ?_ Om _)),rfl⟩
theorem k109 (a b:Int)(H:Hp)(n:Nat):Call Tryz.prog 109 [.int .i64 a,.int .i64 b] H n=some (.int .i64 (if a < b then a else b),H,n+6):=by
 rw[c109];unfold S109
 by_cases h:a < b
 ·simp(disch:=omega)only[↓reduceIte,Zr,↓X0,X1,Nat.reduceEqDiff,Int.reduceEq,Nat.reduceAdd,Nat.reduceSub,h]
 ·simp(disch:=omega)only[↓reduceIte,Zr,↓X0,X1,Nat.reduceEqDiff,Int.reduceEq,Nat.reduceAdd,Nat.reduceSub,h]
def szStep (acc:List Int)(x:Nd):Int :=
 let s:=if x.k=5 then 1+gi acc x.a+gi acc x.b else if x.k=6∨x.k=7 then 1+gi acc x.a else 1
 if s < 1000000000 then s else 1000000000
def sizes (l:List Nd):List Int:=l.foldl (fun acc x=>acc++[szStep acc x]) []
def sizeOf (l:List Nd)(v:Int):Int:=if PoolOk l/\0<=v/\v < l.length then gi (sizes l) v else 0
def chain (l:List Nd):Nat->Int->List Int × Bool
 | 0,_=>([],false)
 | f+1,v=>if(gi l v).k=5 then((gi l v).a :: (chain l f (gi l v).b).1,(chain l f (gi l v).b).2)else([],decide ((gi l v).k=1))
theorem chain_fuel {l:List Nd}(hp:PoolOk l):∀ (f g:Nat)(v:Int),0<=v->v < l.length->v < f->v < g->chain l f v=chain l g v
 | 0,_,v,h0,_,hf,_=>by omega
 | _,0,v,h0,_,_,hg=>by omega
 | f+1,g+1,v,h0,h1,hf,hg=>by
  unfold chain
  by_cases hk:(gi l v).k=5
  ·have:=(hp.at h0 h1).pair hk
   rw[if_pos hk,if_pos hk,chain_fuel hp f g _ this.2.1 Om Om Om]
  ·rw[if_neg hk,if_neg hk]
def Zi (l:List Nd)(v:Int):List Int × Bool:=chain l (v.toNat+1) v
theorem chainOf_eq {l:List Nd}(hp:PoolOk l){v:Int}(h0:0<=v)(h1:v < l.length):Zi l v=if(gi l v).k=5 then((gi l v).a :: (Zi l (gi l v).b).1,(Zi l (gi l v).b).2)else([],decide ((gi l v).k=1)):=by
 unfold Zi
 rw[chain]
 by_cases hk:(gi l v).k=5
 ·have:=(hp.at h0 h1).pair hk
  rw[if_pos hk,if_pos hk,chain_fuel hp v.toNat ((gi l v).b.toNat+1) _ this.2.1 Om Om Om]
 ·rw[if_neg hk,if_neg hk]
theorem chain_len (l:List Nd):∀ (f:Nat)(v:Int),(chain l f v).1.length<=f
 | 0,v=>by simp[chain]
 | f+1,v=>by
  unfold chain
  split
  ·simp only[List.length_cons];have:=chain_len l f (gi l v).b;omega
  ·simp
theorem Vr {l:List Nd}{v:Int}(h0:0<=v)(h1:v < l.length):(Zi l v).1.length<=l.length:=by
 have:=chain_len l (v.toNat+1) v
 unfold Zi;omega
theorem l139 {n0 b:Nat}{H0:Hp}{v:Value}{l:List Nd}{cs:List Value}{e:Nat}{rw_:Bool}(hv:Li eNode n0 H0 v l)(hp:PoolOk l)(hbn:b < n0)(hb:H0 b=some (.row cs e rw_)) (ho:cs[0]?=some v)(w:Int)(h0:0<=w)(h1:w < l.length):∀ t H n id,n0<=n->Same n0 H0 H->n0<=id->id < n->t 2=ptr b 0->t 1=.int .i64 w->t 6=sl id 0 0->H id=some (.row [] 1 true) ->
  Wp (Zm (S139L0 (Call Tryz.prog) Zm) t H n) (fun out=>n<=out.n/\Same n0 H0 out.H/\out.e=.exit 0/\out.t 2=ptr b 0/\∃ (u:Int) (id:Nat),0<=u/\u < l.length/\out.t 1=.int .i64 u/\(Zi l w).2=decide ((gi l u).k=1)/\n0<=id/\id < out.n/\At eInt id out.H (out.t 6) (Zi l w).1):=by
 intro t H n id hn0 hsm0 hid hidn e0 e1 e6 hH
 have hl:=hp.2
 refine Zt (fun d T H' n'=>∃ (u:Int) (id:Nat) (acc:List Int),0<=u/\u < l.length/\d=u.toNat/\n<=n'/\Same n0 H0 H'/\T 2=ptr b 0/\T 1=.int .i64 u/\n0<=id/\id < n'/\At eInt id H' (T 6) acc/\(acc++(Zi l u).1=(Zi l w).1)/\(Zi l u).2=(Zi l w).2) _ ?_ w.toNat t H n ⟨w,id,[],h0,h1,rfl,by omega,hsm0,e0,e1,hid,hidn,by rw[e6];exact .inr ⟨rfl,hH⟩,by simp,rfl⟩
 rintro d T H' n' ⟨u,id,acc,hu0,hu1,hd,hn,hsm,e0,e1,hid,hidn,hat,hc1,hc2⟩
 unfold S139L0
 have hv':=hv.keep hsm (Nat.le_refl _)
 have hb':H' b=some (.row cs e rw_):=by rw[hsm b hbn];exact hb
 have g:=hv'.nAll hu0 hu1
 have hce:=chainOf_eq hp hu0 hu1
 by_cases hk:(gi l u).k=5
 ·have hpr:=(hp.at hu0 hu1).pair hk
  rw[if_pos hk]at hce
  rw[hce]at hc1 hc2
  simp only at hc1 hc2
  have hlen:acc.length<=3000:=by
   have hle:=congrArg List.length hc1
   rw[List.length_append]at hle
   have:=Vr h0 h1
   omega
  obtain⟨H3,f1,f2,f3⟩:=app_one (id1:=n'+14) (id2:=n'+15) (bytes:=8) (gi l u).a hat Om (by decide) Om
  have hsm3:Same n0 H0 H3:=fun i hi=>by rw[f3 i Om Om Om,hsm i hi]
  have g3:=(hv.keep hsm3 (Nat.le_refl _)).nAll hu0 hu1
  have hb3:H3 b=some (.row cs e rw_):=by rw[hsm3 b hbn];exact hb
  refine W0 (Yj e0 e1 @ld_r hb' @Yc ho g (Xm hk (bsl_one eInt (gi l u).a (n'+14) [.int .i64 0] (.int .i64 (gi l u).a) H' rfl rfl (by decide)) f1 hb3 g3)) ?_
  exact Wp.pure (Nxt.go (gi l u).b.toNat Om ⟨(gi l u).b,n'+15,acc++[(gi l u).a],hpr.2.1,by omega,rfl,by omega,hsm3,Pp e0,Po,by omega,by omega,by simp only[Zn];exact .inr ⟨rfl,f2⟩,by rw[List.append_assoc];exact hc1,hc2⟩)
 ·rw[if_neg hk]at hce
  rw[hce]at hc1 hc2
  refine W0 (Yj e0 e1 @ld_r hb' @Yc ho g hk) ?_
  refine Wp.pure (Nxt.exit ⟨Nat.le_trans hn (Nat.le_add_right _ _),hsm,rfl,Pp e0,u,id,hu0,hu1,Pp e1,hc2.symm,hid,Nat.lt_of_lt_of_le hidn (Nat.le_add_right _ _),?_⟩)
  rw[← hc1,List.append_nil]
  simpa[Zn]using hat
def Wc (l:List Nd)(w:Int):List Int × Bool:=if(Zi l w).2=true then((Zi l w).1,true)else([],false)
theorem k139 {n:Nat}{H:Hp}{v:Value}{l:List Nd}(hv:Li eNode n H v l)(hp:PoolOk l)(w:Int)(h0:0<=w)(h1:w < l.length):RtN Tryz.prog 139 [.agg ⟨[v]⟩,.int .i64 w] H n (fun r H' n'=>∃ u,r=.tuple ⟨[u,.bool (Wc l w).2]⟩/\New eInt n n' H' u (Wc l w).1):=by
 apply RtN.of
 rw[c139];unfold S139
 have s1:Same n H (H.set n (some (.row [v] 0 true))):=by(repeat(first|exact Same.refl _ _|refine Same.set ?_ Om _))
 refine W1 @Wz ?_
 refine Wp.bind (l139 (n0:=n+1) (b:=n) (H0:=H.set n (some (.row [v] 0 true))) ((hv.keep s1 (Nat.le_refl _)).up Om) hp Om (Ze _ _ _) rfl w h0 h1 _ _ _ (n+3) Om ((Same.refl _ _).set Om _) Om Om Po Pa Po (Ze _ _ _)) ?_
 rintro⟨oe,ot,oH,on⟩ ⟨f2,f3,f4,f5,u,id,f6,f7,f8,f9,f10,f11,f12⟩
 simp only at f2 f3 f4 f5 f6 f7 f8 f9 f10 f11 f12
 have g:=((hv.keep s1 (Nat.le_refl _)).keep (f3.less (show n<=n+1 by omega)) (Nat.le_refl _)).nAll f6 f7
 have hb':oH n=some (.row [v] 0 true):=by rw[f3 n Om];exact Ze _ _ _
 have hnt:notTup (ot 6)=true:=by rcases f12 with⟨h,_⟩|⟨h,_⟩ <;> rw[h] <;> rfl
 have s3:Same n H oH:=s1.trans (f3.less (show n<=n+1 by omega)) (Nat.le_refl _)
 unfold Wc
 by_cases hk:(gi l u).k=1
 ·rw[decide_eq_true hk]at f9
  refine W1 (Xq f5 f8 hb' g hk hnt) ?_
  rw[f9]
  exact Wp.pure ⟨So,s3,ot 6,rfl,id,by omega,So,f12⟩
 ·rw[decide_eq_false hk]at f9
  refine W1 (Xq f5 f8 hb' g hk @Wz) ?_
  rw[f9]
  exact Wp.pure ⟨So,s3.set Om _,_,rfl,on+7,by omega,So,.inr ⟨rfl,Ze _ _ _⟩⟩
abbrev RtA (P:Program)(f:Nat)(args:List Value)(c id:Nat)(H:Hp)(n:Nat)(R:Value->Hp->Nat->Prop):Prop:=∃ v H' n',n<=n'/\(∀ i,i < n->i≠c->i≠id->H' i=H i)/\Call P f args H n=some (v,H',n')/\R v H' n'
theorem Zj {P:Program}{f:Nat}{args:List Value}{H:Hp}{n c id:Nat}{β:Type}{g:Value × Hp × Nat->Option β}{Q:β->Prop}{R:Value->Hp->Nat->Prop}(h:RtA P f args c id H n R)(k:∀ v H' n',n<=n'->(∀ i,i < n->i≠c->i≠id->H' i=H i)->R v H' n'->Wp (g (v,H',n')) Q):Wp ((Call P f args H n).bind g) Q:=by
 obtain⟨v,H',n',h1,h2,h3,h4⟩:=h
 rw[h3];exact k v H' n' h1 h2 h4
theorem RtA.of {P:Program}{f:Nat}{args:List Value}{c id:Nat}{H:Hp}{n:Nat}{R:Value->Hp->Nat->Prop}(h:Wp (Call P f args H n) fun q=>n<=q.2.2/\(∀ i,i < n->i≠c->i≠id->q.2.1 i=H i)/\R q.1 q.2.1 q.2.2):RtA P f args c id H n R:=by
 obtain⟨⟨v',H',n'⟩,h1,h2,h3,h4⟩:=h
 exact⟨v',H',n',h2,h3,h1,h4⟩
theorem setAt_set {cs:List Value}{o:Nat}(v:Value)(h:o < cs.length):Yz cs o [v]=cs.set o v:=by
 unfold Yz
 rw[List.set_eq_take_append_cons_drop,if_pos h]
 simp
theorem st_cset {H:Hp}{c o:Nat}{cs:List Value}{e:Nat}{v:Value}(h:H c=some (.row cs e true)) (ho:o < cs.length)(hv:cell1 v=true):st false 1 (ptr c o) v H=some (H.set c (some (.row (cs.set o v) e true))):=by
 rw[st_c hv,stv_box h,setAt_set v ho]
 rw[if_pos (by simp;omega)]
theorem lt_get {cs:List Value}{o:Nat}{v:Value}(h:cs[o]?=some v):o < cs.length:=(List.getElem?_eq_some_iff.1 h).1
structure PC (c o id n:Nat)(H:Hp)(cs:List Value)(e:Nat)(v:Value)(l:List Nd):Prop where
 hc:H c=some (.row cs e true)
 ho:cs[o]?=some v
 at_:At eNode id H v l
 cn:c < n
 idn:id < n
 ne:id≠c
theorem PC.mv {c o id n m:Nat}{H H':Hp}{cs:List Value}{e:Nat}{v:Value}{l:List Nd}(h:PC c o id n H cs e v l)(hm:n<=m)(h1:H' c=H c)(h2:H' id=H id):PC c o id m H' cs e v l :=
 ⟨by rw[h1];exact h.hc,h.ho,h.at_.mv h2,by have:=h.cn;omega,by have:=h.idn;omega,h.ne⟩
theorem sub1 {m:Nat}(h:m<=9000000000000000000):IntKind.i64.wrap (((m+1:Nat):Int) - 1)=(m:Int):=by rw[Wo Om];omega
theorem k101 {c o id n:Nat}{H:Hp}{cs:List Value}{e:Nat}{v:Value}{l:List Nd}(h:PC c o id n H cs e v l)(hl:l.length<=10000000)(x:Nd) :
  RtA Tryz.prog 101 [ptr c o,.agg ⟨x.cells⟩] c id H n (fun r H' n'=>r=.int .i64 l.length/\∃ v' id',n<=id'/\PC c o id' n' H' (cs.set o v') e v' (l++[x])):=by
 apply RtA.of
 rw[c101];unfold S101
 obtain⟨hc,ho,hat,hcn,hid,hne⟩:=h
 have hol:=lt_get ho
 refine W1 (Yv hc ho @Nd.cells.eq_1 @bsl_n) ?_
 refine Ub (E:=eNode) x (hat.mv Mo) Om (by decide) Om ?_
 intro H4 r1 r2
 have hc4:H4 c=some (.row cs e true):=by simp(disch:=omega) only[r2,Zf,hc]
 have hst:=st_cset (v:=sl (n+9) 0 (l++[x]).length) hc4 hol rfl
 have hlast:(cs.set o (sl (n+9) 0 (l++[x]).length))[o]?=some (sl (n+9) 0 (l++[x]).length):=by rw[List.getElem?_set_self hol]
 have hw:IntKind.i64.wrap (((l++[x]).length:Int) - 1)=(l.length:Int):=by rw[List.length_append];exact sub1 Om
 refine W0 (Xq hst @ld_r @Ze @Yc hlast hw) ?_
 refine Wp.pure ⟨So,?_,rfl,_,n+9,by omega,Ze _ _ _,hlast,.inr ⟨rfl,?_⟩,So,So,by omega⟩
 ·intro i hi h1 h2;simp(disch:=omega) only[Zf,r2]
 ·exact(Zf _ _ Om).trans r1
theorem k88 {c o id n:Nat}{H:Hp}{cs:List Value}{e:Nat}{v:Value}{l:List Nd}(h:PC c o id n H cs e v l)(hl:l.length<=10000000)(x:Nd) :
  RtA Tryz.prog 88 [ptr c o,.agg ⟨x.cells⟩] c id H n (fun r H' n'=>r=.int .i64 l.length/\∃ v' id',n<=id'/\PC c o id' n' H' (cs.set o v') e v' (l++[x])):=by
 apply RtA.of
 rw[c88];unfold S88
 obtain⟨hc,ho,hat,hcn,hid,hne⟩:=h
 have hol:=lt_get ho
 refine W1 (Yv hc ho @Nd.cells.eq_1 @bsl_n) ?_
 refine Ub (E:=eNode) x (hat.mv Mo) Om (by decide) Om ?_
 intro H4 r1 r2
 have hc4:H4 c=some (.row cs e true):=by simp(disch:=omega) only[r2,Zf,hc]
 have hst:=st_cset (v:=sl (n+9) 0 (l++[x]).length) hc4 hol rfl
 have hlast:(cs.set o (sl (n+9) 0 (l++[x]).length))[o]?=some (sl (n+9) 0 (l++[x]).length):=by rw[List.getElem?_set_self hol]
 have hw:IntKind.i64.wrap (((l++[x]).length:Int) - 1)=(l.length:Int):=by rw[List.length_append];exact sub1 Om
 refine W0 (Xq hst @ld_r @Ze @Yc hlast hw) ?_
 refine Wp.pure ⟨So,?_,rfl,_,n+9,by omega,Ze _ _ _,hlast,.inr ⟨rfl,?_⟩,So,So,by omega⟩
 ·intro i hi h1 h2;simp(disch:=omega) only[Zf,r2]
 ·exact(Zf _ _ Om).trans r1
theorem k125 {c o id n:Nat}{H:Hp}{cs:List Value}{e:Nat}{v:Value}{l:List Nd}(h:PC c o id n H cs e v l)(hl:l.length<=10000000)(a b:Int) :
  RtA Tryz.prog 125 [ptr c o,.int .i64 a,.int .i64 b] c id H n (fun r H' n'=>r=.int .i64 l.length/\∃ v' id',n<=id'/\PC c o id' n' H' (cs.set o v') e v' (l++[⟨5,0,⟨#[]⟩,a,b⟩])):=by
 apply RtA.of
 rw[c125];unfold S125
 refine W1 trivial ?_
 refine Zj (k101 (h.mv Om rfl rfl) hl ⟨5,0,⟨#[]⟩,a,b⟩) ?_
 rintro _ H1 n1 q1 s1 ⟨rfl,v',id',i1,i2⟩
 refine W0 trivial ?_
 exact Wp.pure ⟨So,(Mm s1),rfl,v',id',by omega,i2⟩
theorem Li.nilOr {α:Type}{E:Enc α}{n:Nat}{H:Hp}{v:Value}{l:List α}(h:Li E n H v l):(v=nilS/\l=[])∨∃ a m c,v=.slice (some a) m c:=by
 obtain⟨⟨_,⟨h0,rfl|⟨i,o,q,c,rfl⟩⟩|⟨i,o,c,cs,e,rw,rfl,_⟩⟩,_⟩:=h
 ·exact .inl ⟨rfl,List.length_eq_zero_iff.1 h0⟩
 ·exact .inr ⟨_,_,_,rfl⟩
 ·exact .inr ⟨_,_,_,rfl⟩
theorem bsl_z5 (id:Nat)(H:Hp):Xx id 5 0 [.int .i64 0,.int .i64 0,.string ⟨#[]⟩,.int .i64 0,.int .i64 0] [] H=some (sl id 0 0,H.set id (some (.row [] 5 true))):=bsl_zn _ _ _ _ rfl
theorem k92 {n:Nat}{H:Hp}{v:Value}{l:List Nd}(hv:Li eNode n H v l)(hl:l.length<=10000000):RtN Tryz.prog 92 [v] H n (fun r H' n'=>New eNode n n' H' r l):=by
 apply RtN.mk
 rw[c92];unfold S92
 rcases hv.nilOr with⟨rfl,rfl⟩|⟨a,m,c,rfl⟩
 ·refine W0 ((show Zd .slice .eql nilS nilS=some (.bool true)from rfl)) ?_
  exact Wp.pure ⟨So,fun _ _=>rfl,n,by omega,So,At.nil⟩
 ·refine W0 (Zu (show Zd .slice .eql (.slice (some a) m c) nilS=some (.bool false)from rfl) @bsl_z5) ?_
  refine Wp.appL (E:=eNode) (l:=[]) (id:=n+3) (.inr ⟨rfl,Ze _ _ _⟩) (hv.mv (m:=n) Om Mo) (by decide) (by simp;omega) ?_
  intro v' H' a1 a2
  refine W0 trivial ?_
  refine Wp.pure ⟨So,?_,n+5,by omega,So,by simpa using a1⟩
  intro i hi;simp(disch:=omega) only[a2,Zf]
theorem Wp.bld1 {z:Value}{v:Value}{β:Type}{g:Value->Option β}{Q:β->Prop}(hv:cell1 v=true)(k:Wp (g (.agg ⟨[v]⟩)) Q):Wp ((Xf [z] [(0,1,v)]).bind g) Q:=by
 have:Xf [z] [(0,1,v)]=some (.agg ⟨[v]⟩):=by
  simp[Xf,fill,vcells1 hv,Yz]
 rw[this];exact k
theorem k57 {n:Nat}{H:Hp}{v:Value}{l:List Nd}(hv:Li eNode n H v l)(hl:l.length<=10000000):RtN Tryz.prog 57 [.agg ⟨[v]⟩] H n (fun r H' n'=>∃ u,r=.agg ⟨[u]⟩/\New eNode n n' H' u l):=by
 apply RtN.mk
 rw[c57];unfold S57
 refine W1 trivial ?_
 refine Ya (k92 (hv.mv Om Mo) hl) ?_
 rintro u H1 n1 q1 s1 ⟨id,i1,i2,i3⟩
 refine Wp.bld1 i3.cell ?_
 refine W1 s1 ?_
 exact Wp.pure ⟨So,(Mm s1),u,rfl,id,by omega,So,i3.mv Mo⟩
theorem k51 {n:Nat}{H:Hp}{v:Value}{l:List Nd}(hv:Li eNode n H v l)(hl:l.length<=10000000):RtN Tryz.prog 51 [.agg ⟨[v]⟩] H n (fun r H' n'=>∃ u,r=.agg ⟨[u]⟩/\New eNode n n' H' u l):=by
 apply RtN.mk
 rw[c51];unfold S51
 refine W1 @bsl_z5 ?_
 refine Wp.appL (E:=eNode) (l:=[]) (id:=n+2) (.inr ⟨rfl,Ze _ _ _⟩) (hv.mv (m:=n) Om Mo) (by decide) (by simp;omega) ?_
 intro v' H' a1 a2
 refine Wp.bld1 a1.cell ?_
 refine W1 a2 ?_
 refine Wp.pure ⟨So,?_,v',rfl,n+5,by omega,So,?_⟩
 ·intro i hi;simp(disch:=omega) only[a2,Zf]
 ·simpa using a1.mv (H':=H'.set (n+1) (some (.row [v'] 0 true))) (by rw[Zf _ _ Om])
def New3 (lo n:Nat)(H:Hp)(u ul ud:Value)(l:List Nd)(li:List Ins)(ld:List Df):Prop:=∃ i il id,i≠il/\i≠id/\il≠id/\lo<=i/\i < n/\lo<=il/\il < n/\lo<=id/\id < n/\At eNode i H u l/\At eIns il H ul li/\At eDef id H ud ld
theorem Li.mv2 {α:Type}{E:Enc α}{n m c d:Nat}{H H':Hp}{v:Value}{l:List α}(h:Li E n H v l)(hc:Off c v)(hd:Off d v)(hm:n<=m)(hs:∀ i,i < n->i≠c->i≠d->H' i=H i):Li E m H' v l:=(h.keep' fun i o a k e=>hs i (h.2 i o a k e) (hc i o a k e) (hd i o a k e)).up hm
abbrev Xt (a b:Int):Nd:=⟨5,0,⟨#[]⟩,a,b⟩
abbrev Va:Nd:=⟨1,0,⟨#[]⟩,0,0⟩
def Vz (b:Int):List Int->List Nd
 | []=>[]
 | a :: r=>Xt a b :: Vz (b+1) r
def lNodes (b:Int)(xs:List Int):List Nd:=Va :: Vz b xs.reverse
theorem lPairs_len:∀ (b:Int)(r:List Int),(Vz b r).length=r.length
 | b,[]=>rfl
 | b,a :: r=>by simp[Vz,lPairs_len (b+1) r]
theorem lPairs_snoc:∀ (b:Int)(r:List Int)(a:Int),Vz b (r++[a])=Vz b r++[Xt a (b+r.length)]
 | b,[],a=>by simp[Vz]
 | b,x :: r,a=>by
  rw[List.cons_append,Vz,lPairs_snoc (b+1) r a,Vz,List.cons_append,List.length_cons]
  congr 4;omega
theorem lNodes_len (b:Int)(xs:List Int):(lNodes b xs).length=xs.length+1:=by simp[lNodes,lPairs_len]
theorem lRev_next {xs:List Int}{k:Nat}(h:k < xs.length):xs.reverse.take (k+1)=xs.reverse.take k++[gi xs ((xs.length:Int) - 1 - k)]:=by
 rw[Wa (by simpa using h)]
 congr 2
 rw[List.getElem_reverse,gi_at Om Om]
 congr 1;omega
theorem l140 {c o id0 n0:Nat}{H0:Hp}{cs:List Value}{e:Nat}{v0:Value}{l:List Nd}{w:Value}{xs:List Int}(hw:Li eInt n0 H0 w xs)(hoc:Off c w)(hod:Off id0 w)(hcn:c < n0)(hl:l.length+xs.length<=1000000):∀ t H n v id,n0<=n->(∀ i,i < n0->i≠c->i≠id0->H i=H0 i)->n0<=id->PC c o id n H (cs.set o v) e v (l++[Va])->t 0=ptr c o->t 1=w->t 5=.int .i64 l.length->t 6=.int .i64 ((xs.length:Int) - 1) ->
  Wp (Zm (S140L0 (Call Tryz.prog) Zm) t H n) (fun out=>n<=out.n/\(∀ i,i < n0->i≠c->i≠id0->out.H i=H0 i)/\out.e=.exit 0/\out.t 5=.int .i64 ((l.length:Int)+xs.length)/\∃ v' id',n0<=id'/\PC c o id' out.n out.H (cs.set o v') e v' (l++lNodes l.length xs)):=by
 intro t H n v id hn0 s0 hid hpc e0 e1 e5 e6
 refine Zt (fun d T H' n'=>∃ (k:Nat) (v:Value) (id:Nat),k+d=xs.length/\n<=n'/\(∀ i,i < n0->i≠c->i≠id0->H' i=H0 i)/\n0<=id/\PC c o id n' H' (cs.set o v) e v (l++(Va :: Vz l.length (xs.reverse.take k)))/\T 0=ptr c o/\T 1=w/\T 5=.int .i64 ((l.length:Int)+k)/\T 6=.int .i64 ((xs.length:Int) - 1 - k)) _ ?_ xs.length t H n ⟨0,v,id,by omega,by omega,s0,hid,by simpa[Vz]using hpc,e0,e1,by simpa using e5,by simpa using e6⟩
 rintro d T H' n' ⟨k,v,id,hk,hn,s1,hid,hpc,e0,e1,e5,e6⟩
 unfold S140L0
 by_cases hlt:k < xs.length
 ·have g:=(hw.mv2 hoc hod (Nat.le_refl _) s1).iAll (i:=(xs.length:Int) - 1 - k) Om Om
  have w1:IntKind.i64.wrap ((xs.length:Int) - 1 - k - 1)=(xs.length:Int) - 1 - ((k+1:Nat):Int):=by rw[Wo Om];omega
  have hlen:(l++(Va :: Vz l.length (xs.reverse.take k))).length=l.length+(k+1):=by
   rw[List.length_append,List.length_cons,lPairs_len,List.length_take,List.length_reverse];omega
  refine W0 (Xq e0 e1 e5 e6 g ((show(0:Int)<=(xs.length:Int) - 1 - k by omega))) ?_
  refine Zj (k125 (hpc.mv Om rfl rfl) (by rw[hlen];omega) _ _) ?_
  rintro _ H1 n1 q1 s2 ⟨rfl,v',id',i1,i2⟩
  simp only[hlen]
  refine W0 (Zu e6 w1) ?_
  refine Wp.pure (Nxt.go (d - 1) Om ⟨k+1,v',id',by omega,by omega,(Mm (Zu s2 s1)),by omega,?_,Pp e0,Pp e1,Po,Po⟩)
  have:=i2.mv (Nat.le_add_right n1 3) rfl rfl
  rw[List.set_set]at this
  rw[lRev_next hlt,lPairs_snoc,List.length_take,List.length_reverse,Nat.min_eq_left Om,← List.cons_append,← List.append_assoc]
  exact this
 ·have hkl:k=xs.length:=by omega
  subst hkl
  refine W0 (Zu e6 ((show¬ (0:Int)<=(xs.length:Int) - 1 - xs.length by omega))) ?_
  rw[List.take_of_length_le (by simp)]at hpc
  exact Wp.pure (Nxt.exit ⟨So,s1,rfl,Pp e5,v,id,hid,hpc.mv So rfl rfl⟩)
theorem k140 {c o id n:Nat}{H:Hp}{cs:List Value}{e:Nat}{v:Value}{l:List Nd}(h:PC c o id n H cs e v l){w:Value}{xs:List Int}(hw:Li eInt n H w xs)(hoc:Off c w)(hod:Off id w)(hl:l.length+xs.length<=1000000) :
  RtA Tryz.prog 140 [ptr c o,w] c id H n (fun r H' n'=>r=.int .i64 ((l.length:Int)+xs.length)/\∃ v' id',n<=id'/\PC c o id' n' H' (cs.set o v') e v' (l++lNodes l.length xs)):=by
 apply RtA.of
 rw[c140];unfold S140
 refine W1 trivial ?_
 refine Zj (k101 (h.mv Om rfl rfl) Om Va) ?_
 rintro _ H1 n1 q1 s1 ⟨rfl,v1,id1,i1,i2⟩
 have hws:IntKind.i64.wrap ((xs.length:Int) - 1)=(xs.length:Int) - 1:=Wo Om
 refine W0 (Zu hw.len hws) ?_
 refine Wp.bind (l140 (c:=c) (o:=o) (id0:=id) (n0:=n) (H0:=H) (cs:=cs) (e:=e) (v0:=v) (l:=l) hw hoc hod h.cn hl _ _ _ v1 id1 Om (Mm s1) Om (i2.mv Om rfl rfl) Pa Pa Po Po) ?_
 rintro⟨oe,ot,oH,on⟩ ⟨f1,f2,rfl,f4,v',id',f5,f6⟩
 simp only at f1 f2 f4 f5 f6
 refine W0 f4 ?_
 exact Wp.pure ⟨So,f2,f4,v',id',f5,f6.mv So rfl rfl⟩
theorem l137 {c o id0 n0:Nat}{H0:Hp}{cs:List Value}{e:Nat}{v0:Value}{l:List Nd}{w:Value}{xs:List Int}(hw:Li eInt n0 H0 w xs)(hoc:Off c w)(hod:Off id0 w)(hcn:c < n0)(hl:l.length+xs.length<=1000000):∀ t H n v id,n0<=n->(∀ i,i < n0->i≠c->i≠id0->H i=H0 i)->n0<=id->PC c o id n H (cs.set o v) e v (l++[Va])->t 0=ptr c o->t 1=w->t 5=.int .i64 l.length->t 6=.int .i64 ((xs.length:Int) - 1) ->
  Wp (Zm (S137L0 (Call Tryz.prog) Zm) t H n) (fun out=>n<=out.n/\(∀ i,i < n0->i≠c->i≠id0->out.H i=H0 i)/\out.e=.exit 0/\out.t 5=.int .i64 ((l.length:Int)+xs.length)/\∃ v' id',n0<=id'/\PC c o id' out.n out.H (cs.set o v') e v' (l++lNodes l.length xs)):=by
 intro t H n v id hn0 s0 hid hpc e0 e1 e5 e6
 refine Zt (fun d T H' n'=>∃ (k:Nat) (v:Value) (id:Nat),k+d=xs.length/\n<=n'/\(∀ i,i < n0->i≠c->i≠id0->H' i=H0 i)/\n0<=id/\PC c o id n' H' (cs.set o v) e v (l++(Va :: Vz l.length (xs.reverse.take k)))/\T 0=ptr c o/\T 1=w/\T 5=.int .i64 ((l.length:Int)+k)/\T 6=.int .i64 ((xs.length:Int) - 1 - k)) _ ?_ xs.length t H n ⟨0,v,id,by omega,by omega,s0,hid,by simpa[Vz]using hpc,e0,e1,by simpa using e5,by simpa using e6⟩
 rintro d T H' n' ⟨k,v,id,hk,hn,s1,hid,hpc,e0,e1,e5,e6⟩
 unfold S137L0
 by_cases hlt:k < xs.length
 ·have g:=(hw.mv2 hoc hod (Nat.le_refl _) s1).iAll (i:=(xs.length:Int) - 1 - k) Om Om
  have w1:IntKind.i64.wrap ((xs.length:Int) - 1 - k - 1)=(xs.length:Int) - 1 - ((k+1:Nat):Int):=by rw[Wo Om];omega
  have hlen:(l++(Va :: Vz l.length (xs.reverse.take k))).length=l.length+(k+1):=by
   rw[List.length_append,List.length_cons,lPairs_len,List.length_take,List.length_reverse];omega
  refine W1 (Xq e0 e1 e5 e6 g ((show(0:Int)<=(xs.length:Int) - 1 - k by omega))) ?_
  refine Zj (k88 (hpc.mv Om rfl rfl) (by rw[hlen];omega) (Xt _ _)) ?_
  rintro _ H1 n1 q1 s2 ⟨rfl,v',id',i1,i2⟩
  simp only[hlen]
  refine W0 (Zu e6 w1) ?_
  refine Wp.pure (Nxt.go (d - 1) Om ⟨k+1,v',id',by omega,by omega,(Mm (Zu s2 s1)),by omega,?_,Pp e0,Pp e1,Po,Po⟩)
  have:=i2.mv (Nat.le_add_right n1 3) rfl rfl
  rw[List.set_set]at this
  rw[lRev_next hlt,lPairs_snoc,List.length_take,List.length_reverse,Nat.min_eq_left Om,← List.cons_append,← List.append_assoc]
  exact this
 ·have hkl:k=xs.length:=by omega
  subst hkl
  refine W0 (Zu e6 ((show¬ (0:Int)<=(xs.length:Int) - 1 - xs.length by omega))) ?_
  rw[List.take_of_length_le (by simp)]at hpc
  exact Wp.pure (Nxt.exit ⟨So,s1,rfl,Pp e5,v,id,hid,hpc.mv So rfl rfl⟩)
theorem k137 {c o id n:Nat}{H:Hp}{cs:List Value}{e:Nat}{v:Value}{l:List Nd}(h:PC c o id n H cs e v l){w:Value}{xs:List Int}(hw:Li eInt n H w xs)(hoc:Off c w)(hod:Off id w)(hl:l.length+xs.length<=1000000) :
  RtA Tryz.prog 137 [ptr c o,w] c id H n (fun r H' n'=>r=.int .i64 ((l.length:Int)+xs.length)/\∃ v' id',n<=id'/\PC c o id' n' H' (cs.set o v') e v' (l++lNodes l.length xs)):=by
 apply RtA.of
 rw[c137];unfold S137
 refine W1 trivial ?_
 refine Zj (k88 (h.mv Om rfl rfl) Om Va) ?_
 rintro _ H1 n1 q1 s1 ⟨rfl,v1,id1,i1,i2⟩
 have hws:IntKind.i64.wrap ((xs.length:Int) - 1)=(xs.length:Int) - 1:=Wo Om
 refine W0 (Zu hw.len hws) ?_
 refine Wp.bind (l137 (c:=c) (o:=o) (id0:=id) (n0:=n) (H0:=H) (cs:=cs) (e:=e) (v0:=v) (l:=l) hw hoc hod h.cn hl _ _ _ v1 id1 Om (Mm s1) Om (i2.mv Om rfl rfl) Pa Pa Po Po) ?_
 rintro⟨oe,ot,oH,on⟩ ⟨f1,f2,rfl,f4,v',id',f5,f6⟩
 simp only at f1 f2 f4 f5 f6
 refine W0 f4 ?_
 exact Wp.pure ⟨So,f2,f4,v',id',f5,f6.mv So rfl rfl⟩
theorem calleeP_fn (k:Nat)(cap args:List Value):calleeP (.func (.func k) #[] ⟨cap⟩) args=some (k,args++cap):=rfl
theorem lPairs_ok:∀ (r:List Int)(b:Int)(i:Nat),(∀ a∈r,0<=a/\a < i)->0<=b->b+1=i->NodesOk (Vz b r) i
 | [],_,_,_,_,_=>trivial
 | a :: r,b,i,ha,hb,hi=>by
  refine⟨?_,lPairs_ok r (b+1) (i+1) (fun x hx=>by have:=ha x (List.mem_cons_of_mem _ hx);omega) Om Om⟩
  have:=ha a List.mem_cons_self
  show NodeOk ⟨5,0,⟨#[]⟩,a,b⟩ i
  unfold NodeOk
  exact .inr (.inr (.inr (.inr (.inl ⟨rfl,rfl,rfl,⟨this.1,So⟩,⟨hb,So⟩⟩))))
theorem lPairs_s:∀ (r:List Int)(b:Int),∀ x∈Vz b r,x.s=⟨#[]⟩
 | [],_,x,h=>by cases h
 | a :: r,b,x,h=>by
  rcases List.mem_cons.1 h with rfl|h
  ·rfl
  ·exact lPairs_s r (b+1) x h
theorem lNodes_s {b:Int}{xs:List Int}{x:Nd}(h:x∈lNodes b xs):x.s=⟨#[]⟩:=by
 rcases List.mem_cons.1 h with rfl|h
 ·rfl
 ·exact lPairs_s _ _ x h
theorem fi_some {α:Type}{p:α->Bool}{l:List α}{k:Nat}(hk:k < l.length)(h:p l[k]=true)(hn:∀ q (hq:q < l.length),q < k->p l[q]=false):l.findIdx? p=some k :=
 List.findIdx?_eq_some_iff_getElem.2 ⟨hk,h,fun q hq=>by simp[hn q Om hq]⟩
theorem fi_none {α:Type}{p:α->Bool}{l:List α}(hn:∀ q (hq:q < l.length),p l[q]=false):l.findIdx? p=none:=by
 refine List.findIdx?_eq_none_iff.2 fun x hx=>?_
 obtain⟨q,hq,rfl⟩:=List.mem_iff_getElem.1 hx
 exact hn q hq
def fiInt:Option Nat->Int
 | some k=>(k:Int)
 | none=> -1
def Xb (ld:List Df)(s:ByteArray):Int:=fiInt (ld.findIdx? (fun d=>decide (d.s=s)))
theorem defOf_rng (ld:List Df)(s:ByteArray) : -1<=Xb ld s/\Xb ld s < (ld.length:Int):=by
 unfold Xb
 cases h:ld.findIdx? (fun d=>decide (d.s=s))with
 | none=>simp only[fiInt];omega
 | some k=>have:=(List.findIdx?_eq_some_iff_getElem.1 h).1;simp only[fiInt];omega
theorem k115 {c n:Nat}{H:Hp}(d:Df)(s:ByteArray)(hc:H c=some (.row [.string s] 0 true)) (hcn:c < n):Rt Tryz.prog 115 [.agg ⟨d.cells⟩,ptr c 0] H n (.bool (decide (d.s=s))):=by
 apply Rt.mk
 rw[c115];unfold S115
 refine W1 (Zu @Df.cells.eq_1 hc) ?_
 exact Wp.pure ⟨So,Mo,rfl⟩
theorem k114 {n:Nat}{H:Hp}{v:Value}{l:List Df}(hv:Li eDef n H v l)(hl:l.length<=1048576)(k:Nat)(cap:List Value)(p:Df->Bool)(hp:∀ x∈l,∀ H' n',n<=n'->(∀ i,i < n->H' i=H i)->Rt Tryz.prog k (.agg ⟨x.cells⟩ :: cap) H' n' (.bool (p x))):Rt Tryz.prog 114 [v,.func (.func k) #[] ⟨cap⟩] H n (.int .i64 (fiInt (l.findIdx? p))):=by
 apply Rt.mk
 rw[c114];unfold S114
 refine W0 hv.len ?_
 refine Wp.bind (Zt (fun d t H' n'=>∃ j:Nat,j+d=l.length/\n<=n'/\(∀ i,i < n->H' i=H i)/\t 0=v/\t 1=.func (.func k) #[] ⟨cap⟩/\t 7=.int .i64 l.length/\t 8=.int .i64 j/\∀ q (hq:q < l.length),q < j->p l[q]=false) (fun o=>n<=o.n/\(∀ i,i < n->o.H i=H i)/\((o.e=.exit 0/\l.findIdx? p=none)∨(o.e=.ret/\∃ j:Nat,o.t 4=.int .i64 j/\l.findIdx? p=some j))) ?_ l.length _ H _ ⟨0,by omega,by omega,fun _ _=>rfl,Pa,Pa,Po,Po,by omega⟩) ?_
 ·rintro d t H' n' ⟨j,hj,hn,s0,e0,e1,e7,e8,hno⟩
  unfold S114L0
  by_cases hlt:j < l.length
  ·have hlti:(j:Int) < l.length:=by omega
   have hw:=wj (j:=j) (len:=l.length) hlt Om
   have g:=(hv.mv (Nat.le_refl _) s0).dAll (i:=(j:Int)) Om hlti
   rw[Yq hlt]at g
   refine W0 (Wt e0 e1 e7 e8 hlti g @calleeP_fn) ?_
   refine Zv (hp l[j] (List.getElem_mem hlt) H' (n'+9) Om s0) ?_
   intro H1 n1 q1 s1
   by_cases hpj:p l[j]=true
   ·refine W0 hpj ?_
    exact Wp.pure (Nxt.ret ⟨So,(Mm (Zu s1 s0)),.inr ⟨rfl,j,Pp e8,fi_some hlt hpj hno⟩⟩)
   ·have hpj':p l[j]=false:=by simpa using hpj
    refine W0 (Ye hpj' e8 hw) ?_
    refine Wp.pure (Nxt.go (d - 1) Om ⟨j+1,by omega,by omega,(Mm (Zu s1 s0)),Pp e0,Pp e1,Pp e7,Po,fun q hq hqj=>?_⟩)
    by_cases hqe:q=j
    ·subst hqe;exact hpj'
    ·exact hno q hq Om
  ·have hlti:¬ (j:Int) < l.length:=by omega
   refine W0 (Ye e7 e8 hlti) ?_
   exact Wp.pure (Nxt.exit ⟨So,s0,.inl ⟨rfl,fi_none fun q hq=>hno q hq Om⟩⟩)
 ·rintro⟨oe,ot,oH,on⟩ ⟨f1,f2,f3⟩
  simp only at f1 f2 f3
  rcases f3 with⟨rfl,f4⟩|⟨rfl,j,f4,f5⟩
  ·simp(disch:=omega)only[↓reduceIte,Zr,↓X0,X1,Nat.reduceEqDiff,Int.reduceEq,Nat.reduceAdd,Nat.reduceSub]
   exact Wp.pure ⟨So,f2,by simp only[f4,fiInt]⟩
  ·simp(disch:=omega)only[↓reduceIte,Zr,↓X0,X1,Nat.reduceEqDiff,Int.reduceEq,Nat.reduceAdd,Nat.reduceSub,f4]
   exact Wp.pure ⟨So,f2,by simp only[f5,fiInt]⟩
theorem k76 {n:Nat}{H:Hp}{v vl vd:Value}{ld:List Df}(hvd:Li eDef n H vd ld)(hl:ld.length<=1048576)(s:ByteArray):Rt Tryz.prog 76 [.agg ⟨[v,vl,vd]⟩,.string s] H n (.int .i64 (Xb ld s)):=by
 apply Rt.mk
 rw[c76];unfold S76
 refine W1 @ptrV.eq_1 ?_
 refine Zv (k114 (hvd.mv Om Mo) hl _ _ (fun d=>decide (d.s=s)) ?_) ?_
 ·intro x hx H' n' hn' hs'
  exact k115 x s (by simp(disch:=omega) only[hs',Ze]) Om
 intro H1 n1 q1 s1
 refine W0 trivial ?_
 exact Wp.pure ⟨So,(Mm s1),rfl⟩
theorem k80 {n:Nat}{H:Hp}{v vl vd:Value}{ld:List Df}(hvd:Li eDef n H vd ld)(hl:ld.length<=1048576)(s:ByteArray):Rt Tryz.prog 80 [.agg ⟨[v,vl,vd]⟩,.string s] H n (.int .i64 (Xb ld s)):=by
 apply Rt.mk
 rw[c80];unfold S80 Xb
 refine W1 trivial ?_
 generalize hp:(fun d:Df=>decide (d.s=s))=p
 have hpp:∀ d,p d=decide (d.s=s):=fun d=>by rw[← hp]
 refine Wp.bind (Zt (fun d t H' n'=>∃ j:Nat,j+d=ld.length/\n+1<=n'/\H'=H.set n (some (.row [v,vl,vd] 0 true))/\t 1=.string s/\t 2=ptr n 0/\t 5=.int .i64 j/\∀ q (hq:q < ld.length),q < j->p ld[q]=false) (fun o=>n+1<=o.n/\o.H=H.set n (some (.row [v,vl,vd] 0 true))/\((o.e=.exit 0/\ld.findIdx? p=none)∨(o.e=.ret/\∃ j:Nat,o.t 4=.int .i64 j/\ld.findIdx? p=some j))) ?_ ld.length _ _ _ ⟨0,by omega,by omega,rfl,Pa,Po,Po,by omega⟩) ?_
 ·rintro d t H' n' ⟨j,hj,hn,rfl,e1,e2,e5,hno⟩
  unfold S80L0
  have hlen:=(hvd.mv (H':=H.set n (some (.row [v,vl,vd] 0 true))) (Nat.le_refl _) Mo).len
  by_cases hlt:j < ld.length
  ·have hlti:(j:Int) < ld.length:=by omega
   have hw:=wj (j:=j) (len:=ld.length) hlt Om
   have g:=(hvd.mv (H':=H.set n (some (.row [v,vl,vd] 0 true))) (Nat.le_refl _) Mo).dAll (i:=(j:Int)) Om hlti
   rw[Yq hlt]at g
   by_cases hpj:ld[j].s=s
   ·refine W1 (Wt e1 e2 e5 hlen hlti g hpj) ?_
    exact Wp.pure (Nxt.ret ⟨So,rfl,.inr ⟨rfl,j,Pp e5,fi_some hlt (by rw[hpp];simpa using hpj) hno⟩⟩)
   ·refine W1 (Yj e1 e2 e5 hlen hlti g hpj hw) ?_
    refine Wp.pure (Nxt.go (d - 1) Om ⟨j+1,by omega,by omega,rfl,Pp e1,Pp e2,Po,fun q hq hqj=>?_⟩)
    by_cases hqe:q=j
    ·subst hqe;rw[hpp];simpa using hpj
    ·exact hno q hq Om
  ·have hlti:¬ (j:Int) < ld.length:=by omega
   refine W1 (Yv e2 e5 hlen hlti) ?_
   exact Wp.pure (Nxt.exit ⟨So,rfl,.inl ⟨rfl,fi_none fun q hq=>hno q hq Om⟩⟩)
 ·rintro⟨oe,ot,oH,on⟩ ⟨f1,rfl,f3⟩
  simp only at f1 f3
  rcases f3 with⟨rfl,f4⟩|⟨rfl,j,f4,f5⟩
  ·refine W0 trivial ?_
   exact Wp.pure ⟨So,Mo,by simp only[f4,fiInt]⟩
  ·refine W0 f4 ?_
   exact Wp.pure ⟨So,Mo,by simp only[f5,fiInt];exact f4⟩
instance:Inhabited Bool:=⟨false⟩
def Vy (out:List Bool)(x:Nd):List Bool:=if x.k=5 then(out.set x.a.toNat true).set x.b.toNat true else if x.k=6∨x.k=7 then out.set x.a.toNat true else out
def rStep (l:List Nd)(out:List Bool)(i:Nat):List Bool:=if gi out (i:Int)=true then Vy out (gi l (i:Int))else out
def rDown (l:List Nd):Nat->List Bool->List Bool
 | 0,out=>out
 | i+1,out=>rDown l i (rStep l out i)
def Vw (m:Nat)(roots:List Int):List Bool:=roots.foldl (fun o r=>o.set r.toNat true) (List.replicate m false)
def Xu (l:List Nd)(roots:List Int):List Bool:=rDown l l.length (Vw l.length roots)
theorem rMark_len (out:List Bool)(x:Nd):(Vy out x).length=out.length:=by
 unfold Vy
 split
 ·simp
 ·split <;> simp
theorem rStep_len (l:List Nd)(out:List Bool)(i:Nat):(rStep l out i).length=out.length:=by unfold rStep;split <;> simp[rMark_len]
theorem rDown_len (l:List Nd):∀ (i:Nat)(out:List Bool),(rDown l i out).length=out.length
 | 0,out=>rfl
 | i+1,out=>by rw[rDown,rDown_len l i,rStep_len]
theorem rRoots_aux (roots:List Int):∀ o:List Bool,(roots.foldl (fun o r=>o.set r.toNat true) o).length=o.length:=by
 induction roots with
 | nil=>intro o;rfl
 | cons r rs ih=>intro o;rw[List.foldl_cons,ih];simp
theorem rRoots_len (m:Nat)(roots:List Int):(Vw m roots).length=m:=by unfold Vw;rw[rRoots_aux];simp
theorem reachM_len (l:List Nd)(roots:List Int):(Xu l roots).length=l.length:=by unfold Xu;rw[rDown_len,rRoots_len]
theorem rRoots_take {m:Nat}{roots:List Int}{j:Nat}(h:j < roots.length):Vw m (roots.take (j+1))=(Vw m (roots.take j)).set roots[j].toNat true:=by
 unfold Vw;rw[Wa h,List.foldl_append];rfl
theorem flat_o {l:List Bool}{i:Int}(h0:0<=i)(h1:i < l.length):(l.flatMap eBool.cells)[i.toNat]?=some (.bool (gi l i)):=by
 have:=flat_cell eBool (l:=l) (j:=i.toNat) (f:=0) Om (by decide)
 rw[Nat.mul_one,Nat.add_zero]at this
 rw[this,gi_at h0 h1];rfl
theorem idx1 {id m:Nat}{k:IntKind}{i:Int}(h0:0<=i)(h:i < m):Zo 1 (sl id 0 m) (.int k i)=some (ptr id i.toNat):=by
 have:=idx_sli (sz:=1) (id:=id) (k:=k) h0 h
 rw[Nat.mul_one]at this;exact this
theorem st_o {id:Nat}{H:Hp}{l:List Bool}(h:H id=some (.row (l.flatMap eBool.cells) 1 true)){i:Int}(h0:0<=i)(h1:i < l.length)(b:Bool):st false 1 (ptr id i.toNat) (.bool b) H=some (H.set id (some (.row ((l.set i.toNat b).flatMap eBool.cells) 1 true))) :=
 st_el1 (E:=eBool) h (j:=i.toNat) Om rfl rfl rfl
theorem st_ii {id:Nat}{H:Hp}{l:List Int}(h:H id=some (.row (l.flatMap eInt.cells) 1 true)){i:Int}(h0:0<=i)(h1:i < l.length)(b:Int):st false 1 (ptr id i.toNat) (.int .i64 b) H=some (H.set id (some (.row ((l.set i.toNat b).flatMap eInt.cells) 1 true))) :=
 st_el1 (E:=eInt) h (j:=i.toNat) Om rfl rfl rfl
theorem l0143 {n0 id:Nat}{H0:Hp}{w:Value}{m:Nat}{roots:List Int}(hw:Li eInt n0 H0 w roots)(hid:n0<=id)(hr:∀ r∈roots,0<=r/\r < (m:Int)) (hl:roots.length<=1048576):∀ t H n,id < n->(∀ i,i < n0->H i=H0 i)->t 5=sl id 0 m->t 14=w->t 15=.int .i64 roots.length->t 16=.int .i64 0->H id=some (.row ((List.replicate m false).flatMap eBool.cells) 1 true) ->
  Wp (Zm (S143L0 (Call Tryz.prog) Zm) t H n) (fun o=>n<=o.n/\(∀ i,i < n0->o.H i=H0 i)/\o.e=.exit 0/\o.t 2=t 2/\o.t 5=sl id 0 m/\o.H id=some (.row ((Vw m roots).flatMap eBool.cells) 1 true)):=by
 intro t H n hidn s0 e5 e14 e15 e16 hH
 refine Zt (fun d T H' n'=>∃ j:Nat,j+d=roots.length/\n<=n'/\(∀ i,i < n0->H' i=H0 i)/\T 2=t 2/\T 5=sl id 0 m/\T 14=w/\T 15=.int .i64 roots.length/\T 16=.int .i64 j/\H' id=some (.row ((Vw m (roots.take j)).flatMap eBool.cells) 1 true)) _ ?_ roots.length t H n ⟨0,by omega,by omega,s0,rfl,e5,e14,e15,e16,by simpa[Vw]using hH⟩
 rintro d T H' n' ⟨j,hj,hn,s1,e2,e5,e14,e15,e16,hH⟩
 unfold S143L0
 by_cases hlt:j < roots.length
 ·have hlti:(j:Int) < roots.length:=by omega
  have hws:=wj (j:=j) (len:=roots.length) hlt Om
  have g:=(hw.mv (Nat.le_refl _) s1).iAll (i:=(j:Int)) Om hlti
  rw[Yq hlt]at g
  have hrj:=hr _ (List.getElem_mem hlt)
  have hix:=idx1 (id:=id) (k:=.i64) hrj.1 hrj.2
  have hst:=st_o hH hrj.1 (by rw[rRoots_len];exact hrj.2) true
  rw[← rRoots_take hlt]at hst
  refine W0 (Yj e5 e14 e15 e16 hlti g hix (Zu hst hws)) ?_
  exact Wp.pure (Nxt.go (d - 1) Om ⟨j+1,by omega,by omega,(Mm s1),Pp e2,Pp e5,Pp e14,Pp e15,Po,Ze _ _ _⟩)
 ·have hlti:¬ (j:Int) < roots.length:=by omega
  refine W0 (Ye e15 e16 hlti) ?_
  rw[List.take_of_length_le Om]at hH
  exact Wp.pure (Nxt.exit ⟨So,s1,rfl,Pp e2,Pp e5,hH⟩)
theorem l1143 {n0 b id:Nat}{H0:Hp}{v:Value}{l:List Nd}(hv:Li eNode n0 H0 v l)(hp:PoolOk l)(hid:n0<=id)(hb0:b < n0)(hb:H0 b=some (.row [v] 0 true)) (out0:List Bool)(ho:out0.length=l.length):∀ t H n,id < n->(∀ i,i < n0->H i=H0 i)->t 2=ptr b 0->t 5=sl id 0 l.length->t 8=.int .i64 ((l.length:Int) - 1)->H id=some (.row (out0.flatMap eBool.cells) 1 true) ->
  Wp (Zm (S143L1 (Call Tryz.prog) Zm) t H n) (fun o=>n<=o.n/\(∀ i,i < n0->o.H i=H0 i)/\o.e=.exit 2/\o.t 5=sl id 0 l.length/\o.H id=some (.row ((rDown l l.length out0).flatMap eBool.cells) 1 true)):=by
 intro t H n hidn s0 e2 e5 e8 hH
 have hl:=hp.2
 refine Zt (fun d T H' n'=>∃ cur:List Bool,d<=l.length/\n<=n'/\(∀ i,i < n0->H' i=H0 i)/\T 2=ptr b 0/\T 5=sl id 0 l.length/\T 8=.int .i64 ((d:Int) - 1)/\cur.length=l.length/\rDown l d cur=rDown l l.length out0/\H' id=some (.row (cur.flatMap eBool.cells) 1 true)) _ ?_ l.length t H n ⟨out0,by omega,by omega,s0,e2,e5,e8,ho,rfl,hH⟩
 rintro d T H' n' ⟨cur,hd,hn,s1,e2,e5,e8,hcl,hcd,hH⟩
 unfold S143L1
 by_cases hlt:0 < d
 ·obtain⟨d,rfl⟩:∃ d',d=d'+1:=⟨d - 1,by omega⟩
  have hd1:(((d+1:Nat):Int) - 1)=(d:Int):=by omega
  have hge:(0:Int)<=(d:Int):=by omega
  have hw:IntKind.i64.wrap ((d:Int) - 1)=(d:Int) - 1:=Wo Om
  rw[hd1]at e8
  have hb':H' b=some (.row [v] 0 true):=by rw[s1 b hb0];exact hb
  have hix:=idx1 (id:=id) (k:=.i64) (m:=l.length) hge Om
  have hfo:=flat_o (l:=cur) hge Om
  have hok:=hp.at (v:=(d:Int)) Om Om
  have g:=(hv.mv (Nat.le_refl _) s1).nAll (i:=(d:Int)) Om Om
  rw[rDown,rStep]at hcd
  generalize hx:gi l (d:Int)=x at *
  by_cases ht:gi cur (d:Int)=true
  ·rw[if_pos ht]at hcd
   have h5:x.k=5->(0<=x.a/\x.a < (cur.length:Int))/\(0<=x.b/\x.b < (cur.length:Int)):=fun h=>by have:=hok.pair h;omega
   have h6:x.k=6∨x.k=7->0<=x.a/\x.a < (cur.length:Int):=fun h=>by have:=hok.one h;omega
   obtain⟨xk,xn,xs,xa,xb⟩:=x
   simp only[Nd.cells]at g h5 h6
   have hH2:(H'.set (n'+12) (some (.row [.int .i64 xk,.int .i64 xn,.string xs,.int .i64 xa,.int .i64 xb] 0 true))) id=some (.row (cur.flatMap eBool.cells) 1 true):=by rw[Zf _ _ Om];exact hH
   by_cases c5:xk=5
   ·have ho5:=h5 c5
    have ia:=idx1 (id:=id) (k:=.i64) (m:=l.length) ho5.1.1 Om
    have ib:=idx1 (id:=id) (k:=.i64) (m:=l.length) ho5.2.1 Om
    have ta:=st_o hH2 ho5.1.1 ho5.1.2 true
    have tb:=st_o (Ze (H'.set (n'+12) (some (.row [.int .i64 xk,.int .i64 xn,.string xs,.int .i64 xa,.int .i64 xb] 0 true))) id (some (.row ((cur.set xa.toNat true).flatMap eBool.cells) 1 true))) ho5.2.1 (by rw[List.length_set];exact ho5.2.2) true
    rw[Hp_set_set]at tb
    subst c5
    refine W1 (Yj e2 e5 e8 hge hix hH hfo (Yj ht hb' g ia ta ib tb hw)) ?_
    refine Wp.pure (Nxt.go d Om ⟨Vy cur ⟨5,xn,xs,xa,xb⟩,by omega,by omega,(Mm s1),Pp e2,Pp e5,Po,by rw[rMark_len];exact hcl,hcd,?_⟩)
    exact Ze _ _ _
   ·by_cases c6:xk=6∨xk=7
    ·have ho6:=h6 c6
     have ia:=idx1 (id:=id) (k:=.i64) (m:=l.length) ho6.1 Om
     have ta:=st_o hH2 ho6.1 ho6.2 true
     have hm:Vy cur ⟨xk,xn,xs,xa,xb⟩=cur.set xa.toNat true:=by unfold Vy;rw[if_neg c5,if_pos c6]
     rw[hm]at hcd
     rcases c6 with c6|c6
     ·subst c6
      refine W1 (Yj e2 e5 e8 hge hix hH hfo (Xq ht hb' g ia ta hw)) ?_
      exact Wp.pure (Nxt.go d Om ⟨cur.set xa.toNat true,by omega,by omega,(Mm s1),Pp e2,Pp e5,Po,by rw[List.length_set];exact hcl,hcd,Ze _ _ _⟩)
     ·subst c6
      refine W1 (Yj e2 e5 e8 hge hix hH hfo (Xq ht hb' g ia ta hw)) ?_
      exact Wp.pure (Nxt.go d Om ⟨cur.set xa.toNat true,by omega,by omega,(Mm s1),Pp e2,Pp e5,Po,by rw[List.length_set];exact hcl,hcd,Ze _ _ _⟩)
    ·have c6':¬ xk=6:=fun h=>c6 (.inl h)
     have c7':¬ xk=7:=fun h=>c6 (.inr h)
     have hm:Vy cur ⟨xk,xn,xs,xa,xb⟩=cur:=by unfold Vy;rw[if_neg c5,if_neg c6]
     rw[hm]at hcd
     refine W1 (Yj e2 e5 e8 hge hix hH hfo (Wt ht hb' g c5 c6' c7' hw)) ?_
     exact Wp.pure (Nxt.go d Om ⟨cur,by omega,by omega,(Mm s1),Pp e2,Pp e5,Po,hcl,hcd,hH2⟩)
  ·have ht':gi cur (d:Int)=false:=by simpa using ht
   rw[if_neg ht]at hcd
   refine W1 (Yj e2 e5 e8 hge hix hH hfo (Zu ht' hw)) ?_
   exact Wp.pure (Nxt.go d Om ⟨cur,by omega,by omega,(Mm s1),Pp e2,Pp e5,Po,hcl,hcd,hH⟩)
 ·have hd0:d=0:=by omega
  subst hd0
  refine W0 (Zu e8 ((show¬ (0:Int)<=((0:Nat):Int) - 1 by omega))) ?_
  rw[← hcd]
  exact Wp.pure (Nxt.exit ⟨So,s1,rfl,Pp e5,hH⟩)
theorem k143 {n:Nat}{H:Hp}{v w:Value}{l:List Nd}{roots:List Int}(hv:Li eNode n H v l)(hp:PoolOk l)(hw:Li eInt n H w roots)(hr:∀ r∈roots,0<=r/\r < (l.length:Int)) (hl:roots.length<=1048576):RtN Tryz.prog 143 [.agg ⟨[v]⟩,w] H n (fun r H' n'=>∃ id,n<=id/\id < n'/\r=sl id 0 l.length/\H' id=some (.row ((Xu l roots).flatMap eBool.cells) 1 true)):=by
 apply RtN.mk
 rw[c143];unfold S143
 have hl2:=hp.2
 have hm:∀ H:Hp,mks (n+5) 1 1 [.bool false] (.int .i64 l.length) (.int .i64 l.length) H=some (sl (n+5) 0 l.length,H.set (n+5) (some (.row ((List.replicate l.length false).flatMap eBool.cells) 1 true))):=fun H=>mks_new eBool false H (by decide) Om
 refine W1 (Ye hv.len hw.len hm) ?_
 refine Wp.bind (l0143 (n0:=n+1) (id:=n+5) (H0:=H.set n (some (.row [v] 0 true))) (hw.mv Om Mo) Om hr hl _ _ _ Om Mo Po Pa Po Po (Ze _ _ _)) ?_
 rintro⟨oe,ot,oH,on⟩ ⟨f1,f2,rfl,f3,f4,f5⟩
 simp only at f1 f2 f3 f4 f5
 simp only[Zn,Nat.reduceEqDiff,if_false,if_true]at f3
 have hbx:oH n=some (.row [v] 0 true):=by simp(disch:=omega) only[f2,Ze]
 have hlv:=(hv.mv (H':=oH) (Nat.le_refl _) (Mm f2)).len
 have hws:IntKind.i64.wrap ((l.length:Int) - 1)=(l.length:Int) - 1:=Wo Om
 refine W1 (Yv f3 hbx hlv hws) ?_
 refine Wp.bind (l1143 (n0:=n+1) (id:=n+5) (b:=n) (H0:=H.set n (some (.row [v] 0 true))) (hv.mv Om Mo) hp Om Om (Ze _ _ _) (Vw l.length roots) (rRoots_len _ _) _ _ _ Om f2 (Pp f3) (Pp f4) Po f5) ?_
 rintro⟨oe,ot,oH,on⟩ ⟨g1,g2,rfl,g3,g4⟩
 simp only at g1 g2 g3 g4
 refine W0 g3 ?_
 exact Wp.pure ⟨So,(Mm g2),n+5,by omega,So,g3,g4⟩
theorem l0118 {n0 id:Nat}{H0:Hp}{w:Value}{m:Nat}{roots:List Int}(hw:Li eInt n0 H0 w roots)(hid:n0<=id)(hr:∀ r∈roots,0<=r/\r < (m:Int)) (hl:roots.length<=1048576):∀ t H n,id < n->(∀ i,i < n0->H i=H0 i)->t 5=sl id 0 m->t 1=w->t 6=.int .i64 0->H id=some (.row ((List.replicate m false).flatMap eBool.cells) 1 true) ->
  Wp (Zm (S118L0 (Call Tryz.prog) Zm) t H n) (fun o=>n<=o.n/\(∀ i,i < n0->o.H i=H0 i)/\o.e=.exit 0/\o.t 2=t 2/\o.t 5=sl id 0 m/\o.H id=some (.row ((Vw m roots).flatMap eBool.cells) 1 true)):=by
 intro t H n hidn s0 e5 e1 e6 hH
 refine Zt (fun d T H' n'=>∃ j:Nat,j+d=roots.length/\n<=n'/\(∀ i,i < n0->H' i=H0 i)/\T 2=t 2/\T 5=sl id 0 m/\T 1=w/\T 6=.int .i64 j/\H' id=some (.row ((Vw m (roots.take j)).flatMap eBool.cells) 1 true)) _ ?_ roots.length t H n ⟨0,by omega,by omega,s0,rfl,e5,e1,e6,by simpa[Vw]using hH⟩
 rintro d T H' n' ⟨j,hj,hn,s1,e2,e5,e1,e6,hH⟩
 unfold S118L0
 have hlw:=(hw.mv (H':=H') (Nat.le_refl _) s1).len
 by_cases hlt:j < roots.length
 ·have hlti:(j:Int) < roots.length:=by omega
  have hws:=wj (j:=j) (len:=roots.length) hlt Om
  have g:=(hw.mv (Nat.le_refl _) s1).iAll (i:=(j:Int)) Om hlti
  rw[Yq hlt]at g
  have hrj:=hr _ (List.getElem_mem hlt)
  have hix:=idx1 (id:=id) (k:=.i64) hrj.1 hrj.2
  have hst:=st_o hH hrj.1 (by rw[rRoots_len];exact hrj.2) true
  rw[← rRoots_take hlt]at hst
  refine W0 (Yj e5 e1 e6 hlw hlti g hix (Zu hst hws)) ?_
  exact Wp.pure (Nxt.go (d - 1) Om ⟨j+1,by omega,by omega,(Mm s1),Pp e2,Pp e5,Pp e1,Po,Ze _ _ _⟩)
 ·have hlti:¬ (j:Int) < roots.length:=by omega
  refine W0 (Yv e1 e6 hlw hlti) ?_
  rw[List.take_of_length_le Om]at hH
  exact Wp.pure (Nxt.exit ⟨So,s1,rfl,Pp e2,Pp e5,hH⟩)
theorem l1118 {n0 b id:Nat}{H0:Hp}{v:Value}{l:List Nd}(hv:Li eNode n0 H0 v l)(hp:PoolOk l)(hid:n0<=id)(hb0:b < n0)(hb:H0 b=some (.row [v] 0 true)) (out0:List Bool)(ho:out0.length=l.length):∀ t H n,id < n->(∀ i,i < n0->H i=H0 i)->t 2=ptr b 0->t 5=sl id 0 l.length->t 7=.int .i64 ((l.length:Int) - 1)->H id=some (.row (out0.flatMap eBool.cells) 1 true) ->
  Wp (Zm (S118L1 (Call Tryz.prog) Zm) t H n) (fun o=>n<=o.n/\(∀ i,i < n0->o.H i=H0 i)/\o.e=.exit 2/\o.t 5=sl id 0 l.length/\o.H id=some (.row ((rDown l l.length out0).flatMap eBool.cells) 1 true)):=by
 intro t H n hidn s0 e2 e5 e8 hH
 have hl:=hp.2
 refine Zt (fun d T H' n'=>∃ cur:List Bool,d<=l.length/\n<=n'/\(∀ i,i < n0->H' i=H0 i)/\T 2=ptr b 0/\T 5=sl id 0 l.length/\T 7=.int .i64 ((d:Int) - 1)/\cur.length=l.length/\rDown l d cur=rDown l l.length out0/\H' id=some (.row (cur.flatMap eBool.cells) 1 true)) _ ?_ l.length t H n ⟨out0,by omega,by omega,s0,e2,e5,e8,ho,rfl,hH⟩
 rintro d T H' n' ⟨cur,hd,hn,s1,e2,e5,e8,hcl,hcd,hH⟩
 unfold S118L1
 by_cases hlt:0 < d
 ·obtain⟨d,rfl⟩:∃ d',d=d'+1:=⟨d - 1,by omega⟩
  have hd1:(((d+1:Nat):Int) - 1)=(d:Int):=by omega
  have hge:(0:Int)<=(d:Int):=by omega
  have hw:IntKind.i64.wrap ((d:Int) - 1)=(d:Int) - 1:=Wo Om
  rw[hd1]at e8
  have hb':H' b=some (.row [v] 0 true):=by rw[s1 b hb0];exact hb
  have hix:=idx1 (id:=id) (k:=.i64) (m:=l.length) hge Om
  have hfo:=flat_o (l:=cur) hge Om
  have hok:=hp.at (v:=(d:Int)) Om Om
  have g:=(hv.mv (Nat.le_refl _) s1).nAll (i:=(d:Int)) Om Om
  rw[rDown,rStep]at hcd
  generalize hx:gi l (d:Int)=x at *
  by_cases ht:gi cur (d:Int)=true
  ·rw[if_pos ht]at hcd
   have h5:x.k=5->(0<=x.a/\x.a < (cur.length:Int))/\(0<=x.b/\x.b < (cur.length:Int)):=fun h=>by have:=hok.pair h;omega
   have h6:x.k=6∨x.k=7->0<=x.a/\x.a < (cur.length:Int):=fun h=>by have:=hok.one h;omega
   obtain⟨xk,xn,xs,xa,xb⟩:=x
   simp only[Nd.cells]at g h5 h6
   have hH2:(H'.set (n'+7) (some (.row [.int .i64 xk,.int .i64 xn,.string xs,.int .i64 xa,.int .i64 xb] 0 true))) id=some (.row (cur.flatMap eBool.cells) 1 true):=by rw[Zf _ _ Om];exact hH
   by_cases c5:xk=5
   ·have ho5:=h5 c5
    have ia:=idx1 (id:=id) (k:=.i64) (m:=l.length) ho5.1.1 Om
    have ib:=idx1 (id:=id) (k:=.i64) (m:=l.length) ho5.2.1 Om
    have ta:=st_o hH2 ho5.1.1 ho5.1.2 true
    have tb:=st_o (Ze (H'.set (n'+7) (some (.row [.int .i64 xk,.int .i64 xn,.string xs,.int .i64 xa,.int .i64 xb] 0 true))) id (some (.row ((cur.set xa.toNat true).flatMap eBool.cells) 1 true))) ho5.2.1 (by rw[List.length_set];exact ho5.2.2) true
    rw[Hp_set_set]at tb
    subst c5
    refine W1 (Yj e2 e5 e8 hge hix hH hfo (Yj ht hb' g ia ta ib tb hw)) ?_
    refine Wp.pure (Nxt.go d Om ⟨Vy cur ⟨5,xn,xs,xa,xb⟩,by omega,by omega,(Mm s1),Pp e2,Pp e5,Po,by rw[rMark_len];exact hcl,hcd,?_⟩)
    exact Ze _ _ _
   ·by_cases c6:xk=6∨xk=7
    ·have ho6:=h6 c6
     have ia:=idx1 (id:=id) (k:=.i64) (m:=l.length) ho6.1 Om
     have ta:=st_o hH2 ho6.1 ho6.2 true
     have hm:Vy cur ⟨xk,xn,xs,xa,xb⟩=cur.set xa.toNat true:=by unfold Vy;rw[if_neg c5,if_pos c6]
     rw[hm]at hcd
     rcases c6 with c6|c6
     ·subst c6
      refine W1 (Yj e2 e5 e8 hge hix hH hfo (Xq ht hb' g ia ta hw)) ?_
      exact Wp.pure (Nxt.go d Om ⟨cur.set xa.toNat true,by omega,by omega,(Mm s1),Pp e2,Pp e5,Po,by rw[List.length_set];exact hcl,hcd,Ze _ _ _⟩)
     ·subst c6
      refine W1 (Yj e2 e5 e8 hge hix hH hfo (Xq ht hb' g ia ta hw)) ?_
      exact Wp.pure (Nxt.go d Om ⟨cur.set xa.toNat true,by omega,by omega,(Mm s1),Pp e2,Pp e5,Po,by rw[List.length_set];exact hcl,hcd,Ze _ _ _⟩)
    ·have c6':¬ xk=6:=fun h=>c6 (.inl h)
     have c7':¬ xk=7:=fun h=>c6 (.inr h)
     have hm:Vy cur ⟨xk,xn,xs,xa,xb⟩=cur:=by unfold Vy;rw[if_neg c5,if_neg c6]
     rw[hm]at hcd
     refine W1 (Yj e2 e5 e8 hge hix hH hfo (Wt ht hb' g c5 c6' c7' hw)) ?_
     exact Wp.pure (Nxt.go d Om ⟨cur,by omega,by omega,(Mm s1),Pp e2,Pp e5,Po,hcl,hcd,hH2⟩)
  ·have ht':gi cur (d:Int)=false:=by simpa using ht
   rw[if_neg ht]at hcd
   refine W1 (Yj e2 e5 e8 hge hix hH hfo (Xm ht' hb' g hw @Nd.cells.eq_1)) ?_
   exact Wp.pure (Nxt.go d Om ⟨cur,by omega,by omega,(Mm s1),Pp e2,Pp e5,Po,hcl,hcd,by rw[Zf _ _ Om];exact hH⟩)
 ·have hd0:d=0:=by omega
  subst hd0
  refine W0 (Zu e8 ((show¬ (0:Int)<=((0:Nat):Int) - 1 by omega))) ?_
  rw[← hcd]
  exact Wp.pure (Nxt.exit ⟨So,s1,rfl,Pp e5,hH⟩)
theorem k118 {n:Nat}{H:Hp}{v w:Value}{l:List Nd}{roots:List Int}(hv:Li eNode n H v l)(hp:PoolOk l)(hw:Li eInt n H w roots)(hr:∀ r∈roots,0<=r/\r < (l.length:Int)) (hl:roots.length<=1048576):RtN Tryz.prog 118 [.agg ⟨[v]⟩,w] H n (fun r H' n'=>∃ id,n<=id/\id < n'/\r=sl id 0 l.length/\H' id=some (.row ((Xu l roots).flatMap eBool.cells) 1 true)):=by
 apply RtN.mk
 rw[c118];unfold S118
 have hl2:=hp.2
 have hm:∀ H:Hp,mks (n+5) 1 1 [.bool false] (.int .i64 l.length) (.int .i64 l.length) H=some (sl (n+5) 0 l.length,H.set (n+5) (some (.row ((List.replicate l.length false).flatMap eBool.cells) 1 true))):=fun H=>mks_new eBool false H (by decide) Om
 refine W1 (Ye hv.len hw.len hm) ?_
 refine Wp.bind (l0118 (n0:=n+1) (id:=n+5) (H0:=H.set n (some (.row [v] 0 true))) (hw.mv Om Mo) Om hr hl _ _ _ Om Mo Po Pa Po (Ze _ _ _)) ?_
 rintro⟨oe,ot,oH,on⟩ ⟨f1,f2,rfl,f3,f4,f5⟩
 simp only at f1 f2 f3 f4 f5
 simp only[Zn,Nat.reduceEqDiff,if_false,if_true]at f3
 have hbx:oH n=some (.row [v] 0 true):=by simp(disch:=omega) only[f2,Ze]
 have hlv:=(hv.mv (H':=oH) (Nat.le_refl _) (Mm f2)).len
 have hws:IntKind.i64.wrap ((l.length:Int) - 1)=(l.length:Int) - 1:=Wo Om
 refine W1 (Yv f3 hbx hlv hws) ?_
 refine Wp.bind (l1118 (n0:=n+1) (id:=n+5) (b:=n) (H0:=H.set n (some (.row [v] 0 true))) (hv.mv Om Mo) hp Om Om (Ze _ _ _) (Vw l.length roots) (rRoots_len _ _) _ _ _ Om f2 (Pp f3) (Pp f4) Po f5) ?_
 rintro⟨oe,ot,oH,on⟩ ⟨g1,g2,rfl,g3,g4⟩
 simp only at g1 g2 g3 g4
 refine W0 g3 ?_
 exact Wp.pure ⟨So,(Mm g2),n+5,by omega,So,g3,g4⟩
def Xh (out:List Int)(x:Nd):Nd:=if x.k=5 then⟨x.k,x.n,x.s,gi out x.a,gi out x.b⟩else if x.k=6∨x.k=7 then⟨x.k,x.n,x.s,gi out x.a,x.b⟩else x
def nIdx (y:Nd)(ks:List Nd):Option Nat:=ks.findIdx? (fun z=>decide (z=y))
def clOf (ks:List Nd)(y:Nd):Int:=match nIdx y ks with|some k=>(k:Int)|none=>(ks.length:Int)
def clStep (st:List Nd × List Int)(x:Nd):List Nd × List Int:=(st.1++[Xh st.2 x],st.2++[clOf st.1 (Xh st.2 x)])
def clRun (l:List Nd):List Nd × List Int:=l.foldl clStep ([],[])
def Wm (l:List Nd):List Int:=(clRun l).2
theorem clRun_snoc (l:List Nd)(x:Nd):clRun (l++[x])=clStep (clRun l) x:=by simp[clRun,List.foldl_append]
theorem clRun_len (l:List Nd):(clRun l).1.length=l.length/\(clRun l).2.length=l.length:=by
 suffices ∀ (m:List Nd) (st:List Nd × List Int),(m.foldl clStep st).1.length=st.1.length+m.length/\(m.foldl clStep st).2.length=st.2.length+m.length by simpa[clRun]using this l ([],[])
 intro m
 induction m with
 | nil=>intro st;simp
 | cons x m ih=>intro st;rw[List.foldl_cons];have:=ih (clStep st x);simp[clStep]at this ⊢;omega
theorem clRun_take {l:List Nd}{j:Nat}(hj:j < l.length):clRun (l.take (j+1))=clStep (clRun (l.take j)) (gi l (j:Int)):=by
 rw[Wa hj,clRun_snoc,Yq hj]
theorem classes_len (l:List Nd):(Wm l).length=l.length:=(clRun_len l).2
theorem nIdx_snoc (y x:Nd)(ks:List Nd):nIdx y (ks++[x])=(nIdx y ks).or (if x=y then some ks.length else none):=by
 unfold nIdx
 rw[List.findIdx?_append]
 congr 1
 by_cases h:x=y <;> simp[h]
abbrev nfs:List (Nat × TypeDesc):=[(0,(.int .i64)),(1,(.int .i64)),(2,.string),(3,(.int .i64)),(4,(.int .i64))]
theorem node_agg (x y:Nd):aggEq nfs (.agg ⟨x.cells⟩) (.agg ⟨y.cells⟩)=some (decide (x=y)):=by
 have:=node_eql x.k x.n x.s x.a x.b y.k y.n y.s y.a y.b
 have h2:(aggEq nfs (.agg ⟨x.cells⟩) (.agg ⟨y.cells⟩)).bind (fun b=>some (Value.bool b))=some (.bool (decide (x.k=y.k/\x.n=y.n/\x.s=y.s/\x.a=y.a/\x.b=y.b))):=this
 cases h:aggEq nfs (.agg ⟨x.cells⟩) (.agg ⟨y.cells⟩)with
 | none=>rw[h]at h2;cases h2
 | some b=>
  rw[h]at h2
  simp only[Option.bind_some,Option.some.injEq,Value.bool.injEq]at h2
  rw[h2]
  congr 1
  apply decide_eq_decide.2
  constructor
  ·rintro⟨a,b,c,d,e⟩;cases x;cases y;simp_all
  ·rintro rfl;exact⟨rfl,rfl,rfl,rfl,rfl⟩
theorem node_binK (x y:Nd):Zd (.agg nfs) .eql (.agg ⟨x.cells⟩) (.agg ⟨y.cells⟩)=some (.bool (decide (x=y))):=by
 show eqV .eql (aggEq nfs (.agg ⟨x.cells⟩) (.agg ⟨y.cells⟩))=_
 rw[node_agg];rfl
def cFind (y:Nd):List (Nd × Int)->Option Int
 | []=>none
 | (x,i) :: m=>if y=x then some i else cFind y m
def cEnc (m:List (Nd × Int)):List (Value × Value):=m.map fun p=>(.agg ⟨p.1.cells⟩,.int .i64 p.2)
theorem findK_enc (y:Nd):∀ m:List (Nd × Int),findK nfs (.agg ⟨y.cells⟩) (cEnc m)=some ((cFind y m).map (Value.int .i64))
 | []=>rfl
 | (x,i) :: m=>by
  show((aggEq nfs (.agg ⟨y.cells⟩) (.agg ⟨x.cells⟩)).bind fun b=>if b then some (some (.int .i64 i))else findK nfs (.agg ⟨y.cells⟩) (cEnc m))=_
  rw[node_agg,Option.bind_some]
  unfold cFind
  by_cases h:y=x
  ·simp[h]
  ·simp[h,findK_enc y m]
theorem cFind_snoc (y x:Nd)(i:Int):∀ m:List (Nd × Int),cFind y (m++[(x,i)])=(cFind y m).or (if y=x then some i else none)
 | []=>by simp[cFind]
 | (z,k) :: m=>by
  rw[List.cons_append]
  unfold cFind
  by_cases h:y=z
  ·simp[h]
  ·simp[h,cFind_snoc y x i m]
theorem look_enc {H:Hp}{i:Nat}{m:List (Nd × Int)}(y:Nd)(h:H i=some (.map (cEnc m))):lookV nfs (.int .i64 0) true (.map (some i)) (.agg ⟨y.cells⟩) H=some (.tuple ⟨[.int .i64 ((cFind y m).getD 0),.bool (cFind y m).isSome]⟩):=by
 simp only[lookV,h,node_agg,findK_enc,Option.bind_some]
 cases cFind y m <;> rfl
theorem upd_enc {H:Hp}{i:Nat}{m:List (Nd × Int)}(y:Nd)(k:Int)(h:H i=some (.map (cEnc m))) (hn:cFind y m=none):updV nfs (.map (some i)) (.agg ⟨y.cells⟩) (.int .i64 k) H=some (H.set i (some (.map (cEnc (m++[(y,k)]))))):=by
 simp only[updV,h,node_agg,findK_enc,Option.bind_some,hn]
 simp[aggV,isCell,cEnc]
def First (m:List (Nd × Int)) (ks:List Nd):Prop:=∀ y,cFind y m=(nIdx y ks).map (fun k=>(k:Int))
theorem First.none {m:List (Nd × Int)}{ks:List Nd}(h:First m ks){y:Nd}(hn:cFind y m=none):First (m++[(y,(ks.length:Int))]) (ks++[y])/\clOf ks y=ks.length:=by
 have h1:=h y
 rw[hn]at h1
 have h2:nIdx y ks=Option.none:=by
  cases h3:nIdx y ks with
  | none=>rfl
  | some q=>rw[h3]at h1;cases h1
 refine⟨fun z=>?_,by unfold clOf;rw[h2]⟩
 rw[cFind_snoc,nIdx_snoc,h z]
 by_cases hz:z=y
 ·subst hz;simp[h2]
 ·rw[if_neg hz,if_neg (Ne.symm hz)];simp
theorem First.some {m:List (Nd × Int)}{ks:List Nd}(h:First m ks){y:Nd}{k:Int}(hs:cFind y m=some k):First m (ks++[y])/\clOf ks y=k:=by
 have h1:=h y
 rw[hs]at h1
 cases h3:nIdx y ks with
 | none=>rw[h3]at h1;cases h1
 | some q=>
  rw[h3]at h1
  refine⟨fun z=>?_,by unfold clOf;rw[h3];simpa using h1.symm⟩
  rw[nIdx_snoc,h z]
  by_cases hz:z=y
  ·subst hz;simp[h3]
  ·rw[if_neg (Ne.symm hz)];simp
theorem flat_i {l:List Int}{i:Int}(h0:0<=i)(h1:i < l.length):(l.flatMap eInt.cells)[i.toNat]?=some (.int .i64 (gi l i)):=by
 have:=flat_cell eInt (l:=l) (j:=i.toNat) (f:=0) Om (by decide)
 rw[Nat.mul_one,Nat.add_zero]at this
 rw[this,gi_at h0 h1];rfl
theorem l170 {n0 mid id0:Nat}{H0:Hp}{v:Value}{l:List Nd}(hv:Li eNode n0 H0 v l)(hp:PoolOk l):∀ t H n,n0<=n->(∀ i,i < n0->H i=H0 i)->n0<=mid->mid < n->n0<=id0->id0 < n->mid≠id0->t 3=.map (some mid)->t 12=v->t 13=.int .i64 l.length->t 14=.int .i64 0->t 4=sl id0 0 0->H id0=some (.row [] 1 true)->H mid=some (.map []) ->
  Wp (Zm (S170L0 (Call Tryz.prog) Zm) t H n) (fun o=>n<=o.n/\(∀ i,i < n0->o.H i=H0 i)/\o.e=.exit 0/\∃ id,n0<=id/\id < o.n/\o.t 4=sl id 0 (Wm l).length/\o.H id=some (.row ((Wm l).flatMap eInt.cells) 1 true)):=by
 intro t H n hn0 s0 hm1 hm2 hi1 hi2 hmi e3 e12 e13 e14 e4 hid hmid
 have hl:=hp.2
 refine Zt (fun d T H' n'=>∃ (j id:Nat) (m:List (Nd × Int)),j+d=l.length/\n<=n'/\(∀ i,i < n0->H' i=H0 i)/\T 3=.map (some mid)/\T 12=v/\T 13=.int .i64 l.length/\T 14=.int .i64 j/\n0<=id/\id < n'/\mid≠id/\T 4=sl id 0 (clRun (l.take j)).2.length/\H' id=some (.row ((clRun (l.take j)).2.flatMap eInt.cells) 1 true)/\H' mid=some (.map (cEnc m))/\First m (clRun (l.take j)).1) _ ?_ l.length t H n ⟨0,id0,[],by omega,by omega,s0,e3,e12,e13,e14,hi1,hi2,hmi,e4,hid,hmid,fun y=>rfl⟩
 rintro d T H' n' ⟨j,id,m,hj,hn,s1,e3,e12,e13,e14,hi1,hi2,hmi,e4,hid,hmid,hfst⟩
 unfold S170L0
 by_cases hlt:(j:Int) < l.length
 ·have hlt':j < l.length:=by omega
  have g:=(hv.mv (Nat.le_refl _) s1).nAll Om hlt
  have hw:=wj (j:=j) (len:=l.length) hlt' Om
  have hok:=hp.at (v:=(j:Int)) Om hlt
  have hst:=clRun_take hlt'
  obtain⟨hlen1,hlen2⟩:=clRun_len (l.take j)
  rw[List.length_take,Nat.min_eq_left Om]at hlen1 hlen2
  generalize hA:clRun (l.take j)=A at *
  generalize hx:gi l (j:Int)=x at *
  have h5:x.k=5->(0<=x.a/\x.a < (A.2.length:Int))/\(0<=x.b/\x.b < (A.2.length:Int)):=fun h=>by have:=hok.pair h;omega
  have h6:x.k=6∨x.k=7->0<=x.a/\x.a < (A.2.length:Int):=fun h=>by have:=hok.one h;omega
  obtain⟨xk,xn,xs,xa,xb⟩:=x
  simp only[Nd.cells]at g h5 h6
  refine V1 (Wt e3 e4 e12 e13 e14 hlt g) ?_
  refine Wp.bind (R:=fun(o:Out)=>o.e=.normal/\n'+4 < o.n/\(∀ i,i < n'+4->o.H i=H' i)/\o.t 3=.map (some mid)/\o.t 12=v/\o.t 13=.int .i64 l.length/\o.t 14=.int .i64 j/\o.t 4=sl id 0 A.2.length/\o.t 5=.int .i64 j/\o.t 6=ptr (n'+4) 0/\o.H (n'+4)=some (.row (Xh A.2 ⟨xk,xn,xs,xa,xb⟩).cells 0 true)) ?_ ?_
  ·by_cases c5:xk=5
   ·have ho:=h5 c5
    have ia:=idx_sli (sz:=1) (id:=id) (k:=.i64) ho.1.1 ho.1.2
    have ib:=idx_sli (sz:=1) (id:=id) (k:=.i64) ho.2.1 ho.2.2
    have fa:=flat_i (l:=A.2) ho.1.1 ho.1.2
    have fb:=flat_i (l:=A.2) ho.2.1 ho.2.2
    rw[Nat.mul_one]at ia ib
    subst c5
    refine V1 (Yj e3 e4 e12 e13 e14 ia ib (Ye hid fa fb)) ?_
    exact Wp.pure ⟨rfl,So,Mo,Pp e3,Pp e12,Pp e13,Pp e14,Pp e4,Pp e14,Po,by simp only[Ze,Xh,Nd.cells,if_true]⟩
   ·by_cases c6:xk=6∨xk=7
    ·have ho:=h6 c6
     have ia:=idx_sli (sz:=1) (id:=id) (k:=.i64) ho.1 ho.2
     have fa:=flat_i (l:=A.2) ho.1 ho.2
     rw[Nat.mul_one]at ia
     rcases c6 with c6|c6
     ·subst c6
      refine V1 (Yj e3 e4 e12 e13 e14 ia hid fa) ?_
      exact Wp.pure ⟨rfl,So,Mo,Pp e3,Pp e12,Pp e13,Pp e14,Pp e4,Pp e14,Po,by simp only[Ze,Xh,Nd.cells];simp⟩
     ·subst c6
      refine V1 (Yj e3 e4 e12 e13 e14 ia hid fa) ?_
      exact Wp.pure ⟨rfl,So,Mo,Pp e3,Pp e12,Pp e13,Pp e14,Pp e4,Pp e14,Po,by simp only[Ze,Xh,Nd.cells];simp⟩
    ·have c6':¬ xk=6:=fun h=>c6 (.inl h)
     have c7':¬ xk=7:=fun h=>c6 (.inr h)
     refine V1 (Yj e3 e4 e12 e13 e14 c5 c6' c7') ?_
     exact Wp.pure ⟨rfl,So,Mo,Pp e3,Pp e12,Pp e13,Pp e14,Pp e4,Pp e14,Po,by simp only[Ze,Xh,Nd.cells,c5,c6',c7',or_self,if_false]⟩
  ·rintro⟨oe,ot,oH,on⟩ ⟨rfl,f2,f3,f4,f5,f6,f7,f8,f9,f10,f11⟩
   simp only at f2 f3 f4 f5 f6 f7 f8 f9 f10 f11
   generalize hy:Xh A.2 ⟨xk,xn,xs,xa,xb⟩=y at *
   have hmid':oH mid=some (.map (cEnc m)):=by rw[f3 mid Om];exact hmid
   have hid':oH id=some (.row (A.2.flatMap eInt.cells) 1 true):=by rw[f3 id Om];exact hid
   have hlk:=look_enc y hmid'
   have hldA:ld true 5 (ptr (n'+4) 0) oH=some (.agg ⟨y.cells⟩):=by rw[ldA_box f11];rfl
   have fin:∀ (TT:Tm) (H3:Hp) (M id':Nat) (m':List (Nd × Int)),n'<=M->(∀ i,i < n0->H3 i=H0 i)->TT 3=.map (some mid)->TT 12=v->TT 13=.int .i64 l.length->TT 14=.int .i64 ((j+1:Nat):Int)->n0<=id'->id' < M->mid≠id'->TT 4=sl id' 0 (A.2++[clOf A.1 y]).length->H3 id'=some (.row ((A.2++[clOf A.1 y]).flatMap eInt.cells) 1 true)->H3 mid=some (.map (cEnc m'))->First m' (A.1++[y]) ->
     Wp (some ⟨.normal,TT,H3,M⟩) (Nxt (fun d T H' n'=>∃ (j id:Nat) (m:List (Nd × Int)),j+d=l.length/\n<=n'/\(∀ i,i < n0->H' i=H0 i)/\T 3=.map (some mid)/\T 12=v/\T 13=.int .i64 l.length/\T 14=.int .i64 j/\n0<=id/\id < n'/\mid≠id/\T 4=sl id 0 (clRun (l.take j)).2.length/\H' id=some (.row ((clRun (l.take j)).2.flatMap eInt.cells) 1 true)/\H' mid=some (.map (cEnc m))/\First m (clRun (l.take j)).1) d (fun o=>n<=o.n/\(∀ i,i < n0->o.H i=H0 i)/\o.e=.exit 0/\∃ id,n0<=id/\id < o.n/\o.t 4=sl id 0 (Wm l).length/\o.H id=some (.row ((Wm l).flatMap eInt.cells) 1 true))):=by
    intro TT H3 M id' m' g1 g2 g3 g4 g5 g6 g7 g8 g9 g10 g11 g12 g13
    refine Wp.pure (Nxt.go (d - 1) Om ⟨j+1,id',m',by omega,by omega,g2,g3,g4,g5,g6,g7,g8,g9,?_,?_,g12,?_⟩)
    ·rw[hst,← hA,clStep,hA,hy];exact g10
    ·rw[hst,← hA,clStep,hA,hy];exact g11
    ·rw[hst,← hA,clStep,hA,hy];exact g13
   cases hc:cFind y m with
   | none=>
    obtain⟨q1,q2⟩:=hfst.none hc
    have hup:=upd_enc y j hmid' hc
    rw[hc]at hlk
    have hidu:(oH.set mid (some (.map (cEnc (m++[(y,(j:Int))]))))) id=some (.row (A.2.flatMap eInt.cells) 1 true):=by rw[Zf _ _ (Ne.symm hmi)];exact hid'
    refine V1 (Yj f4 f5 f6 f7 f8 f9 f10 (Xq hldA hlk @Option.getD_none.{0} @Option.isSome_none.{0} hup @bsl_i)) ?_
    refine Ub (E:=eInt) (j:Int) (.inr ⟨Pp f8,hidu⟩) Om (by decide) Om ?_
    intro H4 r1 r2
    refine V0 (Zu f7 hw) ?_
    rw[hlen1]at q1 q2
    rw[← q2]at r1
    refine fin _ _ _ _ (m++[(y,(j:Int))]) ?_ ?_ ?_ ?_ ?_ ?_ ?_ ?_ ?_ ?_ r1 ?_ q1
    ·omega
    ·intro i hi;simp(disch:=omega) only[r2,Zf,f3,s1]
    ·simp[Zn,f4]
    ·simp[Zn,f5]
    ·simp[Zn,f6]
    ·simp[Zn]
    ·omega
    ·omega
    ·omega
    ·simp[Zn]
    ·simp(disch:=omega) only[r2,Zf,Ze]
   | some k=>
    obtain⟨q1,q2⟩:=hfst.some hc
    rw[hc]at hlk
    refine V1 (Yj f4 f5 f6 f7 f8 f9 f10 (Xm hldA hlk @Option.getD_some.{0} @Option.isSome_some.{0} @bsl_i)) ?_
    refine Ub (E:=eInt) k (.inr ⟨Pp f8,hid'⟩) Om (by decide) Om ?_
    intro H4 r1 r2
    refine V0 (Zu f7 hw) ?_
    rw[← q2]at r1
    refine fin _ _ _ _ m ?_ ?_ ?_ ?_ ?_ ?_ ?_ ?_ ?_ ?_ r1 ?_ q1
    ·omega
    ·intro i hi;simp(disch:=omega) only[r2,f3,s1]
    ·simp[Zn,f4]
    ·simp[Zn,f5]
    ·simp[Zn,f6]
    ·simp[Zn]
    ·omega
    ·omega
    ·omega
    ·simp[Zn]
    ·rw[r2 mid Om Om Om];exact hmid'
 ·refine V0 (Yv e12 e13 e14 hlt) ?_
  rw[List.take_of_length_le Om]at e4 hid
  exact Wp.pure (Nxt.exit ⟨Nat.le_trans hn (Nat.le_add_right _ _),s1,rfl,id,hi1,So,by simp[Zn,e4,Wm],hid⟩)
theorem k170 {n:Nat}{H:Hp}{v:Value}{l:List Nd}(hv:Li eNode n H v l)(hp:PoolOk l):RtN Tryz.prog 170 [.agg ⟨[v]⟩] H n (fun r H' n'=>New eInt n n' H' r (Wm l)):=by
 apply RtN.mk
 rw[c170];unfold S170
 refine V1 (Zu @Wz hv.len) ?_
 refine Wp.bind (l170 (n0:=n) (H0:=H) (mid:=n+2) (id0:=n+4) hv hp _ _ _ Om Mo Om Om Om Om Om Po Po Po Po Po Mo Mo) ?_
 rintro⟨oe,ot,oH,on⟩ ⟨f1,f2,rfl,id,f3,f4,f5,f6⟩
 simp only at f1 f2 f3 f4 f5 f6
 refine V0 f5 ?_
 exact Wp.pure ⟨So,f2,id,f3,So,.inr ⟨f5,f6⟩⟩
theorem nIdx_first {y:Nd}{ks:List Nd}{k:Nat}(hk:k < ks.length)(he:ks[k]=y)(hn:∀ q (hq:q < ks.length),q < k->ks[q]≠y):nIdx y ks=some k:=by
 refine List.findIdx?_eq_some_iff_getElem.2 ⟨hk,by simpa using he,fun q hq=>by simpa using hn q Om hq⟩
theorem nIdx_none {y:Nd}{ks:List Nd}(hn:∀ q (hq:q < ks.length),ks[q]≠y):nIdx y ks=none:=by
 refine List.findIdx?_eq_none_iff.2 fun x hx=>?_
 obtain⟨q,hq,rfl⟩:=List.mem_iff_getElem.1 hx
 simpa using hn q hq
theorem bsl_z5c (id:Nat)(H:Hp):Xx id 5 0 [.int .i64 0,.int .i64 0,.string ⟨#[]⟩,.int .i64 0,.int .i64 0] [] H=some (sl id 0 0,H.set id (some (.row [] 5 true))):=bsl_zn _ _ _ _ rfl
theorem l1162 {b c:Nat}{H:Hp}{v:Value}{ks:List Nd}{y:Nd}(hv:Li eNode b H v ks)(hc:H c=some (.row y.cells 0 true)) (hl:ks.length<=1000000):∀ t n,t 4=v->t 5=.int .i64 ks.length->t 6=ptr c 0->t 7=.int .i64 ks.length->t 8=.int .i64 0 ->
  Wp (Zm (S162L1 (Call Tryz.prog) Zm) t H n) (fun o=>n<=o.n/\o.H=H/\o.e=.exit 3/\o.t 7=.int .i64 (clOf ks y)/\o.t 1=t 1/\o.t 3=t 3/\o.t 4=t 4/\o.t 5=t 5/\o.t 6=t 6):=by
 intro t n e4 e5 e6 e7 e8
 refine Zt (fun d T H' n'=>∃ k:Nat,k+d=ks.length/\n<=n'/\H'=H/\T 7=.int .i64 ks.length/\T 8=.int .i64 k/\(∀ q (hq:q < ks.length),q < k->ks[q]≠y)/\T 1=t 1/\T 3=t 3/\T 4=t 4/\T 5=t 5/\T 6=t 6) _ ?_ ks.length t H n ⟨0,by omega,by omega,rfl,e7,e8,by omega,rfl,rfl,rfl,rfl,rfl⟩
 rintro d T H' n' ⟨k,hk,hn,rfl,f7,f8,hno,f1,f3,f4,f5,f6⟩
 unfold S162L1
 by_cases hlt:(k:Int) < ks.length
 ·have hlt':k < ks.length:=by omega
  have g:=hv.nAll Om hlt
  have hw:=wj (j:=k) (len:=ks.length) hlt' Om
  have hld:ld true 5 (ptr c 0) H'=some (.agg ⟨y.cells⟩):=by rw[ldA_box hc];rfl
  by_cases he:gi ks (k:Int)=y
  ·refine V0 (Yj f4 f5 f6 f7 f8 e4 e5 (Xq e6 hlt g hld @node_binK he)) ?_
   rw[Yq hlt']at he
   refine Wp.pure (Nxt.exit ⟨So,rfl,rfl,?_,Pp f1,Pp f3,Pp f4,Pp f5,Pp f6⟩)
   simp[Zn,f8,clOf,nIdx_first hlt' he hno]
  ·refine V0 (Yj f4 f5 f6 f7 f8 e4 e5 (Wt e6 hlt g hld @node_binK he hw)) ?_
   rw[Yq hlt']at he
   refine Wp.pure (Nxt.go (d - 1) Om ⟨k+1,by omega,by omega,rfl,Pp f7,Po,?_,Pp f1,Pp f3,Pp f4,Pp f5,Pp f6⟩)
   intro q hq hqk
   by_cases hqe:q=k
   ·subst hqe;exact he
   ·exact hno q hq Om
 ·refine V0 (Yv f5 f8 e5 hlt) ?_
  refine Wp.pure (Nxt.exit ⟨So,rfl,rfl,?_,Pp f1,Pp f3,Pp f4,Pp f5,Pp f6⟩)
  simp[Zn,f7,clOf,nIdx_none (fun q hq=>hno q hq Om)]
theorem l162 {n0 b ik0 io0:Nat}{H0:Hp}{v:Value}{l:List Nd}(hv:Li eNode n0 H0 v l)(hp:PoolOk l)(hb0:b < n0)(hb:H0 b=some (.row [v] 0 true)):∀ t H n,n0<=n->(∀ i,i < n0->H i=H0 i)->n0<=ik0->ik0 < n->n0<=io0->io0 < n->ik0≠io0->t 1=ptr b 0->t 5=.int .i64 0->t 3=sl io0 0 0->t 4=sl ik0 0 0->H io0=some (.row [] 1 true)->H ik0=some (.row [] 5 true) ->
  Wp (Zm (S162L0 (Call Tryz.prog) Zm) t H n) (fun o=>n<=o.n/\(∀ i,i < n0->o.H i=H0 i)/\o.e=.exit 0/\∃ id,n0<=id/\id < o.n/\o.t 3=sl id 0 (Wm l).length/\o.H id=some (.row ((Wm l).flatMap eInt.cells) 1 true)):=by
 intro t H n hn0 s0 hm1 hm2 hi1 hi2 hmi e1 e5 e3 e4 hio hik
 have hl:=hp.2
 refine Zt (fun d T H' n'=>∃ (j io ik:Nat),j+d=l.length/\n<=n'/\(∀ i,i < n0->H' i=H0 i)/\T 1=ptr b 0/\T 5=.int .i64 j/\n0<=io/\io < n'/\n0<=ik/\ik < n'/\ik≠io/\T 3=sl io 0 (clRun (l.take j)).2.length/\T 4=sl ik 0 (clRun (l.take j)).1.length/\H' io=some (.row ((clRun (l.take j)).2.flatMap eInt.cells) 1 true)/\H' ik=some (.row ((clRun (l.take j)).1.flatMap eNode.cells) 5 true)) _ ?_ l.length t H n ⟨0,io0,ik0,by omega,by omega,s0,e1,e5,hi1,hi2,hm1,hm2,hmi,e3,e4,hio,hik⟩
 rintro d T H' n' ⟨j,io,ik,hj,hn,s1,e1,e5,hi1,hi2,hm1,hm2,hmi,e3,e4,hio,hik⟩
 unfold S162L0
 have hb':H' b=some (.row [v] 0 true):=by rw[s1 b hb0];exact hb
 by_cases hlt:(j:Int) < l.length
 ·have hlt':j < l.length:=by omega
  have g:=(hv.mv (Nat.le_refl _) s1).nAll Om hlt
  have hw:=wj (j:=j) (len:=l.length) hlt' Om
  have hok:=hp.at (v:=(j:Int)) Om hlt
  have hst:=clRun_take hlt'
  obtain⟨hlen1,hlen2⟩:=clRun_len (l.take j)
  rw[List.length_take,Nat.min_eq_left Om]at hlen1 hlen2
  generalize hA:clRun (l.take j)=A at *
  generalize hx:gi l (j:Int)=x at *
  have h5:x.k=5->(0<=x.a/\x.a < (A.2.length:Int))/\(0<=x.b/\x.b < (A.2.length:Int)):=fun h=>by have:=hok.pair h;omega
  have h6:x.k=6∨x.k=7->0<=x.a/\x.a < (A.2.length:Int):=fun h=>by have:=hok.one h;omega
  obtain⟨xk,xn,xs,xa,xb⟩:=x
  simp only[Nd.cells]at g h5 h6
  refine V1 (Yj e1 e3 e4 e5 hb' hlt ((hv.mv (Nat.le_refl _) s1).len) g) ?_
  refine Wp.bind (R:=fun(o:Out)=>o.e=.normal/\n'+10 < o.n/\(∀ i,i < n'+10->o.H i=H' i)/\o.t 1=ptr b 0/\o.t 5=.int .i64 j/\o.t 3=sl io 0 A.2.length/\o.t 4=sl ik 0 A.1.length/\o.t 6=ptr (n'+10) 0/\o.H (n'+10)=some (.row (Xh A.2 ⟨xk,xn,xs,xa,xb⟩).cells 0 true)) ?_ ?_
  ·by_cases c5:xk=5
   ·have ho:=h5 c5
    have ia:=idx_sli (sz:=1) (id:=io) (k:=.i64) ho.1.1 ho.1.2
    have ib:=idx_sli (sz:=1) (id:=io) (k:=.i64) ho.2.1 ho.2.2
    have fa:=flat_i (l:=A.2) ho.1.1 ho.1.2
    have fb:=flat_i (l:=A.2) ho.2.1 ho.2.2
    rw[Nat.mul_one]at ia ib
    subst c5
    refine V1 (Yj e1 e3 e4 e5 ia ib hio (Zu fa fb)) ?_
    exact Wp.pure ⟨rfl,So,Mo,Pp e1,Pp e5,Pp e3,Pp e4,Po,by simp only[Ze,Xh,Nd.cells,if_true]⟩
   ·by_cases c6:xk=6∨xk=7
    ·have ho:=h6 c6
     have ia:=idx_sli (sz:=1) (id:=io) (k:=.i64) ho.1 ho.2
     have fa:=flat_i (l:=A.2) ho.1 ho.2
     rw[Nat.mul_one]at ia
     rcases c6 with c6|c6
     ·subst c6
      refine V1 (Wt e1 e3 e4 e5 ia hio fa) ?_
      exact Wp.pure ⟨rfl,So,Mo,Pp e1,Pp e5,Pp e3,Pp e4,Po,by simp only[Ze,Xh,Nd.cells];simp⟩
     ·subst c6
      refine V1 (Wt e1 e3 e4 e5 ia hio fa) ?_
      exact Wp.pure ⟨rfl,So,Mo,Pp e1,Pp e5,Pp e3,Pp e4,Po,by simp only[Ze,Xh,Nd.cells];simp⟩
    ·have c6':¬ xk=6:=fun h=>c6 (.inl h)
     have c7':¬ xk=7:=fun h=>c6 (.inr h)
     refine V1 (Wt e1 e3 e4 e5 c5 c6' c7') ?_
     exact Wp.pure ⟨rfl,So,Mo,Pp e1,Pp e5,Pp e3,Pp e4,Po,by simp only[Ze,Xh,Nd.cells,c5,c6',c7',or_self,if_false]⟩
  ·rintro⟨oe,ot,oH,on⟩ ⟨rfl,f2,f3,f4,f5,f6,f7,f8,f9⟩
   simp only at f2 f3 f4 f5 f6 f7 f8 f9
   generalize hy:Xh A.2 ⟨xk,xn,xs,xa,xb⟩=y at *
   have hio':oH io=some (.row (A.2.flatMap eInt.cells) 1 true):=by rw[f3 io Om];exact hio
   have hik':oH ik=some (.row (A.1.flatMap eNode.cells) 5 true):=by rw[f3 ik Om];exact hik
   have hak:At eNode ik oH (sl ik 0 A.1.length) A.1:=.inr ⟨rfl,hik'⟩
   refine Wp.bind (l1162 (b:=n') (hak.lst hm2) f9 Om _ _ (Pp f7) (by simp[Zn,f5,hlen1]) (Pp f8) (by simp[Zn,f5,hlen1]) Po) ?_
   rintro⟨pe,pt,pH,pn⟩ ⟨g1,rfl,rfl,g4,g5,g6,g7,g8,g9⟩
   simp only at f3 g1 g4 g5 g6 g7 g8 g9
   simp only[Zn,Nat.reduceEqDiff,if_false,f4,f5,f6,f7,f8]at g5 g6 g7 g8 g9
   have hldA:ld true 5 (ptr (n'+10) 0) pH=some (.agg ⟨y.cells⟩):=by rw[ldA_box f9];rfl
   refine V0 (Yj g4 g5 g6 g7 g8 g9 hldA @bsl_nc) ?_
   refine Ub (E:=eNode) y (.inr ⟨g7,hik'⟩) Om (by decide) Om ?_
   intro H4 r1 r2
   refine V0 (Wt g4 g5 g6 g7 g8 g9 @bsl_i) ?_
   refine Ub (E:=eInt) (clOf A.1 y) (l:=A.2) (id:=io) (.inr ⟨g6,?_⟩) Om (by decide) Om ?_
   ·rw[r2 io Om Om Om];exact hio'
   intro H5 r3 r4
   refine V0 (Zu g8 hw) ?_
   refine Wp.pure (Nxt.go (d - 1) Om ⟨j+1,pn+8,pn+3,by omega,by omega,?_,Pp g5,Po,by omega,by omega,by omega,by omega,by omega,?_,?_,?_,?_⟩)
   ·intro i hi;simp(disch:=omega) only[r4,r2,f3,s1]
   ·rw[hst,← hA,clStep,hA,hy];simp[Zn]
   ·rw[hst,← hA,clStep,hA,hy];simp[Zn]
   ·rw[hst,← hA,clStep,hA,hy];exact r3
   ·rw[hst,← hA,clStep,hA,hy,r4 _ Om Om Om];exact r1
 ·refine V1 (Xm e1 e5 hb' ((hv.mv (Nat.le_refl _) s1).len) hlt) ?_
  rw[List.take_of_length_le Om]at e3 hio
  exact Wp.pure (Nxt.exit ⟨Nat.le_trans hn (Nat.le_add_right _ _),s1,rfl,io,hi1,So,by simp[Zn,e3,Wm],hio⟩)
theorem k162 {n:Nat}{H:Hp}{v:Value}{l:List Nd}(hv:Li eNode n H v l)(hp:PoolOk l):RtN Tryz.prog 162 [.agg ⟨[v]⟩] H n (fun r H' n'=>New eInt n n' H' r (Wm l)):=by
 apply RtN.mk
 rw[c162];unfold S162
 refine V1 (Zu @Wz @bsl_z5c) ?_
 refine Wp.bind (l162 (n0:=n+1) (b:=n) (H0:=H.set n (some (.row [v] 0 true))) (io0:=n+2) (ik0:=n+4) (hv.mv Om Mo) hp Om (Ze _ _ _) _ _ _ Om Mo Om Om Om Om Om Po Po Po Po Mo Mo) ?_
 rintro⟨oe,ot,oH,on⟩ ⟨f1,f2,rfl,id,f3,f4,f5,f6⟩
 simp only at f1 f2 f3 f4 f5 f6
 refine V0 f5 ?_
 exact Wp.pure ⟨So,(Mm f2),id,by omega,So,.inr ⟨f5,f6⟩⟩
def sameAns (l:List Nd)(a b:Int):Bool:=decide (PoolOk l/\(0<=a/\a < l.length)/\(0<=b/\b < l.length)/\gi (Wm l) a=gi (Wm l) b)
theorem k164 {n:Nat}{H:Hp}{v:Value}{l:List Nd}(hv:Li eNode n H v l)(hs:∀ x∈l,x.s.size<=1048576)(hl:l.length<=1048576)(a b:Int):Rt Tryz.prog 164 [.agg ⟨[v]⟩,.int .i64 a,.int .i64 b] H n (.bool (sameAns l a b)):=by
 apply Rt.mk
 rw[c164];unfold S164 sameAns
 refine V1 trivial ?_
 refine Zv (k40 (hv.mv Om Mo) hs hl) ?_
 intro H1 n1 q1 s1
 by_cases hp:PoolOk l
 ·refine V1 (Zu hp s1) ?_
  refine Zv (k41 (hv.mv Om (Mm s1)) hl a) ?_
  intro H2 n2 q2 s2
  by_cases ha:0<=a/\a < (l.length:Int)
  ·refine V1 (Xm hp ha.1 ha.2 s1 s2) ?_
   refine Zv (k41 (hv.mv Om (Mm (Zu s1 s2))) hl b) ?_
   intro H3 n3 q3 s3
   by_cases hb:0<=b/\b < (l.length:Int)
   ·refine V1 (Xq hp hb.1 hb.2 s1 s2 s3) ?_
    refine Ya (k170 (hv.mv Om (Mm (Ye s1 s2 s3))) hp) ?_
    rintro u H4 n4 q4 s4 hu
    have ga:=hu.lst.iAll ha.1 (by rw[classes_len];exact ha.2)
    have gb:=hu.lst.iAll hb.1 (by rw[classes_len];exact hb.2)
    refine V0 (Zu ga gb) ?_
    exact Wp.pure ⟨So,(Mm (Yv s1 s2 s3 s4)),by simp only[hp,ha,hb,and_self,true_and]⟩
   ·refine V1 (Xm hp hb s1 s2 s3) ?_
    exact Wp.pure ⟨So,(Mm (Ye s1 s2 s3)),by simp only[hb,false_and,and_false,decide_false]⟩
  ·refine V1 (Yv hp ha s1 s2) ?_
   exact Wp.pure ⟨So,(Mm (Zu s1 s2)),by simp only[ha,false_and,and_false,decide_false]⟩
 ·refine V1 (Zu hp s1) ?_
  exact Wp.pure ⟨So,(Mm s1),by simp only[hp,false_and,decide_false]⟩
theorem gi_set {α:Type} [Inhabited α] {l:List α}{i j:Int}(hi0:0<=i)(hj0:0<=j)(hj1:j < l.length)(x:α):gi (l.set j.toNat x) i=if i=j then x else gi l i:=by
 unfold gi
 rw[List.getD_eq_getElem?_getD,List.getD_eq_getElem?_getD,List.getElem?_set]
 by_cases h:i=j
 ·subst h
  rw[if_pos rfl,if_pos rfl,if_pos Om];rfl
 ·rw[if_neg Om,if_neg h]
def HasAll (out:List Bool)(x:Nd):Prop:=(x.k=5->gi out x.a=true/\gi out x.b=true)/\(x.k=6∨x.k=7->gi out x.a=true)
theorem HasAll.mono {out out':List Bool}{x:Nd}(h:HasAll out x)(hm:∀ i,gi out i=true->gi out' i=true):HasAll out' x:=⟨fun h5=>⟨hm _ (h.1 h5).1,hm _ (h.1 h5).2⟩,fun h6=>hm _ (h.2 h6)⟩
theorem gi_neg {α:Type} [Inhabited α] (l:List α){i:Int}(h:i < 0):gi l i=gi l 0:=by unfold gi;rw[show i.toNat=0 by omega];rfl
theorem set_mono {out:List Bool}{a:Int}(h0:0<=a)(h1:a < out.length):∀ i,gi out i=true->gi (out.set a.toNat true) i=true:=by
 intro i hi
 by_cases hn:i < 0
 ·rw[gi_neg _ hn]at hi ⊢
  rw[gi_set Om h0 h1]
  split
  ·rfl
  ·exact hi
 ·rw[gi_set Om h0 h1]
  split
  ·rfl
  ·exact hi
theorem rMark_ok {out:List Bool}{x:Nd}{i:Nat}(hx:NodeOk x i)(hi:i<=out.length):HasAll (Vy out x) x/\(∀ j,gi out j=true->gi (Vy out x) j=true)/\(∀ j:Int,(i:Int)<=j->gi (Vy out x) j=gi out j):=by
 by_cases c5:x.k=5
 ·have hp:=hx.pair c5
  have e:Vy out x=(out.set x.a.toNat true).set x.b.toNat true:=by unfold Vy;rw[if_pos c5]
  have l1:x.a < (out.length:Int):=by omega
  have l2:x.b < ((out.set x.a.toNat true).length:Int):=by rw[List.length_set];omega
  rw[e]
  refine⟨⟨fun _=>⟨?_,?_⟩,fun h=>by omega⟩,fun j hj=>set_mono hp.2.1 l2 _ (set_mono hp.1.1 l1 _ hj),fun j hj=>?_⟩
  ·exact set_mono hp.2.1 l2 _ (by rw[gi_set hp.1.1 hp.1.1 l1,if_pos rfl])
  ·rw[gi_set hp.2.1 hp.2.1 l2,if_pos rfl]
  ·rw[gi_set Om hp.2.1 l2,if_neg Om,gi_set Om hp.1.1 l1,if_neg Om]
 ·by_cases c6:x.k=6∨x.k=7
  ·have hp:=hx.one c6
   have e:Vy out x=out.set x.a.toNat true:=by unfold Vy;rw[if_neg c5,if_pos c6]
   have l1:x.a < (out.length:Int):=by omega
   rw[e]
   refine⟨⟨fun h=>absurd h c5,fun _=>by rw[gi_set hp.1 hp.1 l1,if_pos rfl]⟩,fun j hj=>set_mono hp.1 l1 _ hj,fun j hj=>?_⟩
   rw[gi_set Om hp.1 l1,if_neg Om]
  ·have e:Vy out x=out:=by unfold Vy;rw[if_neg c5,if_neg c6]
   rw[e]
   exact⟨⟨fun h=>absurd h c5,fun h=>absurd h c6⟩,fun _ h=>h,fun _ _=>rfl⟩
theorem rDown_closed {l:List Nd}(hp:PoolOk l):∀ (i:Nat)(out:List Bool),i<=l.length->out.length=l.length->(∀ j:Nat,i<=j->j < l.length->gi out (j:Int)=true->HasAll out (gi l (j:Int)))->(∀ j:Nat,j < l.length->gi (rDown l i out) (j:Int)=true->HasAll (rDown l i out) (gi l (j:Int)))/\∀ j,gi out j=true->gi (rDown l i out) j=true
 | 0,out,_,_,h=>⟨fun j hj=>h j (Nat.zero_le _) hj,fun _ h=>h⟩
 | i+1,out,hi,hl,h=>by
  rw[rDown]
  have hok:=hp.at (v:=(i:Int)) Om Om
  obtain⟨m1,m2,m3⟩:=rMark_ok (out:=out) (x:=gi l (i:Int)) (i:=i) hok Om
  have hs:rStep l out i=if gi out (i:Int)=true then Vy out (gi l (i:Int))else out:=rfl
  have hmono:∀ j,gi out j=true->gi (rStep l out i) j=true:=by
   intro j hj;rw[hs];split
   ·exact m2 j hj
   ·exact hj
  have hkeep:∀ j:Int,(i:Int)<=j->gi (rStep l out i) j=gi out j:=by
   intro j hj;rw[hs];split
   ·exact m3 j hj
   ·rfl
  have ih:=rDown_closed hp i (rStep l out i) Om (by rw[rStep_len];exact hl) (by
   intro j hj hjl ht
   rw[hkeep j Om]at ht
   by_cases hji:j=i
   ·subst hji
    rw[hs,if_pos ht];exact m1
   ·exact(h j Om hjl ht).mono hmono)
  exact⟨ih.1,fun j hj=>ih.2 j (hmono j hj)⟩
theorem reachM_closed {l:List Nd}(hp:PoolOk l)(roots:List Int){j:Int}(h0:0<=j)(h1:j < l.length)(h:gi (Xu l roots) j=true):HasAll (Xu l roots) (gi l j):=by
 obtain⟨k,rfl⟩:=Int.eq_ofNat_of_zero_le h0
 exact(rDown_closed hp l.length (Vw l.length roots) (Nat.le_refl _) (rRoots_len _ _) (fun j h1 h2=>by omega)).1 k Om h
theorem rRoots_in {m:Nat}(roots:List Int)(hr:∀ r∈roots,0<=r/\r < (m:Int)){r:Int}(h:r∈roots):gi (Vw m roots) r=true:=by
 suffices ∀ (rs:List Int) (o:List Bool),o.length=m->(∀ r∈rs,0<=r/\r < (m:Int))->(r∈rs∨gi o r=true)->gi (rs.foldl (fun o r=>o.set r.toNat true) o) r=true from this roots _ (by simp) hr (.inl h)
 have hrr:=hr r h
 intro rs
 induction rs with
 | nil=>
  intro o _ _ h
  rcases h with h|h
  ·cases h
  ·exact h
 | cons a rs ih=>
  intro o ho hrs h
  rw[List.foldl_cons]
  have ha:=hrs a List.mem_cons_self
  refine ih _ (by simp[ho]) (fun x hx=>hrs x (List.mem_cons_of_mem _ hx)) ?_
  rcases h with h|h
  ·rcases List.mem_cons.1 h with rfl|h
   ·exact .inr (by rw[gi_set ha.1 ha.1 Om,if_pos rfl])
   ·exact .inl h
  ·exact .inr (set_mono ha.1 Om _ h)
theorem reachM_in {l:List Nd}(hp:PoolOk l){roots:List Int}(hr:∀ r∈roots,0<=r/\r < (l.length:Int)){r:Int}(h:r∈roots):gi (Xu l roots) r=true :=
 (rDown_closed hp l.length (Vw l.length roots) (Nat.le_refl _) (rRoots_len _ _) (fun j h1 h2=>by omega)).2 r (rRoots_in roots hr h)
def Vk (told:List Bool)(z:Int)(st:List Nd × List Int)(x:Nd):List Nd × List Int:=if gi told (st.2.length:Int)=true then(st.1++[Xh st.2 x],st.2++[(st.1.length:Int)])else(st.1,st.2++[z])
def Ym (told:List Bool)(z:Int)(p:List Nd)(l:List Nd):List Nd × List Int:=l.foldl (Vk told z) (p,[])
theorem inRun_snoc (told:List Bool)(z:Int)(p l:List Nd)(x:Nd):Ym told z p (l++[x])=Vk told z (Ym told z p l) x:=by simp[Ym,List.foldl_append]
theorem inRun_take {told:List Bool}{z:Int}{p l:List Nd}{j:Nat}(hj:j < l.length):Ym told z p (l.take (j+1))=Vk told z (Ym told z p (l.take j)) (gi l (j:Int)):=by
 rw[Wa hj,inRun_snoc,Yq hj]
theorem inRun_aux (told:List Bool)(z:Int):∀ (l:List Nd)(st:List Nd × List Int),(l.foldl (Vk told z) st).2.length=st.2.length+l.length/\st.1.length<=(l.foldl (Vk told z) st).1.length/\(l.foldl (Vk told z) st).1.length<=st.1.length+l.length
 | [],st=>by simp
 | x :: l,st=>by
  rw[List.foldl_cons]
  have:=inRun_aux told z l (Vk told z st x)
  unfold Vk at this ⊢
  split at this <;> rename_i hg <;> simp only[hg,if_true,if_false,List.length_append,List.length_cons,List.length_nil]at this ⊢ <;> simp at this ⊢ <;> omega
theorem inRun_len (told:List Bool)(z:Int)(p l:List Nd):(Ym told z p l).2.length=l.length:=by
 have:=(inRun_aux told z l (p,[])).1
 simpa[Ym]using this
theorem inRun_le (told:List Bool)(z:Int)(p l:List Nd):p.length<=(Ym told z p l).1.length/\(Ym told z p l).1.length<=p.length+l.length:=(inRun_aux told z l (p,[])).2
theorem inRun_z {told:List Bool}{p l:List Nd}(hp:PoolOk l)(hc:∀ j:Int,0<=j->j < l.length->gi told j=true->HasAll told (gi l j)) (z z':Int):∀ j:Nat,j<=l.length->(Ym told z p (l.take j)).1=(Ym told z' p (l.take j)).1/\∀ i:Int,0<=i->i < j->gi told i=true->gi (Ym told z p (l.take j)).2 i=gi (Ym told z' p (l.take j)).2 i
 | 0,_=>⟨by simp[Ym],fun i h0 h1=>by omega⟩
 | j+1,hj=>by
  obtain⟨e1,e2⟩:=inRun_z hp hc z z' j Om
  have l1:(Ym told z p (l.take j)).2.length=j:=by rw[inRun_len,List.length_take];omega
  have l2:(Ym told z' p (l.take j)).2.length=j:=by rw[inRun_len,List.length_take];omega
  rw[inRun_take Om,inRun_take Om]
  generalize Ym told z p (l.take j)=A at *
  generalize Ym told z' p (l.take j)=B at *
  unfold Vk
  rw[l1,l2]
  by_cases ht:gi told (j:Int)=true
  ·rw[if_pos ht,if_pos ht]
   have hk:=hc (j:Int) Om Om ht
   have hok:=hp.at (v:=(j:Int)) Om Om
   have:Xh A.2 (gi l (j:Int))=Xh B.2 (gi l (j:Int)):=by
    generalize gi l (j:Int)=x at *
    unfold Xh
    by_cases c5:x.k=5
    ·have:=hok.pair c5
     rw[if_pos c5,if_pos c5,e2 _ this.1.1 Om (hk.1 c5).1,e2 _ this.2.1 Om (hk.1 c5).2]
    ·rw[if_neg c5,if_neg c5]
     by_cases c6:x.k=6∨x.k=7
     ·have:=hok.one c6
      rw[if_pos c6,if_pos c6,e2 _ this.1 Om (hk.2 c6)]
     ·rw[if_neg c6,if_neg c6]
   refine⟨by simp only[this,e1],fun i h0 h1 ht=>?_⟩
   simp only
   by_cases hij:i=j
   ·subst hij
    rw[← l1]at *
    rw[gi_last,l1,← l2,gi_last,e1]
   ·rw[gi_app Om h0,gi_app Om h0]
    exact e2 i h0 Om ht
  ·rw[if_neg ht,if_neg ht]
   refine⟨e1,fun i h0 h1 hti=>?_⟩
   simp only
   by_cases hij:i=j
   ·subst hij;exact absurd hti ht
   ·rw[gi_app Om h0,gi_app Om h0]
    exact e2 i h0 Om hti
theorem inRun_zz {p l:List Nd}(hp:PoolOk l)(roots:List Int)(z z':Int):(Ym (Xu l roots) z p l).1=(Ym (Xu l roots) z' p l).1/\∀ i:Int,0<=i->i < l.length->gi (Xu l roots) i=true->gi (Ym (Xu l roots) z p l).2 i=gi (Ym (Xu l roots) z' p l).2 i:=by
 have:=inRun_z (p:=p) hp (fun j h0 h1 h=>reachM_closed hp roots h0 h1 h) z z' l.length (Nat.le_refl _)
 rw[List.take_length]at this
 exact this
theorem app_set {A:List Int}{j d:Nat}{z y:Int}(hA:A.length=j):(A++List.replicate (d+1) z).set j y=(A++[y])++List.replicate d z:=by
 subst hA
 rw[List.replicate_succ,List.set_append_right _ _ (Nat.le_refl _),Nat.sub_self,List.set_cons_zero,List.append_assoc];rfl
theorem app_set2 {A R:List Int}{j:Nat}{x y:Int}(hA:A.length=j):((A++[x])++R).set j y=(A++[y])++R:=by
 subst hA
 rw[List.append_assoc,List.set_append_right _ _ (Nat.le_refl _),Nat.sub_self,List.singleton_append,List.set_cons_zero,List.append_assoc];rfl
theorem flat_ip {A R:List Int}{i:Int}(h0:0<=i)(h1:i < A.length):((A++R).flatMap eInt.cells)[i.toNat]?=some (.int .i64 (gi A i)):=by
 rw[flat_i h0 (by rw[List.length_append];omega),gi_app h1 h0]
end Go.Proofs.YtcffcnipmgkjfaaGreat.Ax
