/- What the law needs: laws of the abstract machine, and contracts of functions. -/
import Derived.Test.YtbgkimkbngocjaaM1
import Derived.Test.YtbgkimkbngocjaaSh
import Derived.Test.YtbgkimkbngocjaaM2
set_option linter.unusedVariables false
set_option linter.unusedSimpArgs false
namespace Go.Proofs.Ytbgkimkbngocjaa.Ax
open Go
end Go.Proofs.Ytbgkimkbngocjaa.Ax
set_option linter.unusedVariables false
set_option linter.unusedSimpArgs false
namespace Go.Proofs.Ytbgkimkbngocjaa.Ax
open Go
theorem k61 (a b c:Int) (H:Hp) (n:Nat):Call Try.prog 61 [.int .i64 a,.int .i64 b,.int .i64 c] H n=some (.bool (decide (b≤a∧a≤c)),H,n+10):=by
 rw [c61]; unfold S61
 by_cases h1:b≤a <;> simp [Zq,Zl,i_geq,i_leq,gsel_true,pickV_bool,h1]
theorem k56 (a b c:Int) (H:Hp) (n:Nat):Call Try.prog 56 [.int .i64 a,.int .i64 b,.int .i64 c] H n=some (.bool (decide (b≤a∧a≤c)),H,n+10):=by
 rw [c56]; unfold S56
 by_cases h1:b≤a <;> simp [Zq,Zl,i_geq,i_leq,gsel_true,pickV_bool,h1]
def nameByte (a:Int):Bool:=decide (97≤a∧a≤122) || (decide (a=43) || (decide (a=45) || (decide (a=42) || (decide (a=60) || (decide (a=61) || (decide (a=63) || (decide (a=33) || decide (a=47))))))))
theorem k100 (a:Int) (H:Hp) (n:Nat):Call Try.prog 100 [.int .u8 a] H n=some (.bool (nameByte a),H,n+40):=by
 rw [c100]; unfold S100 nameByte
 by_cases h1:97≤a
 ·by_cases h2:a≤122
  ·simp [Zq,Zl,i_geq,i_leq,i_eql,gsel_true,gsel_false,pickV_bool,h1,h2]
  ·by_cases e43:a=43
   ·simp [Zq,Zl,i_geq,i_leq,i_eql,gsel_true,gsel_false,pickV_bool,h1,h2,e43]
   ·by_cases e45:a=45
    ·simp [Zq,Zl,i_geq,i_leq,i_eql,gsel_true,gsel_false,pickV_bool,h1,h2,e43,e45]
    ·by_cases e42:a=42
     ·simp [Zq,Zl,i_geq,i_leq,i_eql,gsel_true,gsel_false,pickV_bool,h1,h2,e43,e45,e42]
     ·by_cases e60:a=60
      ·simp [Zq,Zl,i_geq,i_leq,i_eql,gsel_true,gsel_false,pickV_bool,h1,h2,e43,e45,e42,e60]
      ·by_cases e61:a=61
       ·simp [Zq,Zl,i_geq,i_leq,i_eql,gsel_true,gsel_false,pickV_bool,h1,h2,e43,e45,e42,e60,e61]
       ·by_cases e63:a=63
        ·simp [Zq,Zl,i_geq,i_leq,i_eql,gsel_true,gsel_false,pickV_bool,h1,h2,e43,e45,e42,e60,e61,e63]
        ·by_cases e33:a=33
         ·simp [Zq,Zl,i_geq,i_leq,i_eql,gsel_true,gsel_false,pickV_bool,h1,h2,e43,e45,e42,e60,e61,e63,e33]
         ·by_cases e47:a=47
          ·simp [Zq,Zl,i_geq,i_leq,i_eql,gsel_true,gsel_false,pickV_bool,h1,h2,e43,e45,e42,e60,e61,e63,e33,e47]
          ·simp [Zq,Zl,i_geq,i_leq,i_eql,gsel_true,gsel_false,pickV_bool,h1,h2,e43,e45,e42,e60,e61,e63,e33,e47]
 ·by_cases e43:a=43
  ·simp [Zq,Zl,i_geq,i_leq,i_eql,gsel_true,gsel_false,pickV_bool,h1,e43]
  ·by_cases e45:a=45
   ·simp [Zq,Zl,i_geq,i_leq,i_eql,gsel_true,gsel_false,pickV_bool,h1,e43,e45]
   ·by_cases e42:a=42
    ·simp [Zq,Zl,i_geq,i_leq,i_eql,gsel_true,gsel_false,pickV_bool,h1,e43,e45,e42]
    ·by_cases e60:a=60
     ·simp [Zq,Zl,i_geq,i_leq,i_eql,gsel_true,gsel_false,pickV_bool,h1,e43,e45,e42,e60]
     ·by_cases e61:a=61
      ·simp [Zq,Zl,i_geq,i_leq,i_eql,gsel_true,gsel_false,pickV_bool,h1,e43,e45,e42,e60,e61]
      ·by_cases e63:a=63
       ·simp [Zq,Zl,i_geq,i_leq,i_eql,gsel_true,gsel_false,pickV_bool,h1,e43,e45,e42,e60,e61,e63]
       ·by_cases e33:a=33
        ·simp [Zq,Zl,i_geq,i_leq,i_eql,gsel_true,gsel_false,pickV_bool,h1,e43,e45,e42,e60,e61,e63,e33]
        ·by_cases e47:a=47
         ·simp [Zq,Zl,i_geq,i_leq,i_eql,gsel_true,gsel_false,pickV_bool,h1,e43,e45,e42,e60,e61,e63,e33,e47]
         ·simp [Zq,Zl,i_geq,i_leq,i_eql,gsel_true,gsel_false,pickV_bool,h1,e43,e45,e42,e60,e61,e63,e33,e47]
theorem l125 {C:Zp} {H:Hp} {v:Value} {l:List Int} (hv:View H 1 v (bytesV l) l.length) (hl:l.length≤1048576) (x:Int):∀ (d j:Nat) (t:Tm) (n:Nat),j+d=l.length→t 0=v→t 1=.int .u8 x→t 7=.int .i64 l.length→t 8=.int .i64 j →
  ∃ o,Yf (S125L0 C Yf) t H n=some o∧n≤o.n∧o.H=H∧((o.e=.exit 0∧x ∉ l.drop j)∨(o.e=.ret∧∃ k:Nat,o.t 4=.int .i64 k∧x∈l.drop j)):=by
 intro d
 induction d with
 | zero =>
  intro j t n hj h0 h1 h7 h8
  rw [Loop_eq]
  unfold S125L0
  have:¬ (j:Int) < l.length:=by omega
  simp [h7,h8,i_lss,csel_bool,this,thenO]
  rw [List.drop_eq_nil_of_le (by omega)]; simp
 | succ d ih =>
  intro j t n hj h0 h1 h7 h8
  have hlt:j < l.length:=by omega
  obtain ⟨p,hp,hc,_⟩:=hv.idx (k:=.i64) (j:=(j:Int)) (by omega) (by omega)
  have hld:=hc (.int .u8 l[j]) rfl (by simp [hlt])
  rw [Loop_eq]
  unfold S125L0
  have hd:l.drop j=l[j] :: l.drop (j+1):=(List.drop_eq_getElem_cons hlt)
  by_cases hx:x=l[j]
  ·simp [h0,h1,h7,h8,i_lss,i_eql,csel_bool,hlt,thenO,hp,hld,← hx,Zl]
   rw [hd,hx]
   exact ⟨⟨j,rfl⟩,List.mem_cons_self ..⟩
  ·have hw:IntKind.i64.wrap ((j:Int)+1)=((j+1:Nat):Int):=by rw [w64 (by omega)]; omega
   simp only [h0,h1,h7,h8,i_lss,i_eql,i_add,csel_bool,hp,hld,Option.bind_some,hx,decide_false,Bool.false_eq_true,if_false,Int.ofNat_lt,hlt,decide_true,if_true,hw,thenO]
   obtain ⟨o,e1,e2,e3,e4⟩:=ih (j+1) (put (put (put (put (put (put (put (put (put (put (put t 9 (.bool true)) 10 (.int .i64 j)) 5 (.int .i64 j)) 11 (.int .u8 x)) 12 v) 13 (.int .i64 j)) 14 p) 15 (.int .u8 l[j])) 16 (.bool false)) 18 (.int .i64 ((j+1:Nat):Int))) 8 (.int .i64 ((j+1:Nat):Int))) (n+11) (by omega) (by simp [Zl,h0]) (by simp [Zl,h1]) (by simp [Zl,h7]) (by simp [Zl])
   refine ⟨o,e1,by omega,e3,?_⟩
   rw [hd]
   rcases e4 with ⟨e4,e5⟩ | ⟨e4,k,e5,e6⟩
   ·exact .inl ⟨e4,by simp only [List.mem_cons,not_or]; exact ⟨hx,e5⟩⟩
   ·exact .inr ⟨e4,k,e5,List.mem_cons_of_mem _ e6⟩
theorem k125 {H:Hp} {v:Value} {l:List Int} (hv:View H 1 v (bytesV l) l.length) (hl:l.length≤1048576) (x:Int) (n:Nat):∃ (r:Int) (n':Nat),n≤n'∧Call Try.prog 125 [v,.int .u8 x] H n=some (.int .i64 r,H,n')∧(0≤r↔x∈l):=by
 rw [c125]; unfold S125
 simp only [Zq,List.getD_cons_zero,hv.len,Option.bind_some]
 obtain ⟨o,e1,e2,e3,e4⟩:=l125 (C:=Call Try.prog) hv hl x l.length 0 (put (put (put (put (Yg [v,.int .u8 x]) 4 (.int .i64 0)) 6 v) 7 (.int .i64 l.length)) 8 (.int .i64 0)) (n+4) (by omega) (by simp [Zl,Zq]) (by simp [Zl,Zq]) (by simp [Zl]) (by simp [Zl])
 rw [e1]
 obtain ⟨oe,ot,oH,on⟩:=o
 simp only at e2 e3 e4
 subst e3
 rcases e4 with ⟨rfl,e4⟩ | ⟨rfl,k,e4,e5⟩
 ·refine ⟨-1,on+1,by omega,?_,?_⟩
  ·simp [outOf,thenK]
  ·simpa using e4
 ·refine ⟨k,on,by omega,?_,?_⟩
  ·simp [outOf,thenK,e4]
  ·simp at e5; simp [e5]
theorem k119 {H:Hp} {v:Value} {l:List Int} (hv:View H 1 v (bytesV l) l.length) (hl:l.length≤1048576) (x:Int) (n:Nat):∃ (n':Nat),n≤n'∧Call Try.prog 119 [v,.int .u8 x] H n=some (.bool (decide (x∈l)),H,n'):=by
 rw [c119]; unfold S119
 obtain ⟨r,n',h1,h2,h3⟩:=k125 hv hl x (n+6)
 refine ⟨n',by omega,?_⟩
 simp [Zq,h2,i_geq,h3]
theorem k98 (a:Int) (H:Hp) (n:Nat):∃ (H':Hp) (n':Nat),n≤n'∧Same n H H'∧Call Try.prog 98 [.int .u8 a] H n=some (.bool (nameByte a),H',n'):=by
 rw [c98]; unfold S98
 by_cases h1:97≤a∧a≤122
 ·refine ⟨H,n+14,by omega,fun _ _=>rfl,?_⟩
  simp [Zq,Zl,i_geq,i_leq,gsel_true,gsel_false,pickV_bool,h1,nameByte]
 ·have hv:View (H.set (n+8) (some (.row (bytesV [43,45,42,60,61,63,33,47]) 1 true))) 1 (sl (n+8) 0 8) (bytesV [43,45,42,60,61,63,33,47]) 8:=View.new (e:=1) (rw:=true) (by simp [Hp.set]) rfl
  obtain ⟨n',e1,e2⟩:=k119 hv (by decide) a (n+14)
  refine ⟨H.set (n+8) (some (.row (bytesV [43,45,42,60,61,63,33,47]) 1 true)),n',by omega,fun i hi=>by simp [Hp.set]; omega,?_⟩
  have hb:bsl (n+8) 1 8 [.int .u8 0] [(0,1,.int .u8 43),(1,1,.int .u8 45),(2,1,.int .u8 42),(3,1,.int .u8 60),(4,1,.int .u8 61),(5,1,.int .u8 63),(6,1,.int .u8 33),(7,1,.int .u8 47)] H=some (sl (n+8) 0 8,H.set (n+8) (some (.row (bytesV [43,45,42,60,61,63,33,47]) 1 true))):=rfl
  have hm:conv .mark (n+9) (sl (n+8) 0 8) (H.set (n+8) (some (.row (bytesV [43,45,42,60,61,63,33,47]) 1 true)))=some (sl (n+8) 0 8,H.set (n+8) (some (.row (bytesV [43,45,42,60,61,63,33,47]) 1 true))):=by simp [conv,Hp.set]
  have hn:nameByte a=decide (a∈[43,45,42,60,61,63,33,47]):=by
   unfold nameByte
   rw [decide_eq_false h1]
   simp
  rw [hn]
  by_cases h2:97≤a
  ·have h3:¬ a≤122:=fun h=>h1 ⟨h2,h⟩
   simp only [Zq,Zl,i_geq,i_leq,gsel_true,gsel_false,pickV_bool,h2,h3,List.getD_cons_zero,Option.bind_some,decide_true,decide_false,if_true,Nat.reduceEqDiff,if_false,Bool.false_eq_true,hb,hm,e2]
  ·simp only [Zq,Zl,i_geq,i_leq,gsel_true,gsel_false,pickV_bool,h2,List.getD_cons_zero,Option.bind_some,decide_true,decide_false,if_true,Nat.reduceEqDiff,if_false,Bool.false_eq_true,hb,hm,e2]
def Zt (s:ByteArray):List Int:=s.data.toList.map fun b=>(b.toNat:Int)
theorem numsOf_length (s:ByteArray):(Zt s).length=s.size:=by simp [Zt]
theorem idx_nums {s:ByteArray} {k:IntKind} {j:Nat} (h1:j < s.size):idxS (.string s) (.int k j)=some (.int .u8 ((Zt s)[j]'(by rw [numsOf_length]; exact h1))):=by
 have hd:j < s.data.toList.length:=by simpa using h1
 simp [idxS,h1,Zt,hd]
theorem l60 (s:ByteArray) (hs:s.size≤1048576):∀ (d j:Nat) (t:Tm) (H:Hp) (n:Nat),j+d=s.size→t 0=.string s→t 3=.int .i64 j →
  ∃ o,Yf (S60L0 (Call Try.prog) Yf) t H n=some o∧n≤o.n∧o.H=H∧((o.e=.exit 0∧o.t 0=.string s∧((Zt s).drop j).all nameByte=true)∨(o.e=.ret∧o.t 2=.bool false∧((Zt s).drop j).all nameByte=false)):=by
 intro d
 induction d with
 | zero =>
  intro j t H n hj h0 h3
  rw [Loop_eq]
  unfold S60L0
  have:¬ (j:Int) < s.size:=by omega
  simp [h0,h3,len_str,i_lss,csel_bool,this,thenO,Zl]
  rw [List.drop_eq_nil_of_le (by rw [numsOf_length]; omega)]
  simp
 | succ d ih =>
  intro j t H n hj h0 h3
  have hlt:j < s.size:=by omega
  have hlt':j < (Zt s).length:=by rw [numsOf_length]; exact hlt
  have hd:(Zt s).drop j=(Zt s)[j] :: (Zt s).drop (j+1):=List.drop_eq_getElem_cons hlt'
  rw [Loop_eq]
  generalize hLL:Yf (S60L0 (Call Try.prog) Yf)=LL at ih ⊢
  unfold S60L0
  have hix:=idx_nums (k:=.i64) hlt
  cases hb:nameByte (Zt s)[j] with
  | false =>
   simp [h0,h3,len_str,i_lss,csel_bool,hlt,thenO,hix,k100,un_not,hb,Zl]
   rw [hd]
   exact ⟨by omega,_,List.mem_cons_self ..,hb⟩
  | true =>
   have hw:IntKind.i64.wrap ((j:Int)+1)=((j+1:Nat):Int):=by rw [w64 (by omega)]; omega
   simp only [h0,h3,len_str,i_lss,csel_bool,Int.ofNat_lt,hlt,decide_true,if_true,hix,k100,un_not,hb,i_add,Option.bind_some,Bool.not_true,Bool.false_eq_true,if_false,thenO,hw]
   generalize hT:put _ _ _=T
   obtain ⟨o,e1,e2,e3,e4⟩:=ih (j+1) T H (n+9+40+3) (by omega) (by rw [← hT]; simp [Zl,h0]) (by rw [← hT]; simp [Zl])
   refine ⟨o,e1,by omega,e3,?_⟩
   rw [hd,List.all_cons,hb,Bool.true_and]
   exact e4
theorem k60 (s:ByteArray) (hs:s.size≤1048576) (H:Hp) (n:Nat):∃ n',n≤n'∧Call Try.prog 60 [.string s] H n=some (.bool (decide (1≤s.size∧s.size≤12) && (Zt s).all nameByte),H,n'):=by
 rw [c60]; unfold S60
 obtain ⟨⟨oe,ot,oH,on⟩,e1,e2,e3,e4⟩:=l60 s hs s.size 0 (put (put (Yg [.string s]) 2 (.bool false)) 3 (.int .i64 0)) H (n+2) (by omega) (by simp [Zl,Zq]) (by simp [Zl])
 rw [e1]
 simp only at e2 e3 e4
 subst e3
 rw [List.drop_zero] at e4
 rcases e4 with ⟨rfl,e4,e5⟩ | ⟨rfl,e4,e5⟩
 ·refine ⟨on+4+10,by omega,?_⟩
  have hz:((1:Int)≤s.size∧(s.size:Int)≤12)=(1≤s.size∧s.size≤12):=by apply propext; omega
  simp only [outOf,thenK,if_true,e4,len_str,Option.bind_some,k61,hz,e5,Bool.and_true]
 ·refine ⟨on,by omega,?_⟩
  simp [outOf,thenK,e4,e5]
theorem l55 (s:ByteArray) (hs:s.size≤1048576):∀ (d j:Nat) (t:Tm) (H:Hp) (n:Nat),j+d=s.size→t 0=.string s→t 9=.int .i64 s.size→t 10=.int .i64 j →
  ∃ o,Yf (S55L0 (Call Try.prog) Yf) t H n=some o∧n≤o.n∧Same n H o.H∧((o.e=.exit 0∧((Zt s).drop j).all nameByte=true)∨(o.e=.ret∧o.t 2=.bool false∧((Zt s).drop j).all nameByte=false)):=by
 intro d
 induction d with
 | zero =>
  intro j t H n hj h0 h9 h10
  rw [Loop_eq]
  unfold S55L0
  have:¬ (j:Int) < s.size:=by omega
  simp [h9,h10,i_lss,csel_bool,this,thenO,Zl]
  refine ⟨Same.refl _ _,?_⟩
  rw [List.drop_eq_nil_of_le (by rw [numsOf_length]; omega)]
  simp
 | succ d ih =>
  intro j t H n hj h0 h9 h10
  have hlt:j < s.size:=by omega
  have hlt':j < (Zt s).length:=by rw [numsOf_length]; exact hlt
  have hd:(Zt s).drop j=(Zt s)[j] :: (Zt s).drop (j+1):=List.drop_eq_getElem_cons hlt'
  rw [Loop_eq]
  generalize hLL:Yf (S55L0 (Call Try.prog) Yf)=LL at ih ⊢
  unfold S55L0
  have hix:=idx_nums (k:=.i64) hlt
  obtain ⟨H1,n1,f1,f2,f3⟩:=k98 (Zt s)[j] H (n+8)
  cases hb:nameByte (Zt s)[j] with
  | false =>
   rw [hb] at f3
   simp [h0,h9,h10,i_lss,csel_bool,hlt,thenO,hix,f3,un_not,Zl]
   rw [hd]
   exact ⟨by omega,f2.less (by omega),_,List.mem_cons_self ..,hb⟩
  | true =>
   rw [hb] at f3
   have hw:IntKind.i64.wrap ((j:Int)+1)=((j+1:Nat):Int):=by rw [w64 (by omega)]; omega
   simp only [h0,h9,h10,i_lss,csel_bool,Int.ofNat_lt,hlt,decide_true,if_true,hix,f3,un_not,i_add,Option.bind_some,Bool.not_true,Bool.false_eq_true,if_false,thenO,hw]
   generalize hT:put _ _ _=T
   obtain ⟨o,e1,e2,e3,e4⟩:=ih (j+1) T H1 (n1+2) (by omega) (by rw [← hT]; simp [Zl,h0]) (by rw [← hT]; simp [Zl,h9]) (by rw [← hT]; simp [Zl])
   refine ⟨o,e1,by omega,(f2.less (by omega)).trans e3 (by omega),?_⟩
   rw [hd,List.all_cons,hb,Bool.true_and]
   exact e4
theorem k55 (s:ByteArray) (hs:s.size≤1048576) (H:Hp) (n:Nat):∃ H' n',n≤n'∧Same n H H'∧Call Try.prog 55 [.string s] H n=some (.bool (decide (1≤s.size∧s.size≤12) && (Zt s).all nameByte),H',n'):=by
 rw [c55]; unfold S55
 by_cases hz:1≤s.size∧s.size≤12
 ·have hz':(1:Int)≤s.size∧(s.size:Int)≤12:=by omega
  simp only [Zq,List.getD_cons_zero,len_str,Option.bind_some,k56,hz',and_self,decide_true,un_not,Bool.not_true,csel_bool,Bool.false_eq_true,if_false]
  obtain ⟨⟨oe,ot,oH,on⟩,e1,e2,e3,e4⟩:=l55 s hs s.size 0 (put (put (put (put (put (put (put (put (Yg [.string s]) 2 (.bool false)) 4 (.string s)) 5 (.int .i64 s.size)) 6 (.bool true)) 7 (.bool false)) 8 (.string s)) 9 (.int .i64 s.size)) 10 (.int .i64 0)) H (n+5+10+3) (by omega) (by simp [Zl,Zq]) (by simp [Zl]) (by simp [Zl])
  rw [e1]
  simp only at e2 e3 e4
  rw [List.drop_zero] at e4
  rcases e4 with ⟨rfl,e5⟩ | ⟨rfl,e4,e5⟩
  ·refine ⟨oH,on+1,by omega,e3.less (by omega),?_⟩
   simp [outOf,thenK,e5,hz]
  ·refine ⟨oH,on,by omega,e3.less (by omega),?_⟩
   simp [outOf,thenK,e4,e5]
 ·have hz':¬ ((1:Int)≤s.size∧(s.size:Int)≤12):=by omega
  refine ⟨H,n+5+10+1,by omega,Same.refl _ _,?_⟩
  simp only [Zq,List.getD_cons_zero,len_str,Option.bind_some,k56,hz',decide_false,un_not,Bool.not_false,csel_bool,if_true,hz,Bool.false_and]
end Go.Proofs.Ytbgkimkbngocjaa.Ax
set_option linter.unusedVariables false
set_option linter.unusedSimpArgs false
namespace Go.Proofs.Ytbgkimkbngocjaa.Ax
open Go
def nameOk (s:ByteArray):Bool:=decide (1≤s.size∧s.size≤12) && (Zt s).all nameByte
def NodeOk (x:Nd) (m:Int):Prop :=
 (x.k=1∧x.n=0∧x.s=⟨#[]⟩∧x.a=0∧x.b=0) ∨
 (x.k=2∧(0≤x.n∧x.n≤1)∧x.s=⟨#[]⟩∧x.a=0∧x.b=0) ∨
 (x.k=3∧(-1000000000≤x.n∧x.n≤1000000000)∧x.s=⟨#[]⟩∧x.a=0∧x.b=0) ∨
 (x.k=4∧x.n=0∧nameOk x.s=true∧x.a=0∧x.b=0) ∨
 (x.k=5∧x.n=0∧x.s=⟨#[]⟩∧(0≤x.a∧x.a≤m - 1)∧(0≤x.b∧x.b≤m - 1)) ∨
 (x.k=6∧(0≤x.n∧x.n≤1000000000)∧x.s=⟨#[]⟩∧(0≤x.a∧x.a≤m - 1)∧x.b=0) ∨
 (x.k=7∧x.n=0∧x.s=⟨#[]⟩∧(0≤x.a∧x.a≤m - 1)∧x.b=0) ∨
 (x.k=8∧(0≤x.n∧x.n≤99)∧x.s=⟨#[]⟩∧x.a=0∧x.b=0) ∨
 (x.k=9∧(0≤x.n∧x.n≤1000000000)∧x.s=⟨#[]⟩∧x.a=0∧x.b=0)
instance (x:Nd) (m:Int):Decidable (NodeOk x m):=by unfold NodeOk; infer_instance
theorem k86 (x:Nd) (hx:x.s.size≤1048576) (m:Int) (hm:0≤m∧m≤1000000000) (H:Hp) (n:Nat):Rt Try.prog 86 [.agg ⟨x.cells⟩,.int .i64 m] H n (.bool (decide (NodeOk x m))):=by
 apply Rt.of
 rw [c86]; unfold S86
 have hw:IntKind.i64.wrap (m - 1)=m - 1:=w64 (by omega)
 obtain ⟨xk,xn,xs,xa,xb⟩:=x
 simp only at hx
 have fin:∀ (b:Bool) (H':Hp) (n':Nat),n≤n'→Same n H H'→b=decide (NodeOk ⟨xk,xn,xs,xa,xb⟩ m)→Wp (some (Value.bool b,H',n')) (fun q=>n≤q.2.2∧Same n H q.2.1∧q.1=.bool (decide (NodeOk ⟨xk,xn,xs,xa,xb⟩ m))):=by
  intro b H' n' h1 h2 h3
  exact Wp.pure ⟨h1,h2,by rw [h3]⟩
 by_cases e1:xk=1
 ·subst e1
  (repeat(first|((with_reducible first|apply Wp.gs|apply Wp.cs|apply Zc|apply Zg|apply Zd|apply Zi|apply Zn|apply Wp.step);case h=>((try simp(disch:=omega)only[↓reduceIte,Za,↓X0,X1,Nat.reduceEqDiff,Int.reduceEq,Nat.reduceAdd,Nat.reduceSub,X2,Ze,Nat.reduceLeDiff,Nd.cells,k56]);with_reducible first|done|exact rfl|exact bT|exact bF))|apply Zf|apply Zj|with_reducible apply Zk|simp only[↓X3]|with_reducible apply Zb))
  refine fin _ _ _ (by omega) (by (repeat (first | exact Same.refl _ _ | refine Same.set ?_ (by omega) _))) ?_
  rw [Bool.eq_iff_iff]; simp [NodeOk,nameOk]; try grind
 by_cases e2:xk=2
 ·subst e2
  (repeat(first|((with_reducible first|apply Wp.gs|apply Wp.cs|apply Zc|apply Zg|apply Zd|apply Zi|apply Zn|apply Wp.step);case h=>((try simp(disch:=omega)only[↓reduceIte,Za,↓X0,X1,Nat.reduceEqDiff,Int.reduceEq,Nat.reduceAdd,Nat.reduceSub,X2,Ze,Nat.reduceLeDiff,Nd.cells,k56]);with_reducible first|done|exact rfl|exact bT|exact bF))|apply Zf|apply Zj|with_reducible apply Zk|simp only[↓X3]|with_reducible apply Zb))
  refine fin _ _ _ (by omega) (by (repeat (first | exact Same.refl _ _ | refine Same.set ?_ (by omega) _))) ?_
  rw [Bool.eq_iff_iff]; simp [NodeOk,nameOk]; try grind
 by_cases e3:xk=3
 ·subst e3
  (repeat(first|((with_reducible first|apply Wp.gs|apply Wp.cs|apply Zc|apply Zg|apply Zd|apply Zi|apply Zn|apply Wp.step);case h=>((try simp(disch:=omega)only[↓reduceIte,Za,↓X0,X1,Nat.reduceEqDiff,Int.reduceEq,Nat.reduceAdd,Nat.reduceSub,X2,Ze,Nat.reduceLeDiff,Nd.cells,k56]);with_reducible first|done|exact rfl|exact bT|exact bF))|apply Zf|apply Zj|with_reducible apply Zk|simp only[↓X3]|with_reducible apply Zb))
  refine fin _ _ _ (by omega) (by (repeat (first | exact Same.refl _ _ | refine Same.set ?_ (by omega) _))) ?_
  rw [Bool.eq_iff_iff]; simp [NodeOk,nameOk]; try grind
 by_cases e4:xk=4
 ·subst e4
  obtain ⟨H1,n1,a1,a2,a3⟩:=k55 xs hx (H.set n (some (.row [.int .i64 4,.int .i64 xn,.string xs,.int .i64 xa,.int .i64 xb] 0 true))) (n+30)
  have b0:H1 n=some (.row [.int .i64 4,.int .i64 xn,.string xs,.int .i64 xa,.int .i64 xb] 0 true):=by rw [a2 n (by omega)]; exact Zh _ _ _
  (repeat(first|((with_reducible first|apply Wp.gs|apply Wp.cs|apply Zc|apply Zg|apply Zd|apply Zi|apply Zn|apply Wp.step);case h=>((try simp(disch:=omega)only[↓reduceIte,Za,↓X0,X1,Nat.reduceEqDiff,Int.reduceEq,Nat.reduceAdd,Nat.reduceSub,X2,Ze,Nat.reduceLeDiff,Nd.cells,k56,a3,b0]);with_reducible first|done|exact rfl|exact bT|exact bF))|apply Zf|apply Zj|with_reducible apply Zk|simp only[↓X3]|with_reducible apply Zb))
  refine fin _ _ _ ?_ (((Same.refl _ _).set (Nat.le_refl _) _).trans (a2.less (show n≤n+30 by omega)) (Nat.le_refl _)) ?_
  ·omega
  rw [Bool.eq_iff_iff]; simp [NodeOk,nameOk]; try grind
 by_cases e5:xk=5
 ·subst e5
  (repeat(first|((with_reducible first|apply Wp.gs|apply Wp.cs|apply Zc|apply Zg|apply Zd|apply Zi|apply Zn|apply Wp.step);case h=>((try simp(disch:=omega)only[↓reduceIte,Za,↓X0,X1,Nat.reduceEqDiff,Int.reduceEq,Nat.reduceAdd,Nat.reduceSub,X2,Ze,Nat.reduceLeDiff,Nd.cells,k56,hw]);with_reducible first|done|exact rfl|exact bT|exact bF))|apply Zf|apply Zj|with_reducible apply Zk|simp only[↓X3]|with_reducible apply Zb))
  refine fin _ _ _ (by omega) (by (repeat (first | exact Same.refl _ _ | refine Same.set ?_ (by omega) _))) ?_
  rw [Bool.eq_iff_iff]; simp [NodeOk,nameOk]; try grind
 by_cases e6:xk=6
 ·subst e6
  (repeat(first|((with_reducible first|apply Wp.gs|apply Wp.cs|apply Zc|apply Zg|apply Zd|apply Zi|apply Zn|apply Wp.step);case h=>((try simp(disch:=omega)only[↓reduceIte,Za,↓X0,X1,Nat.reduceEqDiff,Int.reduceEq,Nat.reduceAdd,Nat.reduceSub,X2,Ze,Nat.reduceLeDiff,Nd.cells,k56,hw]);with_reducible first|done|exact rfl|exact bT|exact bF))|apply Zf|apply Zj|with_reducible apply Zk|simp only[↓X3]|with_reducible apply Zb))
  refine fin _ _ _ (by omega) (by (repeat (first | exact Same.refl _ _ | refine Same.set ?_ (by omega) _))) ?_
  rw [Bool.eq_iff_iff]; simp [NodeOk,nameOk]; try grind
 by_cases e7:xk=7
 ·subst e7
  (repeat(first|((with_reducible first|apply Wp.gs|apply Wp.cs|apply Zc|apply Zg|apply Zd|apply Zi|apply Zn|apply Wp.step);case h=>((try simp(disch:=omega)only[↓reduceIte,Za,↓X0,X1,Nat.reduceEqDiff,Int.reduceEq,Nat.reduceAdd,Nat.reduceSub,X2,Ze,Nat.reduceLeDiff,Nd.cells,k56,hw]);with_reducible first|done|exact rfl|exact bT|exact bF))|apply Zf|apply Zj|with_reducible apply Zk|simp only[↓X3]|with_reducible apply Zb))
  refine fin _ _ _ (by omega) (by (repeat (first | exact Same.refl _ _ | refine Same.set ?_ (by omega) _))) ?_
  rw [Bool.eq_iff_iff]; simp [NodeOk,nameOk]; try grind
 by_cases e8:xk=8
 ·subst e8
  (repeat(first|((with_reducible first|apply Wp.gs|apply Wp.cs|apply Zc|apply Zg|apply Zd|apply Zi|apply Zn|apply Wp.step);case h=>((try simp(disch:=omega)only[↓reduceIte,Za,↓X0,X1,Nat.reduceEqDiff,Int.reduceEq,Nat.reduceAdd,Nat.reduceSub,X2,Ze,Nat.reduceLeDiff,Nd.cells,k56]);with_reducible first|done|exact rfl|exact bT|exact bF))|apply Zf|apply Zj|with_reducible apply Zk|simp only[↓X3]|with_reducible apply Zb))
  refine fin _ _ _ (by omega) (by (repeat (first | exact Same.refl _ _ | refine Same.set ?_ (by omega) _))) ?_
  rw [Bool.eq_iff_iff]; simp [NodeOk,nameOk]; try grind
 by_cases e9:xk=9
 ·subst e9
  (repeat(first|((with_reducible first|apply Wp.gs|apply Wp.cs|apply Zc|apply Zg|apply Zd|apply Zi|apply Zn|apply Wp.step);case h=>((try simp(disch:=omega)only[↓reduceIte,Za,↓X0,X1,Nat.reduceEqDiff,Int.reduceEq,Nat.reduceAdd,Nat.reduceSub,X2,Ze,Nat.reduceLeDiff,Nd.cells,k56]);with_reducible first|done|exact rfl|exact bT|exact bF))|apply Zf|apply Zj|with_reducible apply Zk|simp only[↓X3]|with_reducible apply Zb))
  refine fin _ _ _ (by omega) (by (repeat (first | exact Same.refl _ _ | refine Same.set ?_ (by omega) _))) ?_
  rw [Bool.eq_iff_iff]; simp [NodeOk,nameOk]; try grind
 (repeat(first|((with_reducible first|apply Wp.gs|apply Wp.cs|apply Zc|apply Zg|apply Zd|apply Zi|apply Zn|apply Wp.step);case h=>((try simp(disch:=omega)only[↓reduceIte,Za,↓X0,X1,Nat.reduceEqDiff,Int.reduceEq,Nat.reduceAdd,Nat.reduceSub,X2,Ze,Nat.reduceLeDiff,Nd.cells,k56,e1,e2,e3,e4,e5,e6,e7,e8,e9]);with_reducible first|done|exact rfl|exact bT|exact bF))|apply Zf|apply Zj|with_reducible apply Zk|simp only[↓X3]|with_reducible apply Zb))
 refine fin _ _ _ (by omega) (by (repeat (first | exact Same.refl _ _ | refine Same.set ?_ (by omega) _))) ?_
 simp [NodeOk,e1,e2,e3,e4,e5,e6,e7,e8,e9]
theorem k93 (x:Nd) (hx:x.s.size≤1048576) (m:Int) (hm:0≤m∧m≤1000000000) (H:Hp) (n:Nat):Rt Try.prog 93 [.agg ⟨x.cells⟩,.int .i64 m] H n (.bool (decide (NodeOk x m))):=by
 apply Rt.of
 rw [c93]; unfold S93
 have hw:IntKind.i64.wrap (m - 1)=m - 1:=w64 (by omega)
 obtain ⟨xk,xn,xs,xa,xb⟩:=x
 simp only at hx
 have fin:∀ (b:Bool) (H':Hp) (n':Nat),n≤n'→Same n H H'→b=decide (NodeOk ⟨xk,xn,xs,xa,xb⟩ m)→Wp (some (Value.bool b,H',n')) (fun q=>n≤q.2.2∧Same n H q.2.1∧q.1=.bool (decide (NodeOk ⟨xk,xn,xs,xa,xb⟩ m))):=by
  intro b H' n' h1 h2 h3
  exact Wp.pure ⟨h1,h2,by rw [h3]⟩
 by_cases e1:xk=1
 ·subst e1
  (repeat(first|((with_reducible first|apply Wp.gs|apply Wp.cs|apply Zc|apply Zg|apply Zd|apply Zi|apply Zn|apply Wp.step);case h=>((try simp(disch:=omega)only[↓reduceIte,Za,↓X0,X1,Nat.reduceEqDiff,Int.reduceEq,Nat.reduceAdd,Nat.reduceSub,X2,Ze,Nat.reduceLeDiff,Nd.cells,k61,hw]);with_reducible first|done|exact rfl|exact bT|exact bF))|apply Zf|apply Zj|with_reducible apply Zk|simp only[↓X3]|with_reducible apply Zb))
  refine fin _ _ _ (by omega) (by (repeat (first | exact Same.refl _ _ | refine Same.set ?_ (by omega) _))) ?_
  rw [Bool.eq_iff_iff]; simp [NodeOk,nameOk]; try grind
 by_cases e2:xk=2
 ·subst e2
  by_cases c0:0≤xn∧xn≤1
  case neg =>
   (repeat(first|((with_reducible first|apply Wp.gs|apply Wp.cs|apply Zc|apply Zg|apply Zd|apply Zi|apply Zn|apply Wp.step);case h=>((try simp(disch:=omega)only[↓reduceIte,Za,↓X0,X1,Nat.reduceEqDiff,Int.reduceEq,Nat.reduceAdd,Nat.reduceSub,X2,Ze,Nat.reduceLeDiff,Nd.cells,k61,hw,c0]);with_reducible first|done|exact rfl|exact bT|exact bF))|apply Zf|apply Zj|with_reducible apply Zk|simp only[↓X3]|with_reducible apply Zb))
   refine fin _ _ _ (by omega) (by (repeat (first | exact Same.refl _ _ | refine Same.set ?_ (by omega) _))) ?_
   rw [Bool.eq_iff_iff]; simp [NodeOk,nameOk]; try grind
  (repeat(first|((with_reducible first|apply Wp.gs|apply Wp.cs|apply Zc|apply Zg|apply Zd|apply Zi|apply Zn|apply Wp.step);case h=>((try simp(disch:=omega)only[↓reduceIte,Za,↓X0,X1,Nat.reduceEqDiff,Int.reduceEq,Nat.reduceAdd,Nat.reduceSub,X2,Ze,Nat.reduceLeDiff,Nd.cells,k61,hw,c0,and_self]);with_reducible first|done|exact rfl|exact bT|exact bF))|apply Zf|apply Zj|with_reducible apply Zk|simp only[↓X3]|with_reducible apply Zb))
  refine fin _ _ _ (by omega) (by (repeat (first | exact Same.refl _ _ | refine Same.set ?_ (by omega) _))) ?_
  rw [Bool.eq_iff_iff]; simp [NodeOk,nameOk]; try grind
 by_cases e3:xk=3
 ·subst e3
  by_cases c0 : -1000000000≤xn∧xn≤1000000000
  case neg =>
   (repeat(first|((with_reducible first|apply Wp.gs|apply Wp.cs|apply Zc|apply Zg|apply Zd|apply Zi|apply Zn|apply Wp.step);case h=>((try simp(disch:=omega)only[↓reduceIte,Za,↓X0,X1,Nat.reduceEqDiff,Int.reduceEq,Nat.reduceAdd,Nat.reduceSub,X2,Ze,Nat.reduceLeDiff,Nd.cells,k61,hw,c0]);with_reducible first|done|exact rfl|exact bT|exact bF))|apply Zf|apply Zj|with_reducible apply Zk|simp only[↓X3]|with_reducible apply Zb))
   refine fin _ _ _ (by omega) (by (repeat (first | exact Same.refl _ _ | refine Same.set ?_ (by omega) _))) ?_
   rw [Bool.eq_iff_iff]; simp [NodeOk,nameOk]; try grind
  (repeat(first|((with_reducible first|apply Wp.gs|apply Wp.cs|apply Zc|apply Zg|apply Zd|apply Zi|apply Zn|apply Wp.step);case h=>((try simp(disch:=omega)only[↓reduceIte,Za,↓X0,X1,Nat.reduceEqDiff,Int.reduceEq,Nat.reduceAdd,Nat.reduceSub,X2,Ze,Nat.reduceLeDiff,Nd.cells,k61,hw,c0,and_self]);with_reducible first|done|exact rfl|exact bT|exact bF))|apply Zf|apply Zj|with_reducible apply Zk|simp only[↓X3]|with_reducible apply Zb))
  refine fin _ _ _ (by omega) (by (repeat (first | exact Same.refl _ _ | refine Same.set ?_ (by omega) _))) ?_
  rw [Bool.eq_iff_iff]; simp [NodeOk,nameOk]; try grind
 by_cases e4:xk=4
 ·subst e4
  obtain ⟨n1,a1,a3⟩:=k60 xs hx (H.set n (some (.row [.int .i64 4,.int .i64 xn,.string xs,.int .i64 xa,.int .i64 xb] 0 true))) (n+8+10+6+10+21)
  by_cases c0:(decide (1≤xs.size∧xs.size≤12) && (Zt xs).all nameByte)=true
  ·rw [c0] at a3
   (repeat(first|((with_reducible first|apply Wp.gs|apply Wp.cs|apply Zc|apply Zg|apply Zd|apply Zi|apply Zn|apply Wp.step);case h=>((try simp(disch:=omega)only[↓reduceIte,Za,↓X0,X1,Nat.reduceEqDiff,Int.reduceEq,Nat.reduceAdd,Nat.reduceSub,X2,Ze,Nat.reduceLeDiff,Nd.cells,k61,hw,a3]);with_reducible first|done|exact rfl|exact bT|exact bF))|apply Zf|apply Zj|with_reducible apply Zk|simp only[↓X3]|with_reducible apply Zb))
   refine fin _ _ _ (by omega) (by (repeat (first | exact Same.refl _ _ | refine Same.set ?_ (by omega) _))) ?_
   rw [Bool.eq_iff_iff]; simp [NodeOk,nameOk] at c0 ⊢; try grind
  ·rw [Bool.not_eq_true] at c0; rw [c0] at a3
   (repeat(first|((with_reducible first|apply Wp.gs|apply Wp.cs|apply Zc|apply Zg|apply Zd|apply Zi|apply Zn|apply Wp.step);case h=>((try simp(disch:=omega)only[↓reduceIte,Za,↓X0,X1,Nat.reduceEqDiff,Int.reduceEq,Nat.reduceAdd,Nat.reduceSub,X2,Ze,Nat.reduceLeDiff,Nd.cells,k61,hw,a3]);with_reducible first|done|exact rfl|exact bT|exact bF))|apply Zf|apply Zj|with_reducible apply Zk|simp only[↓X3]|with_reducible apply Zb))
   refine fin _ _ _ (by omega) (by (repeat (first | exact Same.refl _ _ | refine Same.set ?_ (by omega) _))) ?_
   simp only [NodeOk,nameOk,c0]; simp
 by_cases e5:xk=5
 ·subst e5
  by_cases c0:(0≤xa∧xa≤m - 1)∧(0≤xb∧xb≤m - 1)
  case neg =>
   (repeat(first|((with_reducible first|apply Wp.gs|apply Wp.cs|apply Zc|apply Zg|apply Zd|apply Zi|apply Zn|apply Wp.step);case h=>((try simp(disch:=omega)only[↓reduceIte,Za,↓X0,X1,Nat.reduceEqDiff,Int.reduceEq,Nat.reduceAdd,Nat.reduceSub,X2,Ze,Nat.reduceLeDiff,Nd.cells,k61,hw,show (decide (0≤xa∧xa≤m - 1) && decide (0≤xb∧xb≤m - 1))=false by simp only [← Bool.decide_and]; exact decide_eq_false c0]);with_reducible first|done|exact rfl|exact bT|exact bF))|apply Zf|apply Zj|with_reducible apply Zk|simp only[↓X3]|with_reducible apply Zb))
   refine fin _ _ _ (by omega) (by (repeat (first | exact Same.refl _ _ | refine Same.set ?_ (by omega) _))) ?_
   rw [Bool.eq_iff_iff]; simp [NodeOk,nameOk]; try grind
  by_cases c1:xn=0
  case neg =>
   (repeat(first|((with_reducible first|apply Wp.gs|apply Wp.cs|apply Zc|apply Zg|apply Zd|apply Zi|apply Zn|apply Wp.step);case h=>((try simp(disch:=omega)only[↓reduceIte,Za,↓X0,X1,Nat.reduceEqDiff,Int.reduceEq,Nat.reduceAdd,Nat.reduceSub,X2,Ze,Nat.reduceLeDiff,Nd.cells,k61,hw,c0.1,c0.2,and_self,c1]);with_reducible first|done|exact rfl|exact bT|exact bF))|apply Zf|apply Zj|with_reducible apply Zk|simp only[↓X3]|with_reducible apply Zb))
   refine fin _ _ _ (by omega) (by (repeat (first | exact Same.refl _ _ | refine Same.set ?_ (by omega) _))) ?_
   rw [Bool.eq_iff_iff]; simp [NodeOk,nameOk]; try grind
  (repeat(first|((with_reducible first|apply Wp.gs|apply Wp.cs|apply Zc|apply Zg|apply Zd|apply Zi|apply Zn|apply Wp.step);case h=>((try simp(disch:=omega)only[↓reduceIte,Za,↓X0,X1,Nat.reduceEqDiff,Int.reduceEq,Nat.reduceAdd,Nat.reduceSub,X2,Ze,Nat.reduceLeDiff,Nd.cells,k61,hw,c0.1,c0.2,and_self,c1,and_self]);with_reducible first|done|exact rfl|exact bT|exact bF))|apply Zf|apply Zj|with_reducible apply Zk|simp only[↓X3]|with_reducible apply Zb))
  refine fin _ _ _ (by omega) (by (repeat (first | exact Same.refl _ _ | refine Same.set ?_ (by omega) _))) ?_
  rw [Bool.eq_iff_iff]; simp [NodeOk,nameOk]; try grind
 by_cases e6:xk=6
 ·subst e6
  by_cases c0:0≤xa∧xa≤m - 1
  case neg =>
   (repeat(first|((with_reducible first|apply Wp.gs|apply Wp.cs|apply Zc|apply Zg|apply Zd|apply Zi|apply Zn|apply Wp.step);case h=>((try simp(disch:=omega)only[↓reduceIte,Za,↓X0,X1,Nat.reduceEqDiff,Int.reduceEq,Nat.reduceAdd,Nat.reduceSub,X2,Ze,Nat.reduceLeDiff,Nd.cells,k61,hw,c0]);with_reducible first|done|exact rfl|exact bT|exact bF))|apply Zf|apply Zj|with_reducible apply Zk|simp only[↓X3]|with_reducible apply Zb))
   refine fin _ _ _ (by omega) (by (repeat (first | exact Same.refl _ _ | refine Same.set ?_ (by omega) _))) ?_
   rw [Bool.eq_iff_iff]; simp [NodeOk,nameOk]; try grind
  by_cases c1:0≤xn∧xn≤1000000000
  case neg =>
   (repeat(first|((with_reducible first|apply Wp.gs|apply Wp.cs|apply Zc|apply Zg|apply Zd|apply Zi|apply Zn|apply Wp.step);case h=>((try simp(disch:=omega)only[↓reduceIte,Za,↓X0,X1,Nat.reduceEqDiff,Int.reduceEq,Nat.reduceAdd,Nat.reduceSub,X2,Ze,Nat.reduceLeDiff,Nd.cells,k61,hw,c0,and_self,c1]);with_reducible first|done|exact rfl|exact bT|exact bF))|apply Zf|apply Zj|with_reducible apply Zk|simp only[↓X3]|with_reducible apply Zb))
   refine fin _ _ _ (by omega) (by (repeat (first | exact Same.refl _ _ | refine Same.set ?_ (by omega) _))) ?_
   rw [Bool.eq_iff_iff]; simp [NodeOk,nameOk]; try grind
  by_cases c2:xb=0
  case neg =>
   (repeat(first|((with_reducible first|apply Wp.gs|apply Wp.cs|apply Zc|apply Zg|apply Zd|apply Zi|apply Zn|apply Wp.step);case h=>((try simp(disch:=omega)only[↓reduceIte,Za,↓X0,X1,Nat.reduceEqDiff,Int.reduceEq,Nat.reduceAdd,Nat.reduceSub,X2,Ze,Nat.reduceLeDiff,Nd.cells,k61,hw,c0,and_self,c1,and_self,c2]);with_reducible first|done|exact rfl|exact bT|exact bF))|apply Zf|apply Zj|with_reducible apply Zk|simp only[↓X3]|with_reducible apply Zb))
   refine fin _ _ _ (by omega) (by (repeat (first | exact Same.refl _ _ | refine Same.set ?_ (by omega) _))) ?_
   rw [Bool.eq_iff_iff]; simp [NodeOk,nameOk]; try grind
  (repeat(first|((with_reducible first|apply Wp.gs|apply Wp.cs|apply Zc|apply Zg|apply Zd|apply Zi|apply Zn|apply Wp.step);case h=>((try simp(disch:=omega)only[↓reduceIte,Za,↓X0,X1,Nat.reduceEqDiff,Int.reduceEq,Nat.reduceAdd,Nat.reduceSub,X2,Ze,Nat.reduceLeDiff,Nd.cells,k61,hw,c0,and_self,c1,and_self,c2,and_self]);with_reducible first|done|exact rfl|exact bT|exact bF))|apply Zf|apply Zj|with_reducible apply Zk|simp only[↓X3]|with_reducible apply Zb))
  refine fin _ _ _ (by omega) (by (repeat (first | exact Same.refl _ _ | refine Same.set ?_ (by omega) _))) ?_
  rw [Bool.eq_iff_iff]; simp [NodeOk,nameOk]; try grind
 by_cases e7:xk=7
 ·subst e7
  by_cases c0:0≤xa∧xa≤m - 1
  case neg =>
   (repeat(first|((with_reducible first|apply Wp.gs|apply Wp.cs|apply Zc|apply Zg|apply Zd|apply Zi|apply Zn|apply Wp.step);case h=>((try simp(disch:=omega)only[↓reduceIte,Za,↓X0,X1,Nat.reduceEqDiff,Int.reduceEq,Nat.reduceAdd,Nat.reduceSub,X2,Ze,Nat.reduceLeDiff,Nd.cells,k61,hw,c0]);with_reducible first|done|exact rfl|exact bT|exact bF))|apply Zf|apply Zj|with_reducible apply Zk|simp only[↓X3]|with_reducible apply Zb))
   refine fin _ _ _ (by omega) (by (repeat (first | exact Same.refl _ _ | refine Same.set ?_ (by omega) _))) ?_
   rw [Bool.eq_iff_iff]; simp [NodeOk,nameOk]; try grind
  by_cases c1:xn=0
  case neg =>
   (repeat(first|((with_reducible first|apply Wp.gs|apply Wp.cs|apply Zc|apply Zg|apply Zd|apply Zi|apply Zn|apply Wp.step);case h=>((try simp(disch:=omega)only[↓reduceIte,Za,↓X0,X1,Nat.reduceEqDiff,Int.reduceEq,Nat.reduceAdd,Nat.reduceSub,X2,Ze,Nat.reduceLeDiff,Nd.cells,k61,hw,c0,and_self,c1]);with_reducible first|done|exact rfl|exact bT|exact bF))|apply Zf|apply Zj|with_reducible apply Zk|simp only[↓X3]|with_reducible apply Zb))
   refine fin _ _ _ (by omega) (by (repeat (first | exact Same.refl _ _ | refine Same.set ?_ (by omega) _))) ?_
   rw [Bool.eq_iff_iff]; simp [NodeOk,nameOk]; try grind
  by_cases c2:xb=0
  case neg =>
   (repeat(first|((with_reducible first|apply Wp.gs|apply Wp.cs|apply Zc|apply Zg|apply Zd|apply Zi|apply Zn|apply Wp.step);case h=>((try simp(disch:=omega)only[↓reduceIte,Za,↓X0,X1,Nat.reduceEqDiff,Int.reduceEq,Nat.reduceAdd,Nat.reduceSub,X2,Ze,Nat.reduceLeDiff,Nd.cells,k61,hw,c0,and_self,c1,and_self,c2]);with_reducible first|done|exact rfl|exact bT|exact bF))|apply Zf|apply Zj|with_reducible apply Zk|simp only[↓X3]|with_reducible apply Zb))
   refine fin _ _ _ (by omega) (by (repeat (first | exact Same.refl _ _ | refine Same.set ?_ (by omega) _))) ?_
   rw [Bool.eq_iff_iff]; simp [NodeOk,nameOk]; try grind
  (repeat(first|((with_reducible first|apply Wp.gs|apply Wp.cs|apply Zc|apply Zg|apply Zd|apply Zi|apply Zn|apply Wp.step);case h=>((try simp(disch:=omega)only[↓reduceIte,Za,↓X0,X1,Nat.reduceEqDiff,Int.reduceEq,Nat.reduceAdd,Nat.reduceSub,X2,Ze,Nat.reduceLeDiff,Nd.cells,k61,hw,c0,and_self,c1,and_self,c2,and_self]);with_reducible first|done|exact rfl|exact bT|exact bF))|apply Zf|apply Zj|with_reducible apply Zk|simp only[↓X3]|with_reducible apply Zb))
  refine fin _ _ _ (by omega) (by (repeat (first | exact Same.refl _ _ | refine Same.set ?_ (by omega) _))) ?_
  rw [Bool.eq_iff_iff]; simp [NodeOk,nameOk]; try grind
 by_cases e8:xk=8
 ·subst e8
  by_cases c0:0≤xn∧xn≤99
  case neg =>
   (repeat(first|((with_reducible first|apply Wp.gs|apply Wp.cs|apply Zc|apply Zg|apply Zd|apply Zi|apply Zn|apply Wp.step);case h=>((try simp(disch:=omega)only[↓reduceIte,Za,↓X0,X1,Nat.reduceEqDiff,Int.reduceEq,Nat.reduceAdd,Nat.reduceSub,X2,Ze,Nat.reduceLeDiff,Nd.cells,k61,hw,c0]);with_reducible first|done|exact rfl|exact bT|exact bF))|apply Zf|apply Zj|with_reducible apply Zk|simp only[↓X3]|with_reducible apply Zb))
   refine fin _ _ _ (by omega) (by (repeat (first | exact Same.refl _ _ | refine Same.set ?_ (by omega) _))) ?_
   rw [Bool.eq_iff_iff]; simp [NodeOk,nameOk]; try grind
  (repeat(first|((with_reducible first|apply Wp.gs|apply Wp.cs|apply Zc|apply Zg|apply Zd|apply Zi|apply Zn|apply Wp.step);case h=>((try simp(disch:=omega)only[↓reduceIte,Za,↓X0,X1,Nat.reduceEqDiff,Int.reduceEq,Nat.reduceAdd,Nat.reduceSub,X2,Ze,Nat.reduceLeDiff,Nd.cells,k61,hw,c0,and_self]);with_reducible first|done|exact rfl|exact bT|exact bF))|apply Zf|apply Zj|with_reducible apply Zk|simp only[↓X3]|with_reducible apply Zb))
  refine fin _ _ _ (by omega) (by (repeat (first | exact Same.refl _ _ | refine Same.set ?_ (by omega) _))) ?_
  rw [Bool.eq_iff_iff]; simp [NodeOk,nameOk]; try grind
 by_cases e9:xk=9
 ·subst e9
  by_cases c0:0≤xn∧xn≤1000000000
  case neg =>
   (repeat(first|((with_reducible first|apply Wp.gs|apply Wp.cs|apply Zc|apply Zg|apply Zd|apply Zi|apply Zn|apply Wp.step);case h=>((try simp(disch:=omega)only[↓reduceIte,Za,↓X0,X1,Nat.reduceEqDiff,Int.reduceEq,Nat.reduceAdd,Nat.reduceSub,X2,Ze,Nat.reduceLeDiff,Nd.cells,k61,hw,c0]);with_reducible first|done|exact rfl|exact bT|exact bF))|apply Zf|apply Zj|with_reducible apply Zk|simp only[↓X3]|with_reducible apply Zb))
   refine fin _ _ _ (by omega) (by (repeat (first | exact Same.refl _ _ | refine Same.set ?_ (by omega) _))) ?_
   rw [Bool.eq_iff_iff]; simp [NodeOk,nameOk]; try grind
  (repeat(first|((with_reducible first|apply Wp.gs|apply Wp.cs|apply Zc|apply Zg|apply Zd|apply Zi|apply Zn|apply Wp.step);case h=>((try simp(disch:=omega)only[↓reduceIte,Za,↓X0,X1,Nat.reduceEqDiff,Int.reduceEq,Nat.reduceAdd,Nat.reduceSub,X2,Ze,Nat.reduceLeDiff,Nd.cells,k61,hw,c0,and_self]);with_reducible first|done|exact rfl|exact bT|exact bF))|apply Zf|apply Zj|with_reducible apply Zk|simp only[↓X3]|with_reducible apply Zb))
  refine fin _ _ _ (by omega) (by (repeat (first | exact Same.refl _ _ | refine Same.set ?_ (by omega) _))) ?_
  rw [Bool.eq_iff_iff]; simp [NodeOk,nameOk]; try grind
 (repeat(first|((with_reducible first|apply Wp.gs|apply Wp.cs|apply Zc|apply Zg|apply Zd|apply Zi|apply Zn|apply Wp.step);case h=>((try simp(disch:=omega)only[↓reduceIte,Za,↓X0,X1,Nat.reduceEqDiff,Int.reduceEq,Nat.reduceAdd,Nat.reduceSub,X2,Ze,Nat.reduceLeDiff,Nd.cells,k61,hw,e1,e2,e3,e4,e5,e6,e7,e8,e9]);with_reducible first|done|exact rfl|exact bT|exact bF))|apply Zf|apply Zj|with_reducible apply Zk|simp only[↓X3]|with_reducible apply Zb))
 refine fin _ _ _ (by omega) (by (repeat (first | exact Same.refl _ _ | refine Same.set ?_ (by omega) _))) ?_
 simp [NodeOk,e1,e2,e3,e4,e5,e6,e7,e8,e9]
def NodesOk:List Nd→Nat→Prop
 | [],_=>True
 | x :: l,i=>NodeOk x i∧NodesOk l (i+1)
instance:∀ (l:List Nd) (i:Nat),Decidable (NodesOk l i)
 | [],_=>isTrue trivial
 | x :: l,i=>@instDecidableAnd _ _ _ (instDecidableNodesOk l (i+1))
def PoolOk (l:List Nd):Prop:=NodesOk l 0∧l.length≤3000
instance (l:List Nd):Decidable (PoolOk l):=by unfold PoolOk; infer_instance
theorem NodesOk_app:∀ (l m:List Nd) (i:Nat),NodesOk (l++m) i↔NodesOk l i∧NodesOk m (i+l.length)
 | [],m,i=>by simp [NodesOk]
 | x :: l,m,i=>by
  rw [List.cons_append,NodesOk,NodesOk,NodesOk_app l m (i+1),List.length_cons,and_assoc,show i+1+l.length=i+(l.length+1) by omega]
theorem l42 {n0:Nat} {H0:Hp} {v:Value} {l:List Nd} (hv:Li eNode n0 H0 v l) (hs:∀ x∈l,x.s.size≤1048576) (hl:l.length≤1048576):∀ t H n,n0≤n→Same n0 H0 H→t 6=v→t 7=.int .i64 l.length→t 8=.int .i64 0 →
  Wp (Yf (S42L0 (Call Try.prog) Yf) t H n) (fun o=>n≤o.n∧Same n H o.H∧((o.e=.exit 0∧o.t 1=t 1∧NodesOk l 0)∨(o.e=.ret∧o.t 2=.bool false∧¬ NodesOk l 0))):=by
 intro t H n hn0 hsm0 e6 e7 e8
 refine Loop_rule (fun d T H' n'=>∃ (j:Nat),j+d=l.length∧n≤n'∧Same n H H'∧T 1=t 1∧T 6=v∧T 7=.int .i64 l.length∧T 8=.int .i64 j∧NodesOk (l.take j) 0) _ ?_ l.length t H n ⟨0,by omega,by omega,Same.refl _ _,rfl,e6,e7,e8,by simp [NodesOk]⟩
 rintro d T H' n' ⟨j,hj,hn,hsm,e1,e6,e7,e8,hok⟩
 unfold S42L0
 have hv':=hv.keep (hsm0.trans hsm hn0) (Nat.le_refl _)
 by_cases hlt:(j:Int) < l.length
 ·have hlt':j < l.length:=by omega
  have g:=hv'.nAll (by omega) hlt
  have hw:=wj (j:=j) (len:=l.length) hlt' (by omega)
  obtain ⟨H1,n1,a1,a2,a3⟩:=k86 (gi l (j:Int)) (hs _ (gi_mem (by omega) hlt)) (j:Int) (by omega) (H'.set (n'+4) (some (.row (gi l (j:Int)).cells 0 true))) (n'+11)
  have s2:Same n H H1:=(hsm.set (show n≤n'+4 by omega) _).trans (a2.less (show n≤n'+11 by omega)) (Nat.le_refl _)
  have hz:setAt [Value.int .i64 0,.int .i64 0,.string ⟨#[]⟩,.int .i64 0,.int .i64 0] 0 (gi l (j:Int)).cells=(gi l (j:Int)).cells:=rfl
  have hc:(gi l (j:Int)).cells.length=5:=rfl
  have hd:(List.take 5 (List.drop 0 (gi l (j:Int)).cells))=(gi l (j:Int)).cells:=rfl
  have hnx:NodesOk (l.take (j+1)) 0↔NodesOk (l.take j) 0∧NodeOk (gi l (j:Int)) (j:Int):=by
   rw [take_next hlt',NodesOk_app,List.length_take,Nat.min_eq_left (by omega),Nat.zero_add,gi_nat hlt']
   simp [NodesOk]
  by_cases h:NodeOk (gi l (j:Int)) (j:Int)
  ·rw [decide_eq_true h] at a3
   (repeat(first|((with_reducible first|apply Wp.gs|apply Wp.cs|apply Zc|apply Zg|apply Zd|apply Zi|apply Zn|apply Wp.step);case h=>((try simp(disch:=omega)only[↓reduceIte,Za,↓X0,X1,Nat.reduceEqDiff,Int.reduceEq,Nat.reduceAdd,Nat.reduceSub,e6,e7,e8,hlt,g,hw,st_agg,stv_set,hc,hz,ldA_set,hd,a3,Nat.reduceLeDiff,Hp_set_set,List.length_cons,List.length_nil]);with_reducible first|done|exact rfl|exact bT|exact bF))|apply Zf|apply Zj|with_reducible apply Zk|simp only[↓X3]|with_reducible apply Zb))
   exact Wp.pure (Nxt.go (d - 1) (by omega) ⟨j+1,by omega,by omega,s2,by simp [Zl,e1],by simp [Zl,e6],by simp [Zl,e7],by simp [Zl],hnx.2 ⟨hok,h⟩⟩)
  ·rw [decide_eq_false h] at a3
   (repeat(first|((with_reducible first|apply Wp.gs|apply Wp.cs|apply Zc|apply Zg|apply Zd|apply Zi|apply Zn|apply Wp.step);case h=>((try simp(disch:=omega)only[↓reduceIte,Za,↓X0,X1,Nat.reduceEqDiff,Int.reduceEq,Nat.reduceAdd,Nat.reduceSub,e6,e7,e8,hlt,g,hw,st_agg,stv_set,hc,hz,ldA_set,hd,a3,Nat.reduceLeDiff,Hp_set_set,List.length_cons,List.length_nil]);with_reducible first|done|exact rfl|exact bT|exact bF))|apply Zf|apply Zj|with_reducible apply Zk|simp only[↓X3]|with_reducible apply Zb))
   refine Wp.pure (Nxt.ret ⟨by simp only; omega,s2,.inr ⟨rfl,by simp [Zl],fun hn=>?_⟩⟩)
   have:NodesOk (l.take (j+1)) 0:=by
    rw [← List.take_append_drop (j+1) l,NodesOk_app] at hn
    exact hn.1
   exact h (hnx.1 this).2
 ·((repeat(first|((with_reducible first|apply Wp.gs|apply Wp.cs|apply Zc|apply Zg|apply Zd|apply Zi|apply Zn|apply Wp.step);case h=>((try simp(disch:=omega)only[↓reduceIte,Za,↓X0,X1,Nat.reduceEqDiff,Int.reduceEq,Nat.reduceAdd,Nat.reduceSub,e6,e7,e8,hlt]);with_reducible first|done|exact rfl|exact bT|exact bF))|apply Zf|apply Zj|with_reducible apply Zk|simp only[↓X3]|with_reducible apply Zb));try(with_reducible apply Zm;case h=>((try simp(disch:=omega)only[X1,Nat.reduceEqDiff,e6,e7,e8,hlt]);with_reducible exact rfl)))
  rw [List.take_of_length_le (by omega)] at hok
  exact Wp.pure (Nxt.exit ⟨Nat.le_trans hn (Nat.le_add_right _ _),hsm,.inl ⟨rfl,by simp [Zl,e1],hok⟩⟩)
theorem k42 {n:Nat} {H:Hp} {v:Value} {l:List Nd} (hv:Li eNode n H v l) (hs:∀ x∈l,x.s.size≤1048576) (hl:l.length≤1048576):Rt Try.prog 42 [.agg ⟨[v]⟩] H n (.bool (decide (PoolOk l))):=by
 apply Rt.of
 rw [c42]; unfold S42
 have s1:Same n H (H.set n (some (.row [v] 0 true))):=by (repeat (first | exact Same.refl _ _ | refine Same.set ?_ (by omega) _))
 (repeat(first|((with_reducible first|apply Wp.gs|apply Wp.cs|apply Zc|apply Zg|apply Zd|apply Zi|apply Zn|apply Wp.step);case h=>((try simp(disch:=omega)only[↓reduceIte,Za,↓X0,X1,Nat.reduceEqDiff,Int.reduceEq,Nat.reduceAdd,Nat.reduceSub,X2,Ze,Nat.reduceLeDiff,hv.len]);with_reducible first|done|exact rfl|exact bT|exact bF))|apply Zf|apply Zj|with_reducible apply Zk|simp only[↓X3]|with_reducible apply Zb))
 refine Wp.bind (l42 (n0:=n) (hv.keep s1 (Nat.le_refl _)) hs hl _ _ _ (by omega) (Same.refl _ _) (by simp [Zl]) (by simp [Zl]) (by simp [Zl])) ?_
 rintro ⟨oe,ot,oH,on⟩ ⟨f2,f3,f4⟩
 simp only at f2 f3 f4
 have hb:oH n=some (.row [v] 0 true):=by rw [f3 n (by omega)]; exact Zh _ _ _
 rcases f4 with ⟨rfl,f4,f5⟩ | ⟨rfl,f4,f5⟩
 ·have f4:ot 1=ptr n 0:=by rw [f4]; simp [Zl]
  (repeat(first|((with_reducible first|apply Wp.gs|apply Wp.cs|apply Zc|apply Zg|apply Zd|apply Zi|apply Zn|apply Wp.step);case h=>((try simp(disch:=omega)only[↓reduceIte,Za,↓X0,X1,Nat.reduceEqDiff,Int.reduceEq,Nat.reduceAdd,Nat.reduceSub,outOf,f4,ld_r,hb,rowGet_row,hv.len]);with_reducible first|done|exact rfl|exact bT|exact bF))|apply Zf|apply Zj|with_reducible apply Zk|simp only[↓X3]|with_reducible apply Zb))
  refine Wp.pure ⟨by simp only; omega,s1.trans (f3.less (by omega)) (Nat.le_refl _),?_⟩
  have:decide (PoolOk l)=decide ((l.length:Int)≤3000):=by
   by_cases hc:(l.length:Int)≤3000
   ·rw [decide_eq_true hc]; exact decide_eq_true ⟨f5,by omega⟩
   ·rw [decide_eq_false hc]; exact decide_eq_false fun h=>hc (by have:=h.2; omega)
  rw [this]
 ·(repeat(first|((with_reducible first|apply Wp.gs|apply Wp.cs|apply Zc|apply Zg|apply Zd|apply Zi|apply Zn|apply Wp.step);case h=>((try simp(disch:=omega)only[↓reduceIte,Za,↓X0,X1,Nat.reduceEqDiff,Int.reduceEq,Nat.reduceAdd,Nat.reduceSub,f4]);with_reducible first|done|exact rfl|exact bT|exact bF))|apply Zf|apply Zj|with_reducible apply Zk|simp only[↓X3]|with_reducible apply Zb))
  exact Wp.pure ⟨by simp only; omega,s1.trans (f3.less (by omega)) (Nat.le_refl _),by show ot 2=_; rw [f4,decide_eq_false fun h=>f5 h.1]⟩
theorem l48 {n0 b:Nat} {H0:Hp} {v:Value} {l:List Nd} (hv:Li eNode n0 H0 v l) (hs:∀ x∈l,x.s.size≤1048576) (hl:l.length≤1048576):∀ t H n,n0≤n→Same n0 H0 H→b < n→H b=some (.row [v] 0 true)→t 1=ptr b 0→t 3=.int .i64 0 →
  Wp (Yf (S48L0 (Call Try.prog) Yf) t H n) (fun o=>n≤o.n∧Same n H o.H∧((o.e=.exit 0∧o.t 1=ptr b 0∧NodesOk l 0)∨(o.e=.ret∧o.t 2=.bool false∧¬ NodesOk l 0))):=by
 intro t H n hn0 hsm0 hb hH e1 e3
 refine Loop_rule (fun d T H' n'=>∃ (j:Nat),j+d=l.length∧n≤n'∧Same n H H'∧T 1=ptr b 0∧T 3=.int .i64 j∧NodesOk (l.take j) 0) _ ?_ l.length t H n ⟨0,by omega,by omega,Same.refl _ _,e1,e3,by simp [NodesOk]⟩
 rintro d T H' n' ⟨j,hj,hn,hsm,e1,e3,hok⟩
 unfold S48L0
 have hv':=hv.keep (hsm0.trans hsm hn0) (Nat.le_refl _)
 have hb':H' b=some (.row [v] 0 true):=by rw [hsm b hb]; exact hH
 by_cases hlt:(j:Int) < l.length
 ·have hlt':j < l.length:=by omega
  have g:=hv'.nAll (by omega) hlt
  have hw:=wj (j:=j) (len:=l.length) hlt' (by omega)
  obtain ⟨H1,n1,a1,a2,a3⟩:=k93 (gi l (j:Int)) (hs _ (gi_mem (by omega) hlt)) (j:Int) (by omega) H' (n'+13)
  have s2:Same n H H1:=hsm.trans (a2.less (show n≤n'+13 by omega)) (Nat.le_refl _)
  have hnx:NodesOk (l.take (j+1)) 0↔NodesOk (l.take j) 0∧NodeOk (gi l (j:Int)) (j:Int):=by
   rw [take_next hlt',NodesOk_app,List.length_take,Nat.min_eq_left (by omega),Nat.zero_add,gi_nat hlt']
   simp [NodesOk]
  by_cases h:NodeOk (gi l (j:Int)) (j:Int)
  ·rw [decide_eq_true h] at a3
   (repeat(first|((with_reducible first|apply Wp.gs|apply Wp.cs|apply Zc|apply Zg|apply Zd|apply Zi|apply Zn|apply Wp.step);case h=>((try simp(disch:=omega)only[↓reduceIte,Za,↓X0,X1,Nat.reduceEqDiff,Int.reduceEq,Nat.reduceAdd,Nat.reduceSub,e1,e3,ld_r,hb',rowGet_row,hv'.len,hlt,g,hw,a3]);with_reducible first|done|exact rfl|exact bT|exact bF))|apply Zf|apply Zj|with_reducible apply Zk|simp only[↓X3]|with_reducible apply Zb))
   exact Wp.pure (Nxt.go (d - 1) (by omega) ⟨j+1,by omega,by omega,s2,by simp [Zl,e1],by simp [Zl],hnx.2 ⟨hok,h⟩⟩)
  ·rw [decide_eq_false h] at a3
   (repeat(first|((with_reducible first|apply Wp.gs|apply Wp.cs|apply Zc|apply Zg|apply Zd|apply Zi|apply Zn|apply Wp.step);case h=>((try simp(disch:=omega)only[↓reduceIte,Za,↓X0,X1,Nat.reduceEqDiff,Int.reduceEq,Nat.reduceAdd,Nat.reduceSub,e1,e3,ld_r,hb',rowGet_row,hv'.len,hlt,g,hw,a3]);with_reducible first|done|exact rfl|exact bT|exact bF))|apply Zf|apply Zj|with_reducible apply Zk|simp only[↓X3]|with_reducible apply Zb))
   refine Wp.pure (Nxt.ret ⟨by simp only; omega,s2,.inr ⟨rfl,by simp [Zl],fun hn=>?_⟩⟩)
   have:NodesOk (l.take (j+1)) 0:=by
    rw [← List.take_append_drop (j+1) l,NodesOk_app] at hn
    exact hn.1
   exact h (hnx.1 this).2
 ·((repeat(first|((with_reducible first|apply Wp.gs|apply Wp.cs|apply Zc|apply Zg|apply Zd|apply Zi|apply Zn|apply Wp.step);case h=>((try simp(disch:=omega)only[↓reduceIte,Za,↓X0,X1,Nat.reduceEqDiff,Int.reduceEq,Nat.reduceAdd,Nat.reduceSub,e1,e3,ld_r,hb',rowGet_row,hv'.len,hlt]);with_reducible first|done|exact rfl|exact bT|exact bF))|apply Zf|apply Zj|with_reducible apply Zk|simp only[↓X3]|with_reducible apply Zb));try(with_reducible apply Zm;case h=>((try simp(disch:=omega)only[X1,Nat.reduceEqDiff,e1,e3,ld_r,hb',rowGet_row,hv'.len,hlt]);with_reducible exact rfl)))
  rw [List.take_of_length_le (by omega)] at hok
  exact Wp.pure (Nxt.exit ⟨Nat.le_trans hn (Nat.le_add_right _ _),hsm,.inl ⟨rfl,by simp [Zl,e1],hok⟩⟩)
theorem k48 {n:Nat} {H:Hp} {v:Value} {l:List Nd} (hv:Li eNode n H v l) (hs:∀ x∈l,x.s.size≤1048576) (hl:l.length≤1048576):Rt Try.prog 48 [.agg ⟨[v]⟩] H n (.bool (decide (PoolOk l))):=by
 apply Rt.of
 rw [c48]; unfold S48
 have s1:Same n H (H.set n (some (.row [v] 0 true))):=by (repeat (first | exact Same.refl _ _ | refine Same.set ?_ (by omega) _))
 (repeat(first|((with_reducible first|apply Wp.gs|apply Wp.cs|apply Zc|apply Zg|apply Zd|apply Zi|apply Zn|apply Wp.step);case h=>((try simp(disch:=omega)only[↓reduceIte,Za,↓X0,X1,Nat.reduceEqDiff,Int.reduceEq,Nat.reduceAdd,Nat.reduceSub,X2,Ze,Nat.reduceLeDiff,hv.len]);with_reducible first|done|exact rfl|exact bT|exact bF))|apply Zf|apply Zj|with_reducible apply Zk|simp only[↓X3]|with_reducible apply Zb))
 refine Wp.bind (l48 (n0:=n) (b:=n) (hv.keep s1 (Nat.le_refl _)) hs hl _ _ _ (by omega) (Same.refl _ _) (by omega) (Zh _ _ _) (by simp [Zl]) (by simp [Zl])) ?_
 rintro ⟨oe,ot,oH,on⟩ ⟨f2,f3,f4⟩
 simp only at f2 f3 f4
 have hb:oH n=some (.row [v] 0 true):=by rw [f3 n (by omega)]; exact Zh _ _ _
 rcases f4 with ⟨rfl,f4,f5⟩ | ⟨rfl,f4,f5⟩
 ·(repeat(first|((with_reducible first|apply Wp.gs|apply Wp.cs|apply Zc|apply Zg|apply Zd|apply Zi|apply Zn|apply Wp.step);case h=>((try simp(disch:=omega)only[↓reduceIte,Za,↓X0,X1,Nat.reduceEqDiff,Int.reduceEq,Nat.reduceAdd,Nat.reduceSub,f4,ld_r,hb,rowGet_row,hv.len]);with_reducible first|done|exact rfl|exact bT|exact bF))|apply Zf|apply Zj|with_reducible apply Zk|simp only[↓X3]|with_reducible apply Zb))
  refine Wp.pure ⟨by simp only; omega,s1.trans (f3.less (by omega)) (Nat.le_refl _),?_⟩
  have:decide (PoolOk l)=decide ((l.length:Int)≤3000):=by
   by_cases hc:(l.length:Int)≤3000
   ·rw [decide_eq_true hc]; exact decide_eq_true ⟨f5,by omega⟩
   ·rw [decide_eq_false hc]; exact decide_eq_false fun h=>hc (by have:=h.2; omega)
  rw [this]
 ·(repeat(first|((with_reducible first|apply Wp.gs|apply Wp.cs|apply Zc|apply Zg|apply Zd|apply Zi|apply Zn|apply Wp.step);case h=>((try simp(disch:=omega)only[↓reduceIte,Za,↓X0,X1,Nat.reduceEqDiff,Int.reduceEq,Nat.reduceAdd,Nat.reduceSub,f4]);with_reducible first|done|exact rfl|exact bT|exact bF))|apply Zf|apply Zj|with_reducible apply Zk|simp only[↓X3]|with_reducible apply Zb))
  exact Wp.pure ⟨by simp only; omega,s1.trans (f3.less (by omega)) (Nat.le_refl _),by show ot 2=_; rw [f4,decide_eq_false fun h=>f5 h.1]⟩
end Go.Proofs.Ytbgkimkbngocjaa.Ax
set_option linter.unusedVariables false
set_option linter.unusedSimpArgs false
namespace Go.Proofs.Ytbgkimkbngocjaa.Ax
open Go
theorem NodesOk_at:∀ {l:List Nd} {i:Nat},NodesOk l i→∀ {j:Nat},j < l.length→NodeOk (gi l (j:Int)) ((i+j:Nat):Int)
 | x :: l,i,h,0,_=>h.1
 | x :: l,i,h,j+1,hj=>by
  have:=NodesOk_at h.2 (j:=j) (by simpa using hj)
  rw [show i+1+j=i+(j+1) by omega] at this
  exact this
theorem PoolOk.at {l:List Nd} (h:PoolOk l) {v:Int} (h0:0≤v) (h1:v < l.length):NodeOk (gi l v) v:=by
 obtain ⟨j,rfl⟩:=Int.eq_ofNat_of_zero_le h0
 have:=NodesOk_at h.1 (j:=j) (by omega)
 rw [Nat.zero_add] at this
 exact this
theorem NodeOk.pair {x:Nd} {m:Int} (h:NodeOk x m) (hk:x.k=5):(0≤x.a∧x.a < m)∧(0≤x.b∧x.b < m):=by
 rcases h with h | h | h | h | h | h | h | h | h <;> (obtain ⟨h1,h2⟩:=h; rw [hk] at h1; try (exact absurd h1 (by decide)))
 omega
theorem NodeOk.one {x:Nd} {m:Int} (h:NodeOk x m) (hk:x.k=6∨x.k=7):0≤x.a∧x.a < m:=by
 rcases h with h | h | h | h | h | h | h | h | h <;> obtain ⟨h1,h2⟩:=h <;> omega
theorem k49 {n:Nat} {H:Hp} {v:Value} {l:List Nd} (hv:Li eNode n H v l) (hl:l.length≤1048576) (i:Int):Rt Try.prog 49 [.agg ⟨[v]⟩,.int .i64 i] H n (.bool (decide (0≤i∧i < l.length))):=by
 apply Rt.of
 rw [c49]; unfold S49
 have hw:IntKind.i64.wrap ((l.length:Int) - 1)=l.length - 1:=w64 (by omega)
 have he:(0≤i∧i≤(l.length:Int) - 1)=(0≤i∧i < (l.length:Int)):=propext (by omega)
 (repeat(first|((with_reducible first|apply Wp.gs|apply Wp.cs|apply Zc|apply Zg|apply Zd|apply Zi|apply Wp.step);case h=>((try simp(disch:=omega)only[↓reduceIte,Za,↓X0,X1,Nat.reduceEqDiff,Int.reduceEq,Nat.reduceAdd,Nat.reduceSub,X2,Ze,Nat.reduceLeDiff,hv.len,hw,k61,he]);with_reducible first|done|exact rfl|exact bT|exact bF))|apply Zf|apply Zj|with_reducible apply Zk|simp only[↓X3]|with_reducible apply Zb))
 exact Wp.pure ⟨by simp only; omega,by (repeat (first | exact Same.refl _ _ | refine Same.set ?_ (by omega) _)),rfl⟩
theorem k45 {n:Nat} {H:Hp} {v:Value} {l:List Nd} (hv:Li eNode n H v l) (hl:l.length≤1048576) (i:Int):Rt Try.prog 45 [.agg ⟨[v]⟩,.int .i64 i] H n (.bool (decide (0≤i∧i < l.length))):=by
 apply Rt.of
 rw [c45]; unfold S45
 have hw:IntKind.i64.wrap ((l.length:Int) - 1)=l.length - 1:=w64 (by omega)
 have he:(0≤i∧i≤(l.length:Int) - 1)=(0≤i∧i < (l.length:Int)):=propext (by omega)
 (repeat(first|((with_reducible first|apply Wp.gs|apply Wp.cs|apply Zc|apply Zg|apply Zd|apply Zi|apply Wp.step);case h=>((try simp(disch:=omega)only[↓reduceIte,Za,↓X0,X1,Nat.reduceEqDiff,Int.reduceEq,Nat.reduceAdd,Nat.reduceSub,X2,Ze,Nat.reduceLeDiff,hv.len,hw,k56,he]);with_reducible first|done|exact rfl|exact bT|exact bF))|apply Zf|apply Zj|with_reducible apply Zk|simp only[↓X3]|with_reducible apply Zb))
 exact Wp.pure ⟨by simp only; omega,by (repeat (first | exact Same.refl _ _ | refine Same.set ?_ (by omega) _)),rfl⟩
theorem k79 (a b:Int) (H:Hp) (n:Nat):Call Try.prog 79 [.int .i64 a,.int .i64 b] H n=some (.int .i64 (if a < b then a else b),H,n+6):=by
 rw [c79]; unfold S79
 by_cases h:a < b
 ·simp(disch:=omega)only[↓reduceIte,Za,↓X0,X1,Nat.reduceEqDiff,Int.reduceEq,Nat.reduceAdd,Nat.reduceSub,h]
 ·simp(disch:=omega)only[↓reduceIte,Za,↓X0,X1,Nat.reduceEqDiff,Int.reduceEq,Nat.reduceAdd,Nat.reduceSub,h]
def szStep (acc:List Int) (x:Nd):Int :=
 let s:=if x.k=5 then 1+gi acc x.a+gi acc x.b else if x.k=6∨x.k=7 then 1+gi acc x.a else 1
 if s < 1000000000 then s else 1000000000
def sizes (l:List Nd):List Int:=l.foldl (fun acc x=>acc++[szStep acc x]) []
def sizeOf (l:List Nd) (v:Int):Int:=if PoolOk l∧0≤v∧v < l.length then gi (sizes l) v else 0
end Go.Proofs.Ytbgkimkbngocjaa.Ax
set_option linter.unusedVariables false
set_option linter.unusedSimpArgs false
namespace Go.Proofs.Ytbgkimkbngocjaa.Ax
open Go
abbrev RtA (P:Program) (f:Nat) (args:List Value) (c id:Nat) (H:Hp) (n:Nat) (R:Value→Hp→Nat→Prop):Prop:=∃ v H' n',n≤n'∧(∀ i,i < n→i≠c→i≠id→H' i=H i)∧Call P f args H n=some (v,H',n')∧R v H' n'
theorem Wp.rta {P:Program} {f:Nat} {args:List Value} {H:Hp} {n c id:Nat} {β:Type} {g:Value × Hp × Nat→Option β} {Q:β→Prop} {R:Value→Hp→Nat→Prop} (h:RtA P f args c id H n R) (k:∀ v H' n',n≤n'→(∀ i,i < n→i≠c→i≠id→H' i=H i)→R v H' n'→Wp (g (v,H',n')) Q):Wp ((Call P f args H n).bind g) Q:=by
 obtain ⟨v,H',n',h1,h2,h3,h4⟩:=h
 rw [h3]; exact k v H' n' h1 h2 h4
theorem RtA.of {P:Program} {f:Nat} {args:List Value} {c id:Nat} {H:Hp} {n:Nat} {R:Value→Hp→Nat→Prop} (h:Wp (Call P f args H n) fun q=>n≤q.2.2∧(∀ i,i < n→i≠c→i≠id→q.2.1 i=H i)∧R q.1 q.2.1 q.2.2):RtA P f args c id H n R:=by
 obtain ⟨⟨v',H',n'⟩,h1,h2,h3,h4⟩:=h
 exact ⟨v',H',n',h2,h3,h1,h4⟩
theorem setAt_set {cs:List Value} {o:Nat} (v:Value) (h:o < cs.length):setAt cs o [v]=cs.set o v:=by
 unfold setAt
 rw [List.set_eq_take_append_cons_drop,if_pos h]
 simp
theorem st_cset {H:Hp} {c o:Nat} {cs:List Value} {e:Nat} {v:Value} (h:H c=some (.row cs e true)) (ho:o < cs.length) (hv:cell1 v=true):st false 1 (ptr c o) v H=some (H.set c (some (.row (cs.set o v) e true))):=by
 rw [st_c hv,stv_box h,setAt_set v ho]
 rw [if_pos (by simp; omega)]
theorem lt_get {cs:List Value} {o:Nat} {v:Value} (h:cs[o]?=some v):o < cs.length:=(List.getElem?_eq_some_iff.1 h).1
structure PC (c o id n:Nat) (H:Hp) (cs:List Value) (e:Nat) (v:Value) (l:List Nd):Prop where
 hc:H c=some (.row cs e true)
 ho:cs[o]?=some v
 at_:At eNode id H v l
 cn:c < n
 idn:id < n
 ne:id≠c
theorem PC.mv {c o id n m:Nat} {H H':Hp} {cs:List Value} {e:Nat} {v:Value} {l:List Nd} (h:PC c o id n H cs e v l) (hm:n≤m) (h1:H' c=H c) (h2:H' id=H id):PC c o id m H' cs e v l :=
 ⟨by rw [h1]; exact h.hc,h.ho,h.at_.mv h2,by have:=h.cn; omega,by have:=h.idn; omega,h.ne⟩
theorem sub1 {m:Nat} (h:m≤9000000000000000000):IntKind.i64.wrap (((m+1:Nat):Int) - 1)=(m:Int):=by rw [w64 (by omega)]; omega
theorem k64 {c o id n:Nat} {H:Hp} {cs:List Value} {e:Nat} {v:Value} {l:List Nd} (h:PC c o id n H cs e v l) (hl:l.length≤10000000) (x:Nd) :
  RtA Try.prog 64 [ptr c o,.agg ⟨x.cells⟩] c id H n (fun r H' n'=>r=.int .i64 l.length∧∃ v' id',n≤id'∧PC c o id' n' H' (cs.set o v') e v' (l++[x])):=by
 apply RtA.of
 rw [c64]; unfold S64
 obtain ⟨hc,ho,hat,hcn,hid,hne⟩:=h
 have hol:=lt_get ho
 ((repeat(first|((with_reducible first|apply Wp.gs|apply Wp.cs|apply Zc|apply Zg|apply Zd|apply Zi|apply Wp.step);case h=>((try simp(disch:=omega)only[↓reduceIte,Za,↓X0,X1,Nat.reduceEqDiff,Int.reduceEq,Nat.reduceAdd,Nat.reduceSub,X2,Ze,Nat.reduceLeDiff,hc,ho,Nd.cells,bsl_n]);with_reducible first|done|exact rfl|exact bT|exact bF))|apply Zf|apply Zj|with_reducible apply Zk|simp only[↓X3]|with_reducible apply Zb));try(with_reducible apply Zm;case h=>((try simp(disch:=omega)only[X1,Nat.reduceEqDiff,hc,ho,Nd.cells,bsl_n]);with_reducible exact rfl)))
 refine Wp.app1 (E:=eNode) x (hat.mv (by intros;first|with_reducible rfl|simp(disch:=omega)only[Ze,Zh])) (by omega) (by decide) (by omega) ?_
 intro H4 r1 r2
 have hc4:H4 c=some (.row cs e true):=by simp (disch:=omega) only [r2,Ze,hc]
 have hst:=st_cset (v:=sl (n+9) 0 (l++[x]).length) hc4 hol rfl
 have hlast:(cs.set o (sl (n+9) 0 (l++[x]).length))[o]?=some (sl (n+9) 0 (l++[x]).length):=by rw [List.getElem?_set_self hol]
 have hw:IntKind.i64.wrap (((l++[x]).length:Int) - 1)=(l.length:Int):=by rw [List.length_append]; exact sub1 (by omega)
 (repeat(first|((with_reducible first|apply Wp.gs|apply Wp.cs|apply Zc|apply Zg|apply Zd|apply Zi|apply Wp.step);case h=>((try simp(disch:=omega)only[↓reduceIte,Za,↓X0,X1,Nat.reduceEqDiff,Int.reduceEq,Nat.reduceAdd,Nat.reduceSub,hst,ld_r,Zh,rowGet_row,hlast,hw]);with_reducible first|done|exact rfl|exact bT|exact bF))|apply Zf|apply Zj|with_reducible apply Zk|simp only[↓X3]|with_reducible apply Zb))
 refine Wp.pure ⟨by simp only; omega,?_,rfl,_,n+9,by omega,Zh _ _ _,hlast,.inr ⟨rfl,?_⟩,by simp only; omega,by simp only; omega,by omega⟩
 ·intro i hi h1 h2; simp (disch:=omega) only [Ze,r2]
 ·exact (Ze _ _ (by omega)).trans r1
theorem k41 {c o id n:Nat} {H:Hp} {cs:List Value} {e:Nat} {v:Value} {l:List Nd} (h:PC c o id n H cs e v l) (hl:l.length≤10000000) (x:Nd) :
  RtA Try.prog 41 [ptr c o,.agg ⟨x.cells⟩] c id H n (fun r H' n'=>r=.int .i64 l.length∧∃ v' id',n≤id'∧PC c o id' n' H' (cs.set o v') e v' (l++[x])):=by
 apply RtA.of
 rw [c41]; unfold S41
 obtain ⟨hc,ho,hat,hcn,hid,hne⟩:=h
 have hol:=lt_get ho
 ((repeat(first|((with_reducible first|apply Wp.gs|apply Wp.cs|apply Zc|apply Zg|apply Zd|apply Zi|apply Wp.step);case h=>((try simp(disch:=omega)only[↓reduceIte,Za,↓X0,X1,Nat.reduceEqDiff,Int.reduceEq,Nat.reduceAdd,Nat.reduceSub,X2,Ze,Nat.reduceLeDiff,hc,ho,Nd.cells,bsl_n]);with_reducible first|done|exact rfl|exact bT|exact bF))|apply Zf|apply Zj|with_reducible apply Zk|simp only[↓X3]|with_reducible apply Zb));try(with_reducible apply Zm;case h=>((try simp(disch:=omega)only[X1,Nat.reduceEqDiff,hc,ho,Nd.cells,bsl_n]);with_reducible exact rfl)))
 refine Wp.app1 (E:=eNode) x (hat.mv (by intros;first|with_reducible rfl|simp(disch:=omega)only[Ze,Zh])) (by omega) (by decide) (by omega) ?_
 intro H4 r1 r2
 have hc4:H4 c=some (.row cs e true):=by simp (disch:=omega) only [r2,Ze,hc]
 have hst:=st_cset (v:=sl (n+9) 0 (l++[x]).length) hc4 hol rfl
 have hlast:(cs.set o (sl (n+9) 0 (l++[x]).length))[o]?=some (sl (n+9) 0 (l++[x]).length):=by rw [List.getElem?_set_self hol]
 have hw:IntKind.i64.wrap (((l++[x]).length:Int) - 1)=(l.length:Int):=by rw [List.length_append]; exact sub1 (by omega)
 (repeat(first|((with_reducible first|apply Wp.gs|apply Wp.cs|apply Zc|apply Zg|apply Zd|apply Zi|apply Wp.step);case h=>((try simp(disch:=omega)only[↓reduceIte,Za,↓X0,X1,Nat.reduceEqDiff,Int.reduceEq,Nat.reduceAdd,Nat.reduceSub,hst,ld_r,Zh,rowGet_row,hlast,hw]);with_reducible first|done|exact rfl|exact bT|exact bF))|apply Zf|apply Zj|with_reducible apply Zk|simp only[↓X3]|with_reducible apply Zb))
 refine Wp.pure ⟨by simp only; omega,?_,rfl,_,n+9,by omega,Zh _ _ _,hlast,.inr ⟨rfl,?_⟩,by simp only; omega,by simp only; omega,by omega⟩
 ·intro i hi h1 h2; simp (disch:=omega) only [Ze,r2]
 ·exact (Ze _ _ (by omega)).trans r1
theorem k65 {c o id n:Nat} {H:Hp} {cs:List Value} {e:Nat} {v:Value} {l:List Nd} (h:PC c o id n H cs e v l) (hl:l.length≤10000000) (a b:Int) :
  RtA Try.prog 65 [ptr c o,.int .i64 a,.int .i64 b] c id H n (fun r H' n'=>r=.int .i64 l.length∧∃ v' id',n≤id'∧PC c o id' n' H' (cs.set o v') e v' (l++[⟨5,0,⟨#[]⟩,a,b⟩])):=by
 apply RtA.of
 rw [c65]; unfold S65
 ((repeat(first|((with_reducible first|apply Wp.gs|apply Wp.cs|apply Zc|apply Zg|apply Zd|apply Zi|apply Wp.step);case h=>((try simp(disch:=omega)only[↓reduceIte,Za,↓X0,X1,Nat.reduceEqDiff,Int.reduceEq,Nat.reduceAdd,Nat.reduceSub,X2,Ze,Nat.reduceLeDiff]);with_reducible first|done|exact rfl|exact bT|exact bF))|apply Zf|apply Zj|with_reducible apply Zk|simp only[↓X3]|with_reducible apply Zb));try(with_reducible apply Zm;case h=>((try simp(disch:=omega)only[X1,Nat.reduceEqDiff]);with_reducible exact rfl)))
 refine Wp.rta (k64 (h.mv (by omega) rfl rfl) hl ⟨5,0,⟨#[]⟩,a,b⟩) ?_
 rintro _ H1 n1 q1 s1 ⟨rfl,v',id',i1,i2⟩
 (repeat(first|((with_reducible first|apply Wp.gs|apply Wp.cs|apply Zc|apply Zg|apply Zd|apply Zi|apply Wp.step);case h=>((try simp(disch:=omega)only[↓reduceIte,Za,↓X0,X1,Nat.reduceEqDiff,Int.reduceEq,Nat.reduceAdd,Nat.reduceSub]);with_reducible first|done|exact rfl|exact bT|exact bF))|apply Zf|apply Zj|with_reducible apply Zk|simp only[↓X3]|with_reducible apply Zb))
 exact Wp.pure ⟨by simp only; omega,(by intros;first|with_reducible rfl|simp(disch:=omega)only[Ze,Zh,s1]),rfl,v',id',by omega,i2⟩
theorem Li.nilOr {α:Type} {E:Enc α} {n:Nat} {H:Hp} {v:Value} {l:List α} (h:Li E n H v l):(v=nilS∧l=[])∨∃ a m c,v=.slice (some a) m c:=by
 obtain ⟨⟨_,⟨h0,rfl | ⟨i,o,q,c,rfl⟩⟩ | ⟨i,o,c,cs,e,rw,rfl,_⟩⟩,_⟩:=h
 ·exact .inl ⟨rfl,List.length_eq_zero_iff.1 h0⟩
 ·exact .inr ⟨_,_,_,rfl⟩
 ·exact .inr ⟨_,_,_,rfl⟩
theorem bsl_z5 (id:Nat) (H:Hp):bsl id 5 0 [.int .i64 0,.int .i64 0,.string ⟨#[]⟩,.int .i64 0,.int .i64 0] [] H=some (sl id 0 0,H.set id (some (.row [] 5 true))):=bsl_zn _ _ _ _ rfl
theorem k88 {n:Nat} {H:Hp} {v:Value} {l:List Nd} (hv:Li eNode n H v l) (hl:l.length≤10000000):RtN Try.prog 88 [v] H n (fun r H' n'=>New eNode n n' H' r l):=by
 apply RtN.mk
 rw [c88]; unfold S88
 rcases hv.nilOr with ⟨rfl,rfl⟩ | ⟨a,m,c,rfl⟩
 ·(repeat(first|((with_reducible first|apply Wp.gs|apply Wp.cs|apply Zc|apply Zg|apply Zd|apply Zi|apply Wp.step);case h=>((try simp(disch:=omega)only[↓reduceIte,Za,↓X0,X1,Nat.reduceEqDiff,Int.reduceEq,Nat.reduceAdd,Nat.reduceSub,show Zr .slice .eql nilS nilS=some (.bool true) from rfl]);with_reducible first|done|exact rfl|exact bT|exact bF))|apply Zf|apply Zj|with_reducible apply Zk|simp only[↓X3]|with_reducible apply Zb))
  exact Wp.pure ⟨by simp only; omega,fun _ _=>rfl,n,by omega,by simp only; omega,At.nil⟩
 ·((repeat(first|((with_reducible first|apply Wp.gs|apply Wp.cs|apply Zc|apply Zg|apply Zd|apply Zi|apply Wp.step);case h=>((try simp(disch:=omega)only[↓reduceIte,Za,↓X0,X1,Nat.reduceEqDiff,Int.reduceEq,Nat.reduceAdd,Nat.reduceSub,show Zr .slice .eql (.slice (some a) m c) nilS=some (.bool false) from rfl,bsl_z5]);with_reducible first|done|exact rfl|exact bT|exact bF))|apply Zf|apply Zj|with_reducible apply Zk|simp only[↓X3]|with_reducible apply Zb));try(with_reducible apply Zm;case h=>((try simp(disch:=omega)only[X1,Nat.reduceEqDiff,show Zr .slice .eql (.slice (some a) m c) nilS=some (.bool false) from rfl,bsl_z5]);with_reducible exact rfl)))
  refine Wp.appL (E:=eNode) (l:=[]) (id:=n+3) (.inr ⟨rfl,Zh _ _ _⟩) (hv.mv (m:=n) (by omega) (by intros;first|with_reducible rfl|simp(disch:=omega)only[Ze,Zh])) (by decide) (by simp; omega) ?_
  intro v' H' a1 a2
  (repeat(first|((with_reducible first|apply Wp.gs|apply Wp.cs|apply Zc|apply Zg|apply Zd|apply Zi|apply Wp.step);case h=>((try simp(disch:=omega)only[↓reduceIte,Za,↓X0,X1,Nat.reduceEqDiff,Int.reduceEq,Nat.reduceAdd,Nat.reduceSub]);with_reducible first|done|exact rfl|exact bT|exact bF))|apply Zf|apply Zj|with_reducible apply Zk|simp only[↓X3]|with_reducible apply Zb))
  refine Wp.pure ⟨by simp only; omega,?_,n+5,by omega,by simp only; omega,by simpa using a1⟩
  intro i hi; simp (disch:=omega) only [a2,Ze]
theorem Wp.bld1 {z:Value} {v:Value} {β:Type} {g:Value→Option β} {Q:β→Prop} (hv:cell1 v=true) (k:Wp (g (.agg ⟨[v]⟩)) Q):Wp ((bld [z] [(0,1,v)]).bind g) Q:=by
 have:bld [z] [(0,1,v)]=some (.agg ⟨[v]⟩):=by
  simp [bld,fill,vcells1 hv,setAt]
 rw [this]; exact k
theorem k46 {n:Nat} {H:Hp} {v:Value} {l:List Nd} (hv:Li eNode n H v l) (hl:l.length≤10000000):RtN Try.prog 46 [.agg ⟨[v]⟩] H n (fun r H' n'=>∃ u,r=.agg ⟨[u]⟩∧New eNode n n' H' u l):=by
 apply RtN.mk
 rw [c46]; unfold S46
 ((repeat(first|((with_reducible first|apply Wp.gs|apply Wp.cs|apply Zc|apply Zg|apply Zd|apply Zi|apply Wp.step);case h=>((try simp(disch:=omega)only[↓reduceIte,Za,↓X0,X1,Nat.reduceEqDiff,Int.reduceEq,Nat.reduceAdd,Nat.reduceSub,X2,Ze,Nat.reduceLeDiff]);with_reducible first|done|exact rfl|exact bT|exact bF))|apply Zf|apply Zj|with_reducible apply Zk|simp only[↓X3]|with_reducible apply Zb));try(with_reducible apply Zm;case h=>((try simp(disch:=omega)only[X1,Nat.reduceEqDiff]);with_reducible exact rfl)))
 refine Wp.rtn (k88 (hv.mv (by omega) (by intros;first|with_reducible rfl|simp(disch:=omega)only[Ze,Zh])) hl) ?_
 rintro u H1 n1 q1 s1 ⟨id,i1,i2,i3⟩
 refine Wp.bld1 i3.cell ?_
 (repeat(first|((with_reducible first|apply Wp.gs|apply Wp.cs|apply Zc|apply Zg|apply Zd|apply Zi|apply Wp.step);case h=>((try simp(disch:=omega)only[↓reduceIte,Za,↓X0,X1,Nat.reduceEqDiff,Int.reduceEq,Nat.reduceAdd,Nat.reduceSub,X2,Ze,Nat.reduceLeDiff,s1]);with_reducible first|done|exact rfl|exact bT|exact bF))|apply Zf|apply Zj|with_reducible apply Zk|simp only[↓X3]|with_reducible apply Zb))
 exact Wp.pure ⟨by simp only; omega,(by intros;first|with_reducible rfl|simp(disch:=omega)only[Ze,Zh,s1]),u,rfl,id,by omega,by simp only; omega,i3.mv (by intros;first|with_reducible rfl|simp(disch:=omega)only[Ze,Zh])⟩
theorem k50 {n:Nat} {H:Hp} {v:Value} {l:List Nd} (hv:Li eNode n H v l) (hl:l.length≤10000000):RtN Try.prog 50 [.agg ⟨[v]⟩] H n (fun r H' n'=>∃ u,r=.agg ⟨[u]⟩∧New eNode n n' H' u l):=by
 apply RtN.mk
 rw [c50]; unfold S50
 ((repeat(first|((with_reducible first|apply Wp.gs|apply Wp.cs|apply Zc|apply Zg|apply Zd|apply Zi|apply Wp.step);case h=>((try simp(disch:=omega)only[↓reduceIte,Za,↓X0,X1,Nat.reduceEqDiff,Int.reduceEq,Nat.reduceAdd,Nat.reduceSub,X2,Ze,Nat.reduceLeDiff,bsl_z5]);with_reducible first|done|exact rfl|exact bT|exact bF))|apply Zf|apply Zj|with_reducible apply Zk|simp only[↓X3]|with_reducible apply Zb));try(with_reducible apply Zm;case h=>((try simp(disch:=omega)only[X1,Nat.reduceEqDiff,bsl_z5]);with_reducible exact rfl)))
 refine Wp.appL (E:=eNode) (l:=[]) (id:=n+2) (.inr ⟨rfl,Zh _ _ _⟩) (hv.mv (m:=n) (by omega) (by intros;first|with_reducible rfl|simp(disch:=omega)only[Ze,Zh])) (by decide) (by simp; omega) ?_
 intro v' H' a1 a2
 refine Wp.bld1 a1.cell ?_
 (repeat(first|((with_reducible first|apply Wp.gs|apply Wp.cs|apply Zc|apply Zg|apply Zd|apply Zi|apply Wp.step);case h=>((try simp(disch:=omega)only[↓reduceIte,Za,↓X0,X1,Nat.reduceEqDiff,Int.reduceEq,Nat.reduceAdd,Nat.reduceSub,X2,Ze,Nat.reduceLeDiff,a2]);with_reducible first|done|exact rfl|exact bT|exact bF))|apply Zf|apply Zj|with_reducible apply Zk|simp only[↓X3]|with_reducible apply Zb))
 refine Wp.pure ⟨by simp only; omega,?_,v',rfl,n+5,by omega,by simp only; omega,?_⟩
 ·intro i hi; simp (disch:=omega) only [a2,Ze]
 ·simpa using a1.mv (H':=H'.set (n+1) (some (.row [v'] 0 true))) (by rw [Ze _ _ (by omega)])
end Go.Proofs.Ytbgkimkbngocjaa.Ax
set_option linter.unusedVariables false
set_option linter.unusedSimpArgs false
namespace Go.Proofs.Ytbgkimkbngocjaa.Ax
open Go
theorem k83 {c n:Nat} {H:Hp} (hc:Cu c n H):RtD Try.prog 83 [ptr c 0] c H n (fun v _ _=>∃ x:Int,v=.int .i64 x∧0≤x∧x≤255):=by
 obtain ⟨h1,b,l,i,x,h2,h3,h4,h5,h6,h7⟩:=hc
 unfold RtD
 rw [c83]; unfold S83
 have b0:=fun o sz=>ld_box (o:=o) h7 sz
 have s0:=fun o vs=>stv_box (o:=o) (vs:=vs) h7
 simp(disch:=omega)only[↓reduceIte,Za,↓X0,X1,Nat.reduceEqDiff,Int.reduceEq,Nat.reduceAdd,Nat.reduceSub,b0,s0,st_i,i_shr' _ _ _ _ (show (0:Int)≤33 by decide),i_shr' _ _ _ _ (show (0:Int)≤45 by decide),i_xor,i_and,ld_set,setAt,List.take_succ_cons,List.take_zero,List.cons_append,List.nil_append,List.drop_succ_cons,List.drop_zero,List.length_cons,List.length_nil,Nat.reduceLeDiff,h2.len]
 have hA:=fun a=>and_le a 255 (by decide)
 generalize IntKind.i64.wrap _=h' 
 generalize hz:IntKind.i64.wrap ((BitVec.ofInt IntKind.i64.bits _ &&& BitVec.ofInt IntKind.i64.bits 255).toNat:Int)=z
 have hz1:0≤z∧z≤255:=by rw [← hz]; exact hA _
 by_cases hi:i < (l.length:Int)
 ·have h2':Li eByte c (H.set c (some (.row [b,.int .i64 i,.int .i64 h'] 0 true))) b l:=h2.keep' fun j o a k e=>Ze _ _ (by have:=h2.2 j o a k e; omega)
  have hw:IntKind.i64.wrap (i+1)=i+1:=w64 (by omega)
  simp(disch:=omega)only[↓reduceIte,Za,↓X0,X1,Nat.reduceEqDiff,Int.reduceEq,Nat.reduceAdd,Nat.reduceSub,hi,h2'.bAll h5 hi,stv_set,List.length_cons,List.length_nil,Nat.reduceLeDiff,ld_set,st_i,setAt,List.take_succ_cons,List.take_zero,List.cons_append,List.nil_append,List.drop_succ_cons,List.drop_zero,hw,i_and]
  refine ⟨_,_,_,?_,?_,?_,rfl,_,rfl,hA _⟩
  ·omega
  ·exact (Upd.refl _ _ _).set _
  ·exact ⟨by omega,b,l,i+1,h',h2.keep' fun j o a k e=>Ze _ _ (by have:=h2.2 j o a k e; omega),h3,h4,by omega,by omega,Zh _ _ _⟩
 ·simp(disch:=omega)only[↓reduceIte,Za,↓X0,X1,Nat.reduceEqDiff,Int.reduceEq,Nat.reduceAdd,Nat.reduceSub,hi]
  refine ⟨_,_,_,?_,?_,?_,rfl,_,rfl,hz1⟩
  ·omega
  ·exact (Upd.refl _ _ _).set _
  ·exact ⟨by omega,b,l,i,h',h2.keep' fun j o a k e=>Ze _ _ (by have:=h2.2 j o a k e; omega),h3,h4,by omega,by omega,Zh _ _ _⟩
theorem k38 {c n:Nat} {H:Hp} (hc:Cu c n H) (m:Int):RtD Try.prog 38 [ptr c 0,.int .i64 m] c H n (fun v _ _=>∃ x:Int,v=.int .i64 x∧(m≤0→x=0)∧(0 < m→0≤x∧x < m)):=by
 unfold RtD
 rw [c38]; unfold S38
 by_cases h1:m≤0
 ·simp(disch:=omega)only[↓reduceIte,Za,↓X0,X1,Nat.reduceEqDiff,Int.reduceEq,Nat.reduceAdd,Nat.reduceSub,h1]
  exact ⟨_,_,_,by omega,Upd.refl _ _ _,hc.up (by omega),rfl,0,rfl,fun _=>rfl,fun h=>by omega⟩
 ·have hm:¬ m=0:=by omega
  have tm:∀ y:Int,0≤y→0≤y.tmod m∧y.tmod m < m:=fun y hy=>⟨Int.tmod_nonneg _ hy,Int.tmod_lt_of_pos _ (by omega)⟩
  by_cases h2:m≤256
  ·obtain ⟨v,H1,n1,a1,a2,a3,a4,x,rfl,a5,a6⟩:=k83 (hc.up (show n≤n+10 by omega))
   simp(disch:=omega)only[↓reduceIte,Za,↓X0,X1,Nat.reduceEqDiff,Int.reduceEq,Nat.reduceAdd,Nat.reduceSub,h1,h2,a4,hm]
   have:=tm x a5
   exact ⟨_,_,_,by omega,a2.less (by omega),a3,rfl,_,rfl,fun h=>h.elim,fun _=>this⟩
  ·obtain ⟨_,H1,n1,a1,a2,a3,a4,x,rfl,a5,a6⟩:=k83 (hc.up (show n≤n+8 by omega))
   obtain ⟨_,H2,n2,b1,b2,b3,b4,y,rfl,b5,b6⟩:=k83 (a3.up (show n1≤n1+3 by omega))
   obtain ⟨_,H3,n3,c1,c2,c3,c4,z,rfl,c5,c6⟩:=k83 (b3.up (show n2≤n2+3 by omega))
   obtain ⟨_,H4,n4,d1,d2,d3,d4,w,rfl,d5,d6⟩:=k83 (c3.up (show n3≤n3+3 by omega))
   have w1:IntKind.i64.wrap (x * 16777216)=x * 16777216:=w64 (by omega)
   have w2:IntKind.i64.wrap (y * 65536)=y * 65536:=w64 (by omega)
   have w3:IntKind.i64.wrap (z * 256)=z * 256:=w64 (by omega)
   have w4:IntKind.i64.wrap (x * 16777216+y * 65536)=x * 16777216+y * 65536:=w64 (by omega)
   have w5:IntKind.i64.wrap (x * 16777216+y * 65536+z * 256)=x * 16777216+y * 65536+z * 256:=w64 (by omega)
   have w6:IntKind.i64.wrap (x * 16777216+y * 65536+z * 256+w)=x * 16777216+y * 65536+z * 256+w:=w64 (by omega)
   simp(disch:=omega)only[↓reduceIte,Za,↓X0,X1,Nat.reduceEqDiff,Int.reduceEq,Nat.reduceAdd,Nat.reduceSub,h1,h2,a4,b4,c4,d4,w1,w2,w3,w4,w5,w6,hm]
   have:=tm (x * 16777216+y * 65536+z * 256+w) (by omega)
   refine ⟨_,_,_,?_,?_,?_,rfl,_,rfl,fun h=>h.elim,fun _=>this⟩
   ·omega
   ·exact (a2.less (by omega)).tr ((b2.less (show n1≤n1+3 by omega)).tr ((c2.less (show n2≤n2+3 by omega)).tr (d2.less (show n3≤n3+3 by omega)) (by omega)) (by omega)) (by omega)
   ·exact d3.up (by omega)
theorem k35 {c n:Nat} {H:Hp} (hc:Cu c n H) (m:Int):RtD Try.prog 35 [ptr c 0,.int .i64 m] c H n (fun v _ _=>∃ b:Bool,v=.bool b):=by
 unfold RtD
 rw [c35]; unfold S35
 obtain ⟨_,H1,n1,a1,a2,a3,a4,x,rfl,_⟩:=k38 (hc.up (show n≤n+6 by omega)) m
 simp(disch:=omega)only[↓reduceIte,Za,↓X0,X1,Nat.reduceEqDiff,Int.reduceEq,Nat.reduceAdd,Nat.reduceSub,a4]
 exact ⟨_,_,_,by omega,a2.less (by omega),a3,rfl,_,rfl⟩
theorem k62 {c n:Nat} {H:Hp} (hc:Cu c n H) {w:Value} {xs:List Int} (hw:Li eInt n H w xs) (ho:Off c w) (hne:xs≠[]):RtD Try.prog 62 [ptr c 0,w] c H n (fun v _ _=>∃ x:Int,v=.int .i64 x∧x∈xs):=by
 unfold RtD
 rw [c62]; unfold S62
 have hl:0 < xs.length:=List.length_pos_iff.2 hne
 obtain ⟨_,H1,n1,a1,a2,a3,a4,x,rfl,_,a5⟩:=k38 (hc.up (show n≤n+9 by omega)) (xs.length:Int)
 have a5:=a5 (by omega)
 have g:=(hw.upd1 a2 (by omega) ho).iAll a5.1 a5.2
 simp(disch:=omega)only[↓reduceIte,Za,↓X0,X1,Nat.reduceEqDiff,Int.reduceEq,Nat.reduceAdd,Nat.reduceSub,hw.len,a4,g]
 exact ⟨_,_,_,by omega,a2.less (by omega),a3,rfl,_,rfl,gi_mem a5.1 a5.2⟩
theorem k58 {c n:Nat} {H:Hp} (hc:Cu c n H) {w:Value} {xs:List ByteArray} (hw:Li eStr n H w xs) (ho:Off c w) (hne:xs≠[]):RtD Try.prog 58 [ptr c 0,w] c H n (fun v _ _=>∃ x:ByteArray,v=.string x∧x∈xs):=by
 unfold RtD
 rw [c58]; unfold S58
 have hl:0 < xs.length:=List.length_pos_iff.2 hne
 obtain ⟨_,H1,n1,a1,a2,a3,a4,x,rfl,_,a5⟩:=k38 (hc.up (show n≤n+9 by omega)) (xs.length:Int)
 have a5:=a5 (by omega)
 have g:=(hw.upd1 a2 (by omega) ho).tAll a5.1 a5.2
 simp(disch:=omega)only[↓reduceIte,Za,↓X0,X1,Nat.reduceEqDiff,Int.reduceEq,Nat.reduceAdd,Nat.reduceSub,hw.len,a4,g]
 exact ⟨_,_,_,by omega,a2.less (by omega),a3,rfl,_,rfl,gi_mem a5.1 a5.2⟩
theorem l33 {n0:Nat} {H:Hp} {v:Value} {l:List Int} (hv:Li eByte n0 H v l) (hb:∀ x∈l,0≤x∧x≤255) (hl:l.length≤1048576):∀ t n (h:Int),t 0=v→t 3=.int .i64 h→t 4=.int .i64 0 →
  Wp (Yf (S33L0 (Call Try.prog) Yf) t H n) (fun o=>n≤o.n∧o.H=H∧o.e=.exit 0∧o.t 0=v∧∃ h,o.t 3=.int .i64 h):=by
 intro t n h e0 e3 e4
 refine Loop_rule (fun d t H' n'=>∃ j:Nat,j+d=l.length∧n≤n'∧H'=H∧t 0=v∧(∃ h,t 3=.int .i64 h)∧t 4=.int .i64 j) _ ?_ l.length t H n ⟨0,by omega,by omega,rfl,e0,⟨h,e3⟩,e4⟩
 rintro d t H' n' ⟨j,hj,hn,rfl,e0,⟨h,e3⟩,e4⟩
 unfold S33L0
 by_cases h1:(j:Int) < l.length
 ·by_cases h2:(j:Int) < 4000
  ·have hw:=wj (j:=j) (len:=l.length) (by omega) (by omega)
   simp(disch:=omega)only[↓reduceIte,Za,↓X0,X1,Nat.reduceEqDiff,Int.reduceEq,Nat.reduceAdd,Nat.reduceSub,e0,e3,e4,hv.len,h1,h2,hv.bAll (by omega) h1,i_and,hw]
   exact Wp.pure (Nxt.go (d - 1) (by omega) ⟨j+1,by omega,by omega,rfl,by simp [Zl,e0],⟨_,by simp [Zl]; rfl⟩,by simp [Zl]⟩)
  ·simp(disch:=omega)only[↓reduceIte,Za,↓X0,X1,Nat.reduceEqDiff,Int.reduceEq,Nat.reduceAdd,Nat.reduceSub,e0,e3,e4,hv.len,h1,h2]
   exact Wp.pure (Nxt.exit ⟨by simp only; omega,rfl,rfl,by simp [Zl,e0],⟨h,by simp [Zl,e3]⟩⟩)
 ·simp(disch:=omega)only[↓reduceIte,Za,↓X0,X1,Nat.reduceEqDiff,Int.reduceEq,Nat.reduceAdd,Nat.reduceSub,e0,e3,e4,hv.len,h1]
  exact Wp.pure (Nxt.exit ⟨by simp only; omega,rfl,rfl,by simp [Zl,e0],⟨h,by simp [Zl,e3]⟩⟩)
theorem k33 {n:Nat} {H:Hp} {v:Value} {l:List Int} (hv:Li eByte n H v l) (hb:∀ x∈l,0≤x∧x≤255) (hl:l.length≤1048576):∃ c H' n',n≤c∧Same n H H'∧Cu c n' H'∧Call Try.prog 33 [v] H n=some (ptr c 0,H',n'):=by
 rw [c33]; unfold S33
 have w1:IntKind.i64.wrap (17000+(l.length:Int))=17000+(l.length:Int):=w64 (by omega)
 simp(disch:=omega)only[↓reduceIte,Za,↓X0,X1,Nat.reduceEqDiff,Int.reduceEq,Nat.reduceAdd,Nat.reduceSub,hv.len,w1]
 generalize hT:put _ _ _=T
 obtain ⟨⟨oe,ot,oH,on⟩,f1,f2,f3,f4,f5,h,f6⟩:=l33 hv hb hl T (n+6) _ (by rw [← hT]; simp [Zl,Zq]) (by rw [← hT]; simp [Zl,Zq]; rfl) (by rw [← hT]; simp [Zl])
 simp only at f2 f3 f4 f5 f6
 subst f3
 have hcell:vcells v=some [v]:=by
  obtain ⟨⟨_,h | ⟨i,o,c,cs,e,rw,rfl,_⟩⟩,_⟩:=hv
  ·obtain ⟨_,rfl | ⟨i,o,q,c,rfl⟩⟩:=h <;> rfl
  ·rfl
 have hbld:bld [nilS,.int .i64 0,.int .i64 0] [(0,1,v),(2,1,.int .i64 h)]=some (.agg ⟨[v,.int .i64 0,.int .i64 h]⟩):=by
  simp only [bld,fill,hcell,Option.bind_some]; rfl
 rw [f1]
 simp(disch:=omega)only[↓reduceIte,Za,↓X0,X1,Nat.reduceEqDiff,Int.reduceEq,Nat.reduceAdd,Nat.reduceSub,f5,f6,hbld,vcells_agg]
 exact ⟨_,_,_,by omega,(Same.refl _ _).set (by omega) _,⟨by omega,v,l,0,h,(hv.up (by omega)).keep' fun i o a k e=>Ze _ _ (by have:=hv.2 i o a k e; omega),hb,hl,by omega,by omega,Zh _ _ _⟩,rfl⟩
end Go.Proofs.Ytbgkimkbngocjaa.Ax
