/- What the law needs: laws of the abstract machine, and contracts of functions. -/
import Derived.Test.YtcffcnipmgkjfaaGreatM0
import Derived.Deep.MidRow
import Derived.Laws.Tables
import Derived.IntWalk
import Derived.Laws.AppendOwn
import Derived.Laws.IdiomStrings
import Derived.Laws.BytesArg
import Derived.Laws.StructEq
import Derived.MapKept
set_option linter.unusedVariables false
set_option linter.unusedSimpArgs false
set_option maxHeartbeats 8000000
namespace Go.Proofs.YtcffcnipmgkjfaaGreat.Ax
open Go
theorem finE_normal {α:Type}(x:Option α):Vs .normal x=x:=rfl
theorem finE_ret {α:Type}(x:Option α):Vs .ret x=x:=rfl
theorem finE_exit {α:Type}(j:Nat)(x:Option α):Vs (.exit j) x=none:=rfl
theorem iteK_true {α:Type}(x:Option α):Yr true x=x:=rfl
theorem bld_eq (z:List Value)(ps:List (Nat × Nat × Value)):Xf z ps=(fill z ps).bind fun cs=>some (.agg ⟨cs⟩):=rfl
theorem fill_nil (cs:List Value):fill cs []=some cs:=rfl
theorem fill_cons (cs:List Value)(off sz:Nat)(v:Value)(r:List (Nat × Nat × Value)):fill cs ((off,sz,v) :: r)=(Zs v).bind fun vs=>if vs.length=sz/\off+sz<=cs.length then fill (Yz cs off vs) r else none:=rfl
theorem setAt_eq (cs:List Value)(o:Nat)(vs:List Value):Yz cs o vs=cs.take o++vs++cs.drop (o+vs.length):=rfl
theorem vcells_p (p:Option Addr):Zs (.pointer p)=some [.pointer p]:=rfl
theorem X0:type_of% (And.intro @Xz (And.intro @Yi (And.intro @Yf (And.intro @gsel_undef (And.intro @thenK_normal (And.intro @thenK_ret @thenK_exit)))))):=(And.intro @Xz (And.intro @Yi (And.intro @Yf (And.intro @gsel_undef (And.intro @thenK_normal (And.intro @thenK_ret @thenK_exit))))))
theorem X1:type_of% (And.intro @Zz (And.intro @List.getD_cons_zero.{0} (And.intro @List.getD_cons_succ.{0} (And.intro @Option.bind_some.{0,0} (And.intro @Option.bind_none.{0,0} (And.intro @Zn (And.intro @pickV_true (And.intro @pickV_false (And.intro @un_not (And.intro @un_neg (And.intro @b_eql (And.intro @b_neq (And.intro @i_add (And.intro @i_sub (And.intro @i_mul (And.intro @i_quo (And.intro @i_rem (And.intro @Vt (And.intro @i_neq (And.intro @i_lss (And.intro @Vc (And.intro @i_gtr (And.intro @Wy (And.intro @t_eql (And.intro @t_neq (And.intro @len_str (And.intro @len_sl (And.intro @outOf_exit (And.intro @outOf_ret (And.intro @finE_normal (And.intro @finE_ret (And.intro @finE_exit (And.intro @decide_eq_true_eq (And.intro @Bool.false_eq_true (And.intro @Bool.not_true (And.intro @Bool.not_false (And.intro @decide_true (And.intro @decide_false (And.intro @if_true.{1} (And.intro @if_false.{1} (And.intro @ne_eq.{1} (And.intro @not_true_eq_false (And.intro @not_false_eq_true (And.intro @conv_i (And.intro @conv_ss (And.intro @partV_c (And.intro @partV_a (And.intro @ext_tup (And.intro @nilchk_ptr (And.intro @fieldA_ptr (And.intro @iteK_true (And.intro @List.all_cons.{0} (And.intro @List.all_nil.{0} (And.intro @notTup_i (And.intro @notTup_b (And.intro @notTup_s (And.intro @notTup_l (And.intro @notTup_a (And.intro @notTup_p (And.intro @Bool.and_self (And.intro @List.getElem?_cons_zero.{0} (And.intro @List.getElem?_cons_succ.{0} (And.intro @Bool.not_eq_true (And.intro @Bool.not_eq_false (And.intro @decide_eq_false_iff_not (And.intro @Nat.zero_add @Nat.add_zero)))))))))))))))))))))))))))))))))))))))))))))))))))))))))))))))))):=(And.intro @Zz (And.intro @List.getD_cons_zero.{0} (And.intro @List.getD_cons_succ.{0} (And.intro @Option.bind_some.{0,0} (And.intro @Option.bind_none.{0,0} (And.intro @Zn (And.intro @pickV_true (And.intro @pickV_false (And.intro @un_not (And.intro @un_neg (And.intro @b_eql (And.intro @b_neq (And.intro @i_add (And.intro @i_sub (And.intro @i_mul (And.intro @i_quo (And.intro @i_rem (And.intro @Vt (And.intro @i_neq (And.intro @i_lss (And.intro @Vc (And.intro @i_gtr (And.intro @Wy (And.intro @t_eql (And.intro @t_neq (And.intro @len_str (And.intro @len_sl (And.intro @outOf_exit (And.intro @outOf_ret (And.intro @finE_normal (And.intro @finE_ret (And.intro @finE_exit (And.intro @decide_eq_true_eq (And.intro @Bool.false_eq_true (And.intro @Bool.not_true (And.intro @Bool.not_false (And.intro @decide_true (And.intro @decide_false (And.intro @if_true.{1} (And.intro @if_false.{1} (And.intro @ne_eq.{1} (And.intro @not_true_eq_false (And.intro @not_false_eq_true (And.intro @conv_i (And.intro @conv_ss (And.intro @partV_c (And.intro @partV_a (And.intro @ext_tup (And.intro @nilchk_ptr (And.intro @fieldA_ptr (And.intro @iteK_true (And.intro @List.all_cons.{0} (And.intro @List.all_nil.{0} (And.intro @notTup_i (And.intro @notTup_b (And.intro @notTup_s (And.intro @notTup_l (And.intro @notTup_a (And.intro @notTup_p (And.intro @Bool.and_self (And.intro @List.getElem?_cons_zero.{0} (And.intro @List.getElem?_cons_succ.{0} (And.intro @Bool.not_eq_true (And.intro @Bool.not_eq_false (And.intro @decide_eq_false_iff_not (And.intro @Nat.zero_add @Nat.add_zero))))))))))))))))))))))))))))))))))))))))))))))))))))))))))))))))))
theorem X2:type_of% (And.intro @Hp_set_set (And.intro @and_self (And.intro @and_true (And.intro @true_and (And.intro @bld_eq (And.intro @fill_nil (And.intro @fill_cons (And.intro @vcells_i (And.intro @vcells_s (And.intro @vcells_b (And.intro @vcells_l (And.intro @vcells_p (And.intro @node_eql (And.intro @vcells_agg (And.intro @ld_r (And.intro @ldA_r (And.intro @stv_r (And.intro @Yc (And.intro @rowAgg_row (And.intro @rowSt_row (And.intro @st_i (And.intro @st_s (And.intro @st_b (And.intro @st_l (And.intro @st_p (And.intro @st_agg (And.intro @setAt_eq (And.intro @List.take_succ_cons.{0} (And.intro @List.take_zero.{0} (And.intro @List.cons_append.{0} (And.intro @List.nil_append.{0} (And.intro @List.drop_succ_cons.{0} (And.intro @List.drop_zero.{0} (And.intro @List.length_cons.{0} (And.intro @List.length_nil.{0} (And.intro @Nat.add_eq_left (And.intro @Nat.left_eq_add @Ze))))))))))))))))))))))))))))))))))))):=(And.intro @Hp_set_set (And.intro @and_self (And.intro @and_true (And.intro @true_and (And.intro @bld_eq (And.intro @fill_nil (And.intro @fill_cons (And.intro @vcells_i (And.intro @vcells_s (And.intro @vcells_b (And.intro @vcells_l (And.intro @vcells_p (And.intro @node_eql (And.intro @vcells_agg (And.intro @ld_r (And.intro @ldA_r (And.intro @stv_r (And.intro @Yc (And.intro @rowAgg_row (And.intro @rowSt_row (And.intro @st_i (And.intro @st_s (And.intro @st_b (And.intro @st_l (And.intro @st_p (And.intro @st_agg (And.intro @setAt_eq (And.intro @List.take_succ_cons.{0} (And.intro @List.take_zero.{0} (And.intro @List.cons_append.{0} (And.intro @List.nil_append.{0} (And.intro @List.drop_succ_cons.{0} (And.intro @List.drop_zero.{0} (And.intro @List.length_cons.{0} (And.intro @List.length_nil.{0} (And.intro @Nat.add_eq_left (And.intro @Nat.left_eq_add @Ze)))))))))))))))))))))))))))))))))))))
theorem X3:type_of% (And.intro @thenK_normal (And.intro @thenK_ret (And.intro @thenK_exit (And.intro @outOf_exit (And.intro @outOf_ret (And.intro @finE_normal (And.intro @finE_ret @finE_exit))))))):=(And.intro @thenK_normal (And.intro @thenK_ret (And.intro @thenK_exit (And.intro @outOf_exit (And.intro @outOf_ret (And.intro @finE_normal (And.intro @finE_ret @finE_exit)))))))
theorem bT:Value.bool true=.bool true:=rfl
theorem bF:Value.bool false=.bool false:=rfl
abbrev sel {α:Type}(c:Bool)(A B:Option α):Option α :=
 match c with
 | true=>A
 | false=>B
abbrev sel2 {α:Type}(c w:Bool)(A B:Option α):Option α :=
 match w with
 | true=>sel c A B
 | false=>sel c B A
theorem Wp.cselX {α:Type}{v:Value}{c:Bool}{A B:Option α}{Q:α->Prop}(h:v=.bool c)(k:Wp (sel c A B) Q):Wp (csel v A B) Q:=by subst h;cases c <;> exact k
theorem Wp.assoc {α β γ:Type}{x:Option α}{f:α->Option β}{g:β->Option γ}{Q:γ->Prop}(k:Wp (x.bind fun a=>(f a).bind g) Q):Wp ((x.bind f).bind g) Q:=by cases x <;> exact k
theorem Wp.gs {α β:Type}{v:Value}{c w:Bool}{A B:Option α}{f:α->Option β}{Q:β->Prop}(h:v=.bool c)(k:Wp ((sel2 c w A B).bind f) Q):Wp ((gsel v w A B).bind f) Q:=by
 subst h;cases c <;> cases w <;> exact k
theorem Wp.ikb {α β:Type}{b:Bool}{A:Option α}{f:α->Option β}{Q:β->Prop}(h:b=true)(k:Wp (A.bind f) Q):Wp ((Yr b A).bind f) Q:=by subst h;exact k
theorem Wp.askb {α β:Type}{p:Prop}{A:Option α}{f:α->Option β}{Q:β->Prop}(h:p)(k:Wp (A.bind f) Q):Wp ((ask p A).bind f) Q:=by rw[ask_same h];exact k
theorem Wp.gu {α β:Type}{l:Array Value}{w:Bool}{A B:Option α}{f:α->Option β}{Q:β->Prop}(k:Wp (B.bind f) Q):Wp ((gsel (.tuple l) w A B).bind f) Q:=k
theorem Wp.cs {α β:Type}{v:Value}{c:Bool}{A B:Option α}{f:α->Option β}{Q:β->Prop}(h:v=.bool c)(k:Wp ((sel c A B).bind f) Q):Wp ((csel v A B).bind f) Q:=by
 subst h;cases c <;> exact k
theorem asks_nil {α:Type}(m:Nat)(H:Hp)(k:Option α):asks m H [] k=k:=rfl
theorem asks_in {α:Type}{m i:Nat}(h:m.testBit i=true)(H:Hp)(ag:Bool)(sz:Nat)(a v:Value)(rs:List Rd)(k:Option α):asks m H (⟨i,ag,sz,a,v⟩ :: rs) k=asks m H rs k:=by rw[asks,if_pos h]
theorem asks_out {α:Type}{m i:Nat}(h:m.testBit i=false)(H:Hp)(ag:Bool)(sz:Nat)(a v:Value)(rs:List Rd)(k:Option α):asks m H (⟨i,ag,sz,a,v⟩ :: rs) k=ask (ld ag sz a H=some v) (asks m H rs k):=by rw[asks,if_neg (by rw[h];decide)]
theorem askB_nil {α:Type}(m:Nat)(ag:Bool)(sz:Nat)(a v:Value)(k:Option α):askB m ag sz a v [] k=k:=rfl
theorem askB_in {α:Type}{m i:Nat}(h:m.testBit i=true)(H:Hp)(ag:Bool)(sz:Nat)(a v:Value)(hs:List (Nat × Hp)) (k:Option α):askB m ag sz a v ((i,H) :: hs) k=askB m ag sz a v hs k:=by rw[askB,if_pos h]
theorem askB_out {α:Type}{m i:Nat}(h:m.testBit i=false)(H:Hp)(ag:Bool)(sz:Nat)(a v:Value)(hs:List (Nat × Hp)) (k:Option α):askB m ag sz a v ((i,H) :: hs) k=ask (ld ag sz a H=some v) (askB m ag sz a v hs k):=by rw[askB,if_neg (by rw[h];decide)]
section
variable {P:Program}{f:Nat}{args:List Value}{H:Hp}{n:Nat}{β:Type}{g:Value × Hp × Nat->Option β}{Q:β->Prop}
theorem Zv {v:Value}(h:Rt P f args H n v)(k:∀ H' n',n<=n'->(∀ i,i < n->H' i=H i)->Wp (g (v,H',n')) Q):Wp ((Call P f args H n).bind g) Q:=by
 obtain⟨H',n',h1,h2,h3⟩:=h
 rw[h3];exact k H' n' h1 h2
theorem Ya {R:Value->Hp->Nat->Prop}(h:RtN P f args H n R)(k:∀ v H' n',n<=n'->(∀ i,i < n->H' i=H i)->R v H' n'->Wp (g (v,H',n')) Q):Wp ((Call P f args H n).bind g) Q:=by
 obtain⟨v,H',n',h1,h2,h3,h4⟩:=h
 rw[h3];exact k v H' n' h1 h2 h4
theorem Zy {c:Nat}{R:Value->Hp->Nat->Prop}(h:RtD P f args c H n R)(k:∀ v H' n',n<=n'->(∀ i,i < n->i≠c->H' i=H i)->Cu c n' H'->R v H' n'->Wp (g (v,H',n')) Q):Wp ((Call P f args H n).bind g) Q:=by
 obtain⟨v,H',n',h1,h2,h3,h4,h5⟩:=h
 rw[h4];exact k v H' n' h1 (fun i hi hc=>h2 i hi (by simpa using hc)) h3 h5
theorem Wp.cargs {args':List Value}(h:args=args')(k:Wp ((Call P f args' H n).bind g) Q):Wp ((Call P f args H n).bind g) Q:=by subst h;exact k
end
abbrev RtM (P:Program)(f:Nat)(args:List Value)(id:Nat)(H:Hp)(n:Nat)(v:Value)(R:Hp->Nat->Prop):Prop:=∃ H' n',n<=n'/\(∀ i,i < n->i≠id->H' i=H i)/\Call P f args H n=some (v,H',n')/\R H' n'
theorem Wp.rtm {P:Program}{f:Nat}{args:List Value}{H:Hp}{n id:Nat}{β:Type}{g:Value × Hp × Nat->Option β}{Q:β->Prop}{v:Value}{R:Hp->Nat->Prop}(h:RtM P f args id H n v R)(k:∀ H' n',n<=n'->(∀ i,i < n->i≠id->H' i=H i)->R H' n'->Wp (g (v,H',n')) Q):Wp ((Call P f args H n).bind g) Q:=by
 obtain⟨H',n',h1,h2,h3,h4⟩:=h
 rw[h3];exact k H' n' h1 h2 h4
theorem RtM.of {P:Program}{f:Nat}{args:List Value}{id:Nat}{H:Hp}{n:Nat}{v:Value}{R:Hp->Nat->Prop}(h:Wp (Call P f args H n) fun q=>n<=q.2.2/\(∀ i,i < n->i≠id->q.2.1 i=H i)/\q.1=v/\R q.2.1 q.2.2):RtM P f args id H n v R:=by
 obtain⟨⟨v',H',n'⟩,h1,h2,h3,h4,h5⟩:=h
 exact⟨H',n',h2,h3,by rw[h1,← h4],h5⟩
theorem Rt.ex {P:Program}{f:Nat}{args:List Value}{H:Hp}{n:Nat}{v:Value}(h:∃ n',n<=n'/\Call P f args H n=some (v,H,n')):Rt P f args H n v:=by
 obtain⟨n',h1,h2⟩:=h
 exact⟨H,n',h1,Same.refl _ _,h2⟩
theorem Li.mv {α:Type}{E:Enc α}{n m:Nat}{H H':Hp}{v:Value}{l:List α}(h:Li E n H v l)(hm:n<=m)(hs:∀ i,i < n->H' i=H i):Li E m H' v l:=(h.keep (H':=H') hs (Nat.le_refl _)).up hm
theorem New.mv {α:Type}{E:Enc α}{lo n m:Nat}{H H':Hp}{v:Value}{l:List α}(h:New E lo n H v l)(hm:n<=m)(hs:∀ i,i < n->H' i=H i):New E lo m H' v l:=(h.keep (m:=n) hs (Nat.le_refl _)).up (Nat.le_refl _) hm
theorem At.mv {α:Type}{E:Enc α}{id:Nat}{H H':Hp}{v:Value}{l:List α}(h:At E id H v l)(hs:H' id=H id):At E id H' v l:=h.keep hs
def fam {α:Type}(f:Nat->α)(m:Nat):List α:=(List.range m).map f
theorem fam_len {α:Type}(f:Nat->α)(m:Nat):(fam f m).length=m:=by simp[fam]
theorem fam_succ {α:Type}(f:Nat->α)(m:Nat):fam f (m+1)=fam f m++[f m]:=by simp[fam,List.range_succ]
theorem fam_gi {α:Type} [Inhabited α] (f:Nat->α){m j:Nat}(h:j < m):gi (fam f m) (j:Int)=f j:=by
 rw[Yq (by rw[fam_len];exact h)];simp[fam]
theorem fam_set {α:Type}(f:Nat->α){l:List α}{j:Nat}(h:j < l.length):(fam f j++l.drop j).set j (f j)=fam f (j+1)++l.drop (j+1):=by
 rw[fam_succ,List.drop_eq_getElem_cons h,List.set_append_right _ _ (by rw[fam_len];omega),fam_len,Nat.sub_self,List.set_cons_zero,List.append_assoc];rfl
theorem fam_drop_len {α:Type}(f:Nat->α){l:List α}{j:Nat}(h:j<=l.length):(fam f j++l.drop j).length=l.length:=by
 rw[List.length_append,fam_len,List.length_drop];omega
theorem fam_drop_at {α:Type}(f:Nat->α){l:List α}{j:Nat}(h:j < l.length)(h':j < (fam f j++l.drop j).length):(fam f j++l.drop j)[j]=l[j]:=by
 rw[List.getElem_append_right (by rw[fam_len];omega)]
 simp[fam_len]
theorem s_add {a b:ByteArray}(h:a.size+b.size<=9223372036854775807):Zd .plain .add (.string a) (.string b)=some (.string (a++b)):=by
 show strBin .add a b=_
 unfold strBin
 rw[if_pos (by omega)]
inductive All2 {α β:Type} (R:α->β->Prop):List α->List β->Prop
 | nil:All2 R [] []
 | cons {a:α}{b:β}{l:List α}{m:List β}:R a b->All2 R l m->All2 R (a :: l) (b :: m)
section
variable {α β:Type}{R S:α->β->Prop}
theorem All2.length {l:List α}{m:List β}(h:All2 R l m):l.length=m.length:=by
 induction h with
 | nil=>rfl
 | cons _ _ ih=>simp[ih]
theorem All2.mono (hRS:∀ a b,R a b->S a b){l:List α}{m:List β}(h:All2 R l m):All2 S l m:=by
 induction h with
 | nil=>exact .nil
 | cons h _ ih=>exact .cons (hRS _ _ h) ih
theorem All2.append {l l':List α}{m m':List β}(h:All2 R l m)(h':All2 R l' m'):All2 R (l++l') (m++m'):=by
 induction h with
 | nil=>exact h'
 | cons h _ ih=>exact .cons h ih
theorem All2.get {l:List α}{m:List β}(h:All2 R l m):∀ {i:Nat}{a:α},l[i]?=some a->∃ b,m[i]?=some b/\R a b:=by
 induction h with
 | nil=>intro i a hi;simp at hi
 | cons h _ ih=>
  intro i a hi
  cases i with
  | zero=>simp only[List.getElem?_cons_zero,Option.some.injEq]at hi;subst hi;exact⟨_,rfl,h⟩
  | succ i=>simp only[List.getElem?_cons_succ]at hi ⊢;exact ih hi
theorem All2.drop {l:List α}{m:List β}(h:All2 R l m):∀ (n:Nat),All2 R (l.drop n) (m.drop n):=by
 induction h with
 | nil=>intro n;simp;exact .nil
 | cons h h' ih=>
  intro n
  cases n with
  | zero=>exact .cons h h'
  | succ n=>exact ih n
theorem All2.take {l:List α}{m:List β}(h:All2 R l m):∀ (n:Nat),All2 R (l.take n) (m.take n):=by
 induction h with
 | nil=>intro n;simp;exact .nil
 | cons h h' ih=>
  intro n
  cases n with
  | zero=>exact .nil
  | succ n=>exact .cons h (ih n)
theorem All2.one {a:α}{b:β}(h:R a b):All2 R [a] [b]:=.cons h .nil
theorem All2.cons_left {a:α}{l:List α}{m:List β}(h:All2 R (a :: l) m):∃ b m',m=b :: m'/\R a b/\All2 R l m':=by
 cases h with
 | cons h h'=>exact⟨_,_,rfl,h,h'⟩
theorem All2.map {γ:Type}{f:γ->α}{g:γ->β}{l:List γ}(h:∀ x∈l,R (f x) (g x)):All2 R (l.map f) (l.map g):=by
 induction l with
 | nil=>exact .nil
 | cons x l ih=>exact .cons (h x (List.mem_cons_self ..)) (ih fun y hy=>h y (List.mem_cons_of_mem _ hy))
theorem All2.refl_of {R:α->α->Prop}{l:List α}(h:∀ x∈l,R x x):All2 R l l:=by
 have:=All2.map (R:=R) (f:=fun x=>x) (g:=fun x=>x) (l:=l) h
 simpa using this
theorem All2.flatten {R:α->β->Prop}{l:List (List α)}{m:List (List β)}(h:All2 (All2 R) l m):All2 R l.flatten m.flatten:=by
 induction h with
 | nil=>exact .nil
 | cons h _ ih=>exact h.append ih
theorem All2.mem_right {l:List α}{m:List β}(h:All2 R l m){b:β}(hb:b∈m):∃ a,a∈l/\R a b:=by
 induction h with
 | nil=>simp at hb
 | cons h _ ih=>
  rcases List.mem_cons.1 hb with rfl|hb
  ·exact⟨_,List.mem_cons_self ..,h⟩
  ·obtain⟨a,ha,hr⟩:=ih hb;exact⟨a,List.mem_cons_of_mem _ ha,hr⟩
end
structure GI where
 blk:Nat
 sh:Nat
 tot:Nat
 esz:Nat
 rw:Bool
abbrev Gh:=Nat->Option GI
def Gh.set (G:Gh)(i:Nat)(g:GI):Gh:=fun j=>if j=i then some g else G j
def GLe (G G':Gh):Prop:=∀ i g,G i=some g->G' i=some g
theorem GLe.refl (G:Gh):GLe G G:=fun _ _ h=>h
theorem GLe.trans {G G' G'':Gh}(h:GLe G G')(h':GLe G' G''):GLe G G'':=fun i g hg=>h' i g (h i g hg)
theorem GLe.set {G:Gh}{i:Nat}(g:GI)(h:G i=none):GLe G (G.set i g):=by
 intro j gj hj
 unfold Gh.set
 split
 ·rename_i e;subst e;rw[h]at hj;cases hj
 ·exact hj
theorem Gh.set_same (G:Gh)(i:Nat)(g:GI):G.set i g i=some g:=by simp[Gh.set]
theorem Gh.set_ne (G:Gh){i j:Nat}(g:GI)(h:j≠i):G.set i g j=G j:=by simp[Gh.set,h]
theorem Hp.set_same (H:Hp)(i:Nat)(o:Option Obj):H.set i o i=o:=by simp[Hp.set]
theorem Hp.set_ne (H:Hp){i j:Nat}(o:Option Obj)(h:j≠i):H.set i o j=H j:=by simp[Hp.set,h]
inductive SR (G:Gh):Value->Value->Prop
 | bool (b:Bool):SR G (.bool b) (.bool b)
 | int (k:IntKind) (n:Int):SR G (.int k n) (.int k n)
 | str (s:ByteArray):SR G (.string s) (.string s)
 | nilp:SR G (.pointer none) (.pointer none)
 | ptr {i o:Nat}{g:GI}:G i=some g->SR G (.pointer (some ⟨i,o,none⟩)) (.pointer (some ⟨g.blk,g.sh+o,none⟩))
 | nils:SR G (.slice none 0 0) (.slice none 0 0)
 | sl {i o n c c':Nat}{g:GI}:G i=some g->n<=c'->(g.rw=true->o=0->c' * g.esz<=g.tot)->SR G (.slice (some ⟨i,o,none⟩) n c) (.slice (some ⟨g.blk,g.sh+o,none⟩) n c')
 | emp {i o q c c':Nat}{a':Addr}:SR G (.slice (some ⟨i,o,some q⟩) 0 c) (.slice (some a') 0 c')
 | map {i:Nat}{g:GI}:G i=some g->SR G (.map (some i)) (.map (some g.blk))
 | nilf:SR G .nilFunc .nilFunc
theorem SR.mono {G G':Gh}(h:GLe G G'){v v':Value}(hv:SR G v v'):SR G' v v':=by
 cases hv with
 | ptr hg=>exact .ptr (h _ _ hg)
 | sl hg h1 h2=>exact .sl (h _ _ hg) h1 h2
 | map hg=>exact .map (h _ _ hg)
 | bool b=>exact .bool b
 | int k n=>exact .int k n
 | str s=>exact .str s
 | nilp=>exact .nilp
 | nils=>exact .nils
 | emp=>exact .emp
 | nilf=>exact .nilf
inductive CR (G:Gh):Value->Value->Prop
 | s {v v':Value}:SR G v v'->CR G v v'
 | fn (f:Nat) {cs cs':List Value}:All2 (SR G) cs cs'->CR G (.func (.func f) #[] ⟨cs⟩) (.func (.func f) #[] ⟨cs'⟩)
theorem CR.mono {G G':Gh}(h:GLe G G'){v v':Value}(hv:CR G v v'):CR G' v v':=by
 cases hv with
 | s hv=>exact .s (hv.mono h)
 | fn f hv=>exact .fn f (hv.mono fun _ _=>SR.mono h)
theorem CR.one {G:Gh}{v v':Value}(hv:CR G v v'):v'.oneCell'=true:=by
 cases hv with
 | s hv=>cases hv <;> rfl
 | fn f hv=>rfl
theorem CR.cell {G:Gh}{v v':Value}(hv:CR G v v'):isCell v=true:=by
 cases hv with
 | s hv=>cases hv <;> rfl
 | fn f hv=>rfl
inductive PR (G:Gh):Value->Value->Prop
 | c {v v':Value}:CR G v v'->PR G v v'
 | agg {cs cs':List Value}:All2 (CR G) cs cs'->PR G (.agg ⟨cs⟩) (.agg ⟨cs'⟩)
theorem PR.mono {G G':Gh}(h:GLe G G'){v v':Value}(hv:PR G v v'):PR G' v v':=by
 cases hv with
 | c hv=>exact .c (hv.mono h)
 | agg hv=>exact .agg (hv.mono fun _ _=>CR.mono h)
inductive VR (G:Gh):Value->Value->Prop
 | p {v v':Value}:PR G v v'->VR G v v'
 | tup {vs vs':List Value}:All2 (PR G) vs vs'->VR G (.tuple ⟨vs⟩) (.tuple ⟨vs'⟩)
theorem VR.mono {G G':Gh}(h:GLe G G'){v v':Value}(hv:VR G v v'):VR G' v v':=by
 cases hv with
 | p hv=>exact .p (hv.mono h)
 | tup hv=>exact .tup (hv.mono fun _ _=>PR.mono h)
theorem VR.undef {G:Gh}:VR G (.tuple #[]) undef:=.tup .nil
theorem VR.sr {G:Gh}{v v':Value}(h:SR G v v'):VR G v v':=.p (.c (.s h))
theorem gnd1_sr {G:Gh}{v:Value}(h:gnd1 v=true):SR G v v:=by
 unfold gnd1 at h
 split at h
 ·exact .bool _
 ·exact .int _ _
 ·exact .str _
 ·exact .nilp
 ·exact .nils
 ·exact .nilf
 ·cases h
theorem gnds_cr {G:Gh}{l:List Value}(h:l.all gnd1=true):All2 (CR G) l l :=
 All2.refl_of fun x hx=>.s (gnd1_sr (List.all_eq_true.1 h x hx))
theorem vcells_cr {G:Gh}{v v':Value}{cs:List Value}(hv:VR G v v')(h:Zs v=some cs):∃ cs',v'.cells=⟨cs'⟩/\All2 (CR G) cs cs':=by
 cases hv with
 | tup hv=>cases h
 | p hv=>
  cases hv with
  | agg hv=>cases h;exact⟨_,rfl,hv⟩
  | c hv=>
   have hc:=hv.cell
   have ho:=hv.one
   have:cs=[v]:=by
    unfold Zs at h
    split at h
    ·cases hc
    ·cases hc
    ·cases h;rfl
   subst this
   refine⟨[v'],?_,.one hv⟩
   cases v' <;> first|rfl|cases ho
def rwObj:Obj->Bool
 | .row _ _ rw=>rw
 | .map _=>true
def free (fr:Nat × Nat)(n:Nat):Prop:=fr.1=fr.2∨n<=fr.1
def CellsOk (G:Gh)(cs:List Value)(sh:Nat)(cs':Array Value):Prop :=
 sh+cs.length<=cs'.size/\All2 (CR G) cs ((cs'.toList.drop sh).take cs.length)
structure RowOk (G:Gh)(g:GI)(cs:List Value)(e:Nat)(rw:Bool)(ob:Option Go.Obj):Prop where
 ex:∃ cs' ty fr,ob=some (.cells cs' ty fr)/\CellsOk G cs g.sh cs'/\(rw=true->g.sh=0/\cs'.size=g.tot/\free fr cs'.size)
 rw_:g.rw=rw
 esz_:rw=true->g.esz=e
def OR (G:Gh)(g:GI)(o:Obj)(ob:Option Go.Obj):Prop :=
 match o with
 | .row cs e rw=>RowOk G g cs e rw ob
 | .map es=>∃ es' ck,ob=some (.map es' ck)/\All2 (fun p (q:MapEntry)=>VR G p.1 q.key/\PR G p.2 q.val) es es'.toList
theorem CellsOk.mono {G G':Gh}(h:GLe G G'){cs:List Value}{sh:Nat}{cs':Array Value}(hc:CellsOk G cs sh cs'):CellsOk G' cs sh cs':=⟨hc.1,hc.2.mono fun _ _=>CR.mono h⟩
theorem OR.mono {G G':Gh}(h:GLe G G'){g:GI}{o:Obj}{ob:Option Go.Obj}(ho:OR G g o ob):OR G' g o ob:=by
 cases o with
 | row cs e rw=>
  have ho:RowOk G g cs e rw ob:=ho
  obtain⟨⟨cs',ty,fr,h1,h2,h3⟩,h4,h5⟩:=ho
  exact(⟨⟨cs',ty,fr,h1,h2.mono h,h3⟩,h4,h5⟩:RowOk G' g cs e rw ob)
 | map es=>
  obtain⟨es',ck,h1,h2⟩:=ho
  exact⟨es',ck,h1,h2.mono fun _ _ hp=>⟨hp.1.mono h,hp.2.mono h⟩⟩
theorem OR.is {G:Gh}{g:GI}{o:Obj}{ob:Option Go.Obj}(ho:OR G g o ob):ob.isSome=true:=by
 cases o with
 | row cs e rw=>obtain⟨⟨_,_,_,h,_⟩,_⟩:=(ho:RowOk G g cs e rw ob);rw[h];rfl
 | map es=>obtain⟨_,_,h,_⟩:=ho;rw[h];rfl
structure HR (G:Gh)(H:Hp)(w:World):Prop where
 obj:∀ i o g,H i=some o->G i=some g->OR G g o w.heap[g.blk]?
 inj:∀ i j oi oj gi gj,i≠j->H i=some oi->H j=some oj->rwObj oi=true->G i=some gi->G j=some gj->gi.blk≠gj.blk
theorem HR.lt {G:Gh}{H:Hp}{w:World}(h:HR G H w){i:Nat}{o:Obj}{g:GI}(hi:H i=some o)(hg:G i=some g):g.blk < w.heap.size:=by
 have:=(h.obj i o g hi hg).is
 rcases Nat.lt_or_ge g.blk w.heap.size with h'|h'
 ·exact h'
 ·rw[Array.getElem?_eq_none h']at this;cases this
theorem HR.sub {G:Gh}{H H':Hp}{w:World}(h:HR G H w)(hs:∀ i o,H' i=some o->G i≠none->H i=some o):HR G H' w:=by
 constructor
 ·intro i o g hi hg;exact h.obj i o g (hs i o hi (by rw[hg];simp)) hg
 ·intro i j oi oj gi gj hij hi hj hrw hgi hgj
  exact h.inj i j oi oj gi gj hij (hs i oi hi (by rw[hgi];simp)) (hs j oj hj (by rw[hgj];simp)) hrw hgi hgj
theorem HR.world {G:Gh}{H:Hp}{w w':World}(h:HR G H w)(hw:w'.heap=w.heap):HR G H w':=⟨fun i o g hi hg=>by rw[hw];exact h.obj i o g hi hg,h.inj⟩
def Own (G:Gh)(H:Hp)(b:Nat):Prop:=∃ i o g,H i=some o/\rwObj o=true/\G i=some g/\g.blk=b
structure Fr (G:Gh)(H:Hp)(w w':World):Prop where
 os:w'.os=w.os
 tape:w'.tape=w.tape
 output:w'.output=w.output
 size:w.heap.size<=w'.heap.size
 same:∀ b,b < w.heap.size->¬ Own G H b->w'.heap[b]?=w.heap[b]?
theorem Fr.refl (G:Gh)(H:Hp)(w:World):Fr G H w w:=⟨rfl,rfl,rfl,Nat.le_refl _,fun _ _ _=>rfl⟩
structure Post (New:Nat->Prop)(G:Gh)(H:Hp)(w:World)(G':Gh)(H':Hp)(w':World):Prop where
 le:GLe G G'
 dom:∀ i,G i=none->¬ New i->G' i=none
 virt:∀ i,G i=none->¬ New i->H' i=H i
 alive:∀ i,H i=none->¬ New i->H' i=none
 own:∀ b,Own G' H' b->Own G H b∨w.heap.size<=b
 ro:∀ i o,H' i=some o->rwObj o=false->H i=some o
 fr:Fr G H w w'
 hr:HR G' H' w'
theorem Post.refl {New:Nat->Prop}{G:Gh}{H:Hp}{w:World}(h:HR G H w):Post New G H w G H w :=
 ⟨GLe.refl G,fun _ h _=>h,fun _ _ _=>rfl,fun _ h _=>h,fun _ h=>.inl h,fun _ _ h _=>h,Fr.refl ..,h⟩
theorem Post.trans {N1 N2:Nat->Prop}{G G1 G2:Gh}{H H1 H2:Hp}{w w1 w2:World}(h:Post N1 G H w G1 H1 w1)(h':Post N2 G1 H1 w1 G2 H2 w2):Post (fun i=>N1 i∨N2 i) G H w G2 H2 w2:=by
 refine⟨h.le.trans h'.le,?_,?_,?_,?_,?_,?_,h'.hr⟩
 ·intro i hi hn
  exact h'.dom i (h.dom i hi fun hx=>hn (.inl hx)) fun hx=>hn (.inr hx)
 ·intro i hi hn
  have h1:¬ N1 i:=fun hx=>hn (.inl hx)
  rw[h'.virt i (h.dom i hi h1) fun hx=>hn (.inr hx),h.virt i hi h1]
 ·intro i hi hn
  exact h'.alive i (h.alive i hi fun hx=>hn (.inl hx)) fun hx=>hn (.inr hx)
 ·intro b hb
  rcases h'.own b hb with hb|hb
  ·exact h.own b hb
  ·exact .inr (Nat.le_trans h.fr.size hb)
 ·intro i o hi ho;exact h.ro i o (h'.ro i o hi ho) ho
 ·refine⟨h'.fr.os.trans h.fr.os,h'.fr.tape.trans h.fr.tape,h'.fr.output.trans h.fr.output,Nat.le_trans h.fr.size h'.fr.size,?_⟩
  intro b hb hn
  rw[h'.fr.same b (Nat.lt_of_lt_of_le hb h.fr.size) fun hx=>?_,h.fr.same b hb hn]
  rcases h.own b hx with hx|hx
  ·exact hn hx
  ·omega
theorem Post.weaken {N1 N2:Nat->Prop}{G G':Gh}{H H':Hp}{w w':World}(h:Post N1 G H w G' H' w')(hn:∀ i,N1 i->N2 i):Post N2 G H w G' H' w' :=
 ⟨h.le,fun i hi hx=>h.dom i hi fun hy=>hx (hn i hy),fun i hi hx=>h.virt i hi fun hy=>hx (hn i hy),fun i hi hx=>h.alive i hi fun hy=>hx (hn i hy),h.own,h.ro,h.fr,h.hr⟩
theorem Post.drew {New:Nat->Prop}{G:Gh}{H:Hp}{w w':World}(h:HR G H w)(hh:w'.heap=w.heap)(ho:w'.os=w.os)(ht:w'.tape=w.tape)(hp:w'.output=w.output):Post New G H w G H w' :=
 ⟨GLe.refl G,fun _ h _=>h,fun _ _ _=>rfl,fun _ h _=>h,fun _ h=>.inl h,fun _ _ h _=>h,⟨ho,ht,hp,by rw[hh];exact Nat.le_refl _,fun _ _ _=>by rw[hh]⟩,h.world hh⟩
theorem Post.alloc {G:Gh}{H:Hp}{w w':World}(h:HR G H w){id:Nat}(hid:G id=none)(ob:Go.Obj)(o:Obj)(g:GI)(hrw:rwObj o=true)(hg:g.blk=w.heap.size)
  (hh:w'.heap=w.heap.push ob) (ho:w'.os=w.os) (ht:w'.tape=w.tape) (hp:w'.output=w.output) (hor:OR (G.set id g) g o (some ob)) :
  Post (·=id) G H w (G.set id g) (H.set id (some o)) w':=by
 have hle:=GLe.set g hid
 have old:∀ b,b < w.heap.size->w'.heap[b]?=w.heap[b]?:=by
  intro b hb;rw[hh,Array.getElem?_push];rw[if_neg (by omega)]
 have new:w'.heap[g.blk]?=some ob:=by rw[hh,hg];simp
 refine⟨hle,?_,?_,?_,?_,?_,?_,?_,?_⟩
 ·intro i hi hn;rw[Gh.set_ne _ _ hn];exact hi
 ·intro i _ hn;exact Hp.set_ne _ _ hn
 ·intro i hi hn;rw[Hp.set_ne _ _ hn];exact hi
 ·rintro b ⟨i,oi,gi,hi,hr,hgi,rfl⟩
  by_cases e:i=id
  ·subst e;rw[Gh.set_same]at hgi;cases hgi;exact .inr (Nat.le_of_eq hg.symm)
  ·rw[Hp.set_ne _ _ e]at hi;rw[Gh.set_ne _ _ e]at hgi;exact .inl ⟨i,oi,gi,hi,hr,hgi,rfl⟩
 ·intro i oi hi hr
  by_cases e:i=id
  ·subst e;rw[Hp.set_same]at hi;cases hi;rw[hrw]at hr;cases hr
  ·rw[Hp.set_ne _ _ e]at hi;exact hi
 ·exact⟨ho,ht,hp,by rw[hh];simp,fun b hb _=>old b hb⟩
 ·intro i oi gi hi hgi
  by_cases e:i=id
  ·subst e;rw[Hp.set_same]at hi;rw[Gh.set_same]at hgi;cases hi;cases hgi;rw[new];exact hor
  ·rw[Hp.set_ne _ _ e]at hi;rw[Gh.set_ne _ _ e]at hgi
   rw[old _ (h.lt hi hgi)];exact(h.obj i oi gi hi hgi).mono hle
 ·intro i j oi oj gi gj hij hi hj hr hgi hgj
  by_cases ei:i=id
  ·subst ei
   rw[Gh.set_same]at hgi;cases hgi
   rw[Hp.set_ne _ _ (Ne.symm hij)]at hj;rw[Gh.set_ne _ _ (Ne.symm hij)]at hgj
   have:=h.lt hj hgj;omega
  ·rw[Hp.set_ne _ _ ei]at hi;rw[Gh.set_ne _ _ ei]at hgi
   by_cases ej:j=id
   ·subst ej
    rw[Gh.set_same]at hgj;cases hgj
    have:=h.lt hi hgi;omega
   ·rw[Hp.set_ne _ _ ej]at hj;rw[Gh.set_ne _ _ ej]at hgj
    exact h.inj i j oi oj gi gj hij hi hj hr hgi hgj
theorem Post.write {New:Nat->Prop}{G:Gh}{H:Hp}{w w':World}(h:HR G H w){i:Nat}{o o':Obj}{g:GI}(hi:H i=some o)(hr:rwObj o=true)(hg:G i=some g)(hr':rwObj o'=true)
  (hs:w'.heap.size=w.heap.size) (hoth:∀ b,b≠g.blk->w'.heap[b]?=w.heap[b]?) (ho:w'.os=w.os) (ht:w'.tape=w.tape) (hp:w'.output=w.output) (hor:OR G g o' w'.heap[g.blk]?) :
  Post New G H w G (H.set i (some o')) w':=by
 refine⟨GLe.refl G,fun _ h _=>h,?_,?_,?_,?_,?_,?_,?_⟩
 ·intro j hj _
  refine Hp.set_ne _ _ fun e=>?_
  subst e;rw[hg]at hj;cases hj
 ·intro j hj _
  rw[Hp.set_ne]
  ·exact hj
  ·rintro rfl;rw[hi]at hj;cases hj
 ·rintro b ⟨j,oj,gj,hj,hrj,hgj,rfl⟩
  by_cases e:j=i
  ·subst e;rw[hg]at hgj;cases hgj;exact .inl ⟨j,o,g,hi,hr,hg,rfl⟩
  ·rw[Hp.set_ne _ _ e]at hj;exact .inl ⟨j,oj,gj,hj,hrj,hgj,rfl⟩
 ·intro j oj hj hrj
  by_cases e:j=i
  ·subst e;rw[Hp.set_same]at hj;cases hj;rw[hr']at hrj;cases hrj
  ·rw[Hp.set_ne _ _ e]at hj;exact hj
 ·refine⟨ho,ht,hp,by omega,fun b _ hn=>hoth b fun e=>hn ⟨i,o,g,hi,hr,hg,e.symm⟩⟩
 ·intro j oj gj hj hgj
  by_cases e:j=i
  ·subst e;rw[Hp.set_same]at hj;cases hj;rw[hg]at hgj;cases hgj;exact hor
  ·rw[Hp.set_ne _ _ e]at hj
   rw[hoth _ fun eb=>h.inj i j o oj g gj (Ne.symm e) hi hj hr hg hgj eb.symm]
   exact h.obj j oj gj hj hgj
 ·intro j k oj ok gj gk hjk hj hk hrj hgj hgk
  have alive:∀ x ox,(H.set i (some o')) x=some ox->rwObj ox=true->∃ oy,H x=some oy/\rwObj oy=true:=by
   intro x ox hx hrx
   by_cases e:x=i
   ·subst e;exact⟨o,hi,hr⟩
   ·rw[Hp.set_ne _ _ e]at hx;exact⟨ox,hx,hrx⟩
  obtain⟨oj',hj',hrj'⟩:=alive j oj hj hrj
  have:∃ oy,H k=some oy:=by
   by_cases e:k=i
   ·subst e;exact⟨o,hi⟩
   ·rw[Hp.set_ne _ _ e]at hk;exact⟨ok,hk⟩
  obtain⟨ok',hk'⟩:=this
  exact h.inj j k oj' ok' gj gk hjk hj' hk' hrj' hgj hgk
theorem Post.move {G:Gh}{H:Hp}{w w':World}(h:HR G H w){i id:Nat}{o o':Obj}{g:GI}(hid:G id=none)(hi:H i=some o)(hr:rwObj o=true)(hg:G i=some g)(hr':rwObj o'=true)(g':GI)(hb:g'.blk=g.blk)
  (hs:w'.heap.size=w.heap.size) (hoth:∀ b,b≠g.blk->w'.heap[b]?=w.heap[b]?) (ho:w'.os=w.os) (ht:w'.tape=w.tape) (hp:w'.output=w.output) (hor:OR (G.set id g') g' o' w'.heap[g.blk]?) :
  Post (·=id) G H w (G.set id g') ((H.set i none).set id (some o')) w':=by
 have hle:=GLe.set g' hid
 have hne:i≠id:=by rintro rfl;rw[hg]at hid;cases hid
 have look:∀ x ox,((H.set i none).set id (some o')) x=some ox->(x=id/\ox=o')∨(x≠id/\x≠i/\H x=some ox):=by
  intro x ox hx
  by_cases e:x=id
  ·subst e;rw[Hp.set_same]at hx;cases hx;exact .inl ⟨rfl,rfl⟩
  ·rw[Hp.set_ne _ _ e]at hx
   by_cases e2:x=i
   ·subst e2;rw[Hp.set_same]at hx;cases hx
   ·rw[Hp.set_ne _ _ e2]at hx;exact .inr ⟨e,e2,hx⟩
 refine⟨hle,?_,?_,?_,?_,?_,?_,?_,?_⟩
 ·intro j hj hn;rw[Gh.set_ne _ _ hn];exact hj
 ·intro j hj hn
  rw[Hp.set_ne _ _ hn,Hp.set_ne]
  rintro rfl;rw[hg]at hj;cases hj
 ·intro j hj hn
  rw[Hp.set_ne _ _ hn]
  by_cases e:j=i
  ·subst e;rw[Hp.set_same]
  ·rw[Hp.set_ne _ _ e];exact hj
 ·rintro b ⟨j,oj,gj,hj,hrj,hgj,rfl⟩
  rcases look j oj hj with⟨rfl,rfl⟩|⟨e,e2,hj⟩
  ·rw[Gh.set_same]at hgj;cases hgj;exact .inl ⟨i,o,g,hi,hr,hg,hb.symm⟩
  ·rw[Gh.set_ne _ _ e]at hgj;exact .inl ⟨j,oj,gj,hj,hrj,hgj,rfl⟩
 ·intro j oj hj hrj
  rcases look j oj hj with⟨rfl,rfl⟩|⟨e,e2,hj⟩
  ·rw[hr']at hrj;cases hrj
  ·exact hj
 ·exact⟨ho,ht,hp,by omega,fun b _ hn=>hoth b fun e=>hn ⟨i,o,g,hi,hr,hg,e.symm⟩⟩
 ·intro j oj gj hj hgj
  rcases look j oj hj with⟨rfl,rfl⟩|⟨e,e2,hj⟩
  ·rw[Gh.set_same]at hgj;cases hgj;rw[hb];exact hor
  ·rw[Gh.set_ne _ _ e]at hgj
   rw[hoth _ fun eb=>h.inj i j o oj g gj (Ne.symm e2) hi hj hr hg hgj eb.symm]
   exact(h.obj j oj gj hj hgj).mono hle
 ·intro j k oj ok gj gk hjk hj hk hrj hgj hgk
  rcases look j oj hj with⟨ej,eo⟩|⟨e,e2,hj2⟩
  ·rcases look k ok hk with⟨ek,eo2⟩|⟨e',e2',hk2⟩
   ·exact absurd (ej.trans ek.symm) hjk
   ·rw[ej,Gh.set_same]at hgj;cases hgj
    rw[Gh.set_ne _ _ e']at hgk
    rw[hb];exact h.inj i k o ok g gk (Ne.symm e2') hi hk2 hr hg hgk
  ·rw[Gh.set_ne _ _ e]at hgj
   rcases look k ok hk with⟨ek,eo⟩|⟨e',e2',hk2⟩
   ·rw[ek,Gh.set_same]at hgk;cases hgk
    rw[hb];exact fun eb=>h.inj i j o oj g gj (Ne.symm e2) hi hj2 hr hg hgj eb.symm
   ·rw[Gh.set_ne _ _ e']at hgk
    exact h.inj j k oj ok gj gk hjk hj2 hk2 hrj hgj hgk
theorem HR.kill {G:Gh}{H:Hp}{w:World}(h:HR G H w)(i:Nat):HR G (H.set i none) w:=by
 refine h.sub fun j o hj _=>?_
 by_cases e:j=i
 ·subst e;rw[Hp.set_same]at hj;cases hj
 ·rw[Hp.set_ne _ _ e]at hj;exact hj
theorem Post.killed {G G':Gh}{H H':Hp}{w w':World}{New:Nat->Prop}{i:Nat}{o:Obj}{g:GI}(hi:H i=some o)(hg:G i=some g)(h:Post New G (H.set i none) w G' H' w'):Post New G H w G' H' w':=by
 have own:∀ b,Own G (H.set i none) b->Own G H b:=by
  rintro b ⟨j,oj,gj,hj,hr,hgj,rfl⟩
  by_cases e:j=i
  ·subst e;rw[Hp.set_same]at hj;cases hj
  ·rw[Hp.set_ne _ _ e]at hj;exact⟨j,oj,gj,hj,hr,hgj,rfl⟩
 refine⟨h.le,h.dom,?_,?_,?_,?_,?_,h.hr⟩
 ·intro j hj hn
  rw[h.virt j hj hn,Hp.set_ne]
  rintro rfl;rw[hg]at hj;cases hj
 ·intro j hj hn
  refine h.alive j ?_ hn
  by_cases e:j=i
  ·subst e;rw[Hp.set_same]
  ·rw[Hp.set_ne _ _ e];exact hj
 ·intro b hb;exact(h.own b hb).imp (own b) id
 ·intro j oj hj hr
  have:=h.ro j oj hj hr
  by_cases e:j=i
  ·subst e;rw[Hp.set_same]at this;cases this
  ·rw[Hp.set_ne _ _ e]at this;exact this
 ·exact⟨h.fr.os,h.fr.tape,h.fr.output,h.fr.size,fun b hb hn=>h.fr.same b hb fun hx=>hn (own b hx)⟩
variable {P:Program}
theorem Yy {t:TypeId}{ti:TI}(h:tab P t=some ti):∃ i z,P.info? t=some i/\P.underlying t=some ti.desc/\i.zero=some z/\i.size=ti.size/\i.bytes=ti.bytes/\ti.zero=z.cells.toList/\ti.agg=aggDesc ti.desc:=by
 unfold tab at h
 simp only[Option.bind_eq_some_iff,Option.some.injEq]at h
 obtain⟨i,hi,d,hd,z,hz,rfl⟩:=h
 exact⟨i,z,hi,hd,hz,rfl,rfl,rfl,rfl⟩
theorem Wq {t:TypeId}{i:TypeInfo}(h:P.info? t=some i)(w:World):(sizeOf t).run P w=.ok i.size w:=by simp[sizeOf,typeInfo,h]
theorem run_typeInfo {t:TypeId}{i:TypeInfo}(h:P.info? t=some i)(w:World):(typeInfo t).run P w=.ok i w:=by simp[typeInfo,h]
theorem run_zeroValue {t:TypeId}{i:TypeInfo}{z:Value}(h:P.info? t=some i)(hz:i.zero=some z)(w:World):(zeroValue t).run P w=.ok z w:=by simp[zeroValue,typeInfo,h,hz]
theorem run_isAgg {t:TypeId}{d:TypeDesc}(h:P.underlying t=some d)(w:World):(Go.isAgg t).run P w=.ok (aggDesc d) w:=by
 unfold Go.isAgg
 rw[Sem.run_bind,run_underlying h w]
 cases d <;> rfl
theorem cellsAt_some {a:Value}{H:Hp}{p:List Value × Nat}(h:We a H=some p):∃ i e rw,a=.pointer (some ⟨i,p.2,none⟩)/\H i=some (.row p.1 e rw):=by
 unfold We at h
 split at h
 ·split at h
  ·cases h;exact⟨_,_,_,rfl,by assumption⟩
  ·cases h
 ·cases h
theorem VR.ptr {G:Gh}{i o:Nat}{a':Value}(h:VR G (.pointer (some ⟨i,o,none⟩)) a'):∃ g,G i=some g/\a'=.pointer (some ⟨g.blk,g.sh+o,none⟩):=by
 cases h with
 | p h=>cases h with
  | c h=>cases h with
   | s h=>cases h with
    | ptr h=>exact⟨_,h,rfl⟩
theorem CellsOk.get {G:Gh}{cs:List Value}{sh:Nat}{cs':Array Value}(h:CellsOk G cs sh cs'){j:Nat}{v:Value}(hj:cs[j]?=some v):∃ v',cs'[sh+j]?=some v'/\CR G v v':=by
 obtain⟨v',hv',hr⟩:=h.2.get hj
 rw[List.getElem?_take]at hv'
 split at hv'
 ·rw[List.getElem?_drop]at hv'
  exact⟨v',by rw[← Array.getElem?_toList];exact hv',hr⟩
 ·cases hv'
theorem CellsOk.sub {G:Gh}{cs:List Value}{sh:Nat}{cs':Array Value}(h:CellsOk G cs sh cs')(o n:Nat)(hn:o+n<=cs.length):All2 (CR G) ((cs.drop o).take n) ((cs'.toList.drop (sh+o)).take n):=by
 have:=(h.2.drop o).take n
 rw[List.drop_take,List.drop_drop,List.take_take]at this
 rwa [show min n (cs.length - o)=n from by omega]at this
theorem cell_of {w:World}{b:Nat}{cs:Array Value}{ty:TypeId}{fr:Nat × Nat}(h:w.heap[b]?=some (.cells cs ty fr)) (o:Nat):w.cell? ⟨b,o,none⟩=cs[o]?:=by simp[World.cell?,h]
theorem frozen_of {w:World}{b:Nat}{cs:Array Value}{ty:TypeId}{fr:Nat × Nat}(h:w.heap[b]?=some (.cells cs ty fr)) (hf:free fr cs.size)(o:Nat)(ho:o < cs.size):w.frozen? ⟨b,o,none⟩=false:=by
 simp only[World.frozen?,h]
 unfold free at hf
 simp only[Bool.and_eq_false_iff,decide_eq_false_iff_not]
 omega
theorem range_of {w:World}{b:Nat}{cs:Array Value}{ty:TypeId}{fr:Nat × Nat}(h:w.heap[b]?=some (.cells cs ty fr)) (o n:Nat):w.rangeAt b o ((cs.toList.drop o).take n):=by
 intro j v hj
 rw[cell_of h]
 rw[List.getElem?_take]at hj
 split at hj
 ·rw[List.getElem?_drop]at hj;rw[← Array.getElem?_toList];exact hj
 ·cases hj
theorem ld_sim {G:Gh}{H:Hp}{w:World}(hH:HR G H w){ty:TypeId}{ti:TI}(ht:tab P ty=some ti){a a' v:Value}(ha:VR G a a')(h:ld ti.agg ti.size a H=some v) :
  ∃ v',(Instr.loadAt ty a').run P w=.ok v' w/\PR G v v':=by
 obtain⟨i,z,h1,h2,h3,h4,h5,h6,h7⟩:=Yy ht
 unfold ld at h
 split at h
 ·rename_i hagg
  unfold lda at h
  simp only[Option.bind_eq_some_iff]at h
  obtain⟨p,hp,h⟩:=h
  split at h
  ·rename_i hle
   cases h
   obtain⟨b,e,rw_,rfl,hb⟩:=cellsAt_some hp
   obtain⟨g,hg,rfl⟩:=ha.ptr
   have hor:RowOk G g p.1 e rw_ w.heap[g.blk]?:=hH.obj b _ g hb hg
   obtain⟨⟨cs',ty',fr,e1,e2,e3⟩,_,_⟩:=hor
   have hsub:=e2.sub p.2 ti.size hle
   refine⟨.agg ((cs'.toList.drop (g.sh+p.2)).take ti.size).toArray,?_,.agg hsub⟩
   refine run_loadAt_mid w g.blk (g.sh+p.2) ty _ ti.desc (range_of e1 _ _) h2 ?_ ?_
   ·rw[h7]at hagg
    cases hd:ti.desc <;> rw[hd]at hagg <;> first|rfl|cases hagg
   ·rw[h1]
    simp only[Option.map_some,h4,Option.some.injEq]
    have:=hsub.length
    rw[List.length_take,List.length_drop]at this
    omega
  ·cases h
 ·rename_i hagg
  unfold ldc at h
  simp only[Option.bind_eq_some_iff]at h
  obtain⟨p,hp,h⟩:=h
  obtain⟨b,e,rw_,rfl,hb⟩:=cellsAt_some hp
  obtain⟨g,hg,rfl⟩:=ha.ptr
  have hor:RowOk G g p.1 e rw_ w.heap[g.blk]?:=hH.obj b _ g hb hg
  obtain⟨⟨cs',ty',fr,e1,e2,e3⟩,_,_⟩:=hor
  obtain⟨v',hv',hr⟩:=e2.get h
  refine⟨v',?_,.c hr⟩
  have hq:aggDesc ti.desc=false:=by rw[← h7];simpa using hagg
  simp only[Instr.loadAt,Instr.sureAddr,loadVar,Sem.run_bind,Sem.run_pure,Result.andThen_ok,run_isAgg h2,hq,Bool.false_eq_true,if_false,run_load,cell_of e1,hv']
def setR (a:Array Value):Nat->List Value->Array Value
 | _,[]=>a
 | o,v :: r=>setR (a.setIfInBounds o v) (o+1) r
theorem setR_size (a:Array Value)(o:Nat)(l:List Value):(setR a o l).size=a.size:=by
 induction l generalizing a o with
 | nil=>rfl
 | cons v r ih=>unfold setR;rw[ih];simp
theorem setR_get (l:List Value):∀ (a:Array Value)(o i:Nat),(setR a o l)[i]?=if o<=i/\i < o+l.length/\i < a.size then l[i - o]? else a[i]?:=by
 induction l with
 | nil=>intro a o i;simp[setR];intros;omega
 | cons v r ih=>
  intro a o i
  unfold setR
  rw[ih]
  simp only[Array.size_setIfInBounds,List.length_cons]
  by_cases h:i=o
  ·subst h
   rw[if_neg (by omega)]
   by_cases hs:i < a.size
   ·rw[if_pos (by omega)];simp[hs]
   ·rw[if_neg (by omega)]
    rw[Array.getElem?_eq_none (by simp;omega),Array.getElem?_eq_none (by omega)]
  ·by_cases h2:o+1<=i/\i < o+1+r.length/\i < a.size
   ·rw[if_pos h2,if_pos (by omega)]
    rw[show i - o=(i - (o+1))+1 from by omega,List.getElem?_cons_succ]
   ·rw[if_neg h2,if_neg (by omega),Array.getElem?_setIfInBounds_ne (by omega)]
theorem setR_list (a:Array Value)(o:Nat)(l:List Value)(h:o+l.length<=a.size):(setR a o l).toList=Yz a.toList o l:=by
 apply List.ext_getElem?
 intro i
 rw[Array.getElem?_toList,setR_get]
 unfold Yz
 by_cases h1:i < o
 ·rw[if_neg (by omega),List.append_assoc,List.getElem?_append_left (by simp;omega),List.getElem?_take,if_pos h1,Array.getElem?_toList]
 ·by_cases h2:i < o+l.length
  ·rw[if_pos (by omega),List.append_assoc,List.getElem?_append_right (by simp;omega)]
   simp only[List.length_take,Array.length_toList]
   rw[show i - min o a.size=i - o from by omega,List.getElem?_append_left (by omega)]
  ·rw[if_neg (by omega),List.getElem?_append_right (by simp;omega)]
   simp only[List.length_append,List.length_take,Array.length_toList,List.getElem?_drop]
   rw[show o+l.length+(i - (min o a.size+l.length))=i from by omega,Array.getElem?_toList]
theorem Ue (cs:List Value)(o:Nat)(vs:List Value)(h:o+vs.length<=cs.length):(Yz cs o vs).length=cs.length:=by
 unfold Yz;simp only[List.length_append,List.length_take,List.length_drop];omega
theorem setAt_append (X Y:List Value)(o:Nat)(vs:List Value)(h:o+vs.length<=X.length):Yz (X++Y) o vs=Yz X o vs++Y:=by
 unfold Yz
 rw[List.take_append_of_le_length (by omega),List.drop_append_of_le_length (by omega)]
 simp
theorem heap_setCells_same (b:Nat)(ty:TypeId)(fr:Nat × Nat):∀ (vs:List Value)(o:Nat)(w:World)(cs:Array Value),w.heap[b]?=some (.cells cs ty fr)->(w.setCells b o vs).heap[b]?=some (.cells (setR cs o vs) ty fr):=by
 intro vs
 induction vs with
 | nil=>intro o w cs h;exact h
 | cons v r ih=>
  intro o w cs h
  refine ih (o+1) _ _ ?_
  unfold World.setCell
  simp only[Array.getElem?_modify,if_true,h,Option.map_some,Option.isSome_none,Bool.false_eq_true,if_false]
theorem heap_setCells_ne (b b':Nat)(hb:b'≠b):∀ (vs:List Value)(o:Nat)(w:World),(w.setCells b o vs).heap[b']?=w.heap[b']?:=by
 intro vs
 induction vs with
 | nil=>intros;rfl
 | cons v r ih=>
  intro o w
  rw[World.setCells,ih]
  unfold World.setCell
  simp only[Array.getElem?_modify]
  rw[if_neg (Ne.symm hb)]
theorem setCells_rest (b:Nat):∀ (vs:List Value)(o:Nat)(w:World),(w.setCells b o vs).heap.size=w.heap.size/\(w.setCells b o vs).os=w.os/\(w.setCells b o vs).tape=w.tape/\(w.setCells b o vs).output=w.output:=by
 intro vs
 induction vs with
 | nil=>intros;exact⟨rfl,rfl,rfl,rfl⟩
 | cons v r ih=>
  intro o w
  obtain⟨h1,h2,h3,h4⟩:=ih (o+1) (w.setCell ⟨b,o,none⟩ v)
  refine⟨?_,h2,h3,h4⟩
  rw[World.setCells,h1]
  simp[World.setCell]
theorem CellsOk.set {G:Gh}{cs:List Value}{cs':Array Value}(h:CellsOk G cs 0 cs'){o:Nat}{vs vs':List Value}(hv:All2 (CR G) vs vs') (hle:o+vs.length<=cs.length):CellsOk G (Yz cs o vs) 0 (setR cs' o vs'):=by
 have hl:=hv.length
 have h1:=h.1
 refine⟨by rw[Ue _ _ _ hle,setR_size];exact h1,?_⟩
 rw[setR_list _ _ _ (by omega),Ue _ _ _ hle,List.drop_zero]
 have h2:=h.2
 rw[List.drop_zero]at h2
 have hx:(cs'.toList.take cs.length).length=cs.length:=by simp;omega
 have e1:(Yz cs'.toList o vs').take cs.length=Yz (cs'.toList.take cs.length) o vs':=by
  conv=>lhs;rw[← List.take_append_drop cs.length cs'.toList]
  rw[setAt_append _ _ _ _ (by omega),List.take_append_of_le_length (by rw[Ue _ _ _ (by omega)];omega),List.take_of_length_le (by rw[Ue _ _ _ (by omega)];omega)]
 rw[e1]
 unfold Yz
 rw[← hl]
 exact((h2.take o).append hv).append (h2.drop _)
theorem stv_some {a:Value}{vs:List Value}{H H':Hp}(h:stv a vs H=some H'):∃ i o cs e,a=.pointer (some ⟨i,o,none⟩)/\H i=some (.row cs e true)/\o+vs.length<=cs.length/\H'=H.set i (some (.row (Yz cs o vs) e true)):=by
 unfold stv at h
 split at h
 ·split at h
  ·split at h
   ·cases h;exact⟨_,_,_,_,rfl,by assumption,by assumption,rfl⟩
   ·cases h
  ·cases h
 ·cases h
theorem stv_sim {G:Gh}{H H':Hp}{w:World}(hH:HR G H w){New:Nat->Prop}{a a':Value}(ha:VR G a a'){vs vs':List Value}(hv:All2 (CR G) vs vs') (h:stv a vs H=some H') :
  ∃ b o,a'=.pointer (some ⟨b,o,none⟩)/\w.there b o vs'.length/\Post New G H w G H' (w.setCells b o vs'):=by
 obtain⟨i,o,cs,e,rfl,hi,hle,rfl⟩:=stv_some h
 obtain⟨g,hg,rfl⟩:=ha.ptr
 have hor:RowOk G g cs e true w.heap[g.blk]?:=hH.obj i _ g hi hg
 obtain⟨⟨cs',ty,fr,e1,e2,e3⟩,e4,e5⟩:=hor
 obtain⟨s0,s1,s2⟩:=e3 rfl
 have hl:=hv.length
 rw[s0]at e2
 have hsz:=e2.1
 refine⟨g.blk,g.sh+o,rfl,?_,?_⟩
 ·intro j hj
  rw[s0,Nat.zero_add]
  have hlt:o+j < cs'.size:=by omega
  exact⟨by rw[cell_of e1];simp[hlt],frozen_of e1 s2 _ hlt⟩
 ·obtain⟨r1,r2,r3,r4⟩:=setCells_rest g.blk vs' (g.sh+o) w
  refine Post.write hH hi rfl hg rfl r1 (fun b hb=>heap_setCells_ne _ _ hb _ _ _) r2 r3 r4 ?_
  show RowOk G g _ e true _
  refine⟨⟨_,_,_,heap_setCells_same g.blk ty fr vs' (g.sh+o) w cs' e1,?_,?_⟩,e4,e5⟩
  ·rw[s0,Nat.zero_add];exact e2.set hv hle
  ·intro _;rw[setR_size];exact⟨s0,s1,s2⟩
theorem st_sim {G:Gh}{H H':Hp}{w:World}(hH:HR G H w){New:Nat->Prop}{ty:TypeId}{ti:TI}(ht:tab P ty=some ti){a a' v v':Value}(ha:VR G a a')(hv:VR G v v')(h:st ti.agg ti.size a v H=some H') :
  ∃ w',(Instr.storeAt ty a' v').run P w=.ok () w'/\Post New G H w G H' w':=by
 obtain⟨i,z,h1,h2,h3,h4,h5,h6,h7⟩:=Yy ht
 have key:∀ vs vs':List Value,All2 (CR G) vs vs'->v'.cells=⟨vs'⟩->vs.length=ti.size->stv a vs H=some H'->∃ w',(Instr.storeAt ty a' v').run P w=.ok () w'/\Post New G H w G H' w':=by
  intro vs vs' hvs hc hl hst
  obtain⟨b,o,rfl,hth,hpost⟩:=stv_sim (New:=New) hH ha hvs hst
  refine⟨_,?_,hpost⟩
  have hlen:=hvs.length
  have hone:∀ x∈vs',x.oneCell'=true:=fun x hx=>by obtain⟨y,_,hr⟩:=hvs.mem_right hx;exact hr.one
  have:=run_storeCells_cells (P:=P) b o vs' 0 w (fun j hj=>by simpa using (hth j hj).1) (fun j hj=>by simpa using (hth j hj).2) hone
  simp only[Nat.add_zero]at this
  have hs:(⟨vs'⟩:Array Value).size=i.size:=by rw[h4,← hl,hlen];rfl
  simp only[Instr.storeAt,Instr.sureAddr,storeVar,Sem.run_bind,Sem.run_pure,Result.andThen_ok,Wq h1,Sem.run_ite,ne_eq,hc,this]
  exact if_neg fun hx=>hx hs
 unfold st at h
 split at h
 ·rename_i cs heq
  split at h
  ·rename_i hl
   cases hv with
   | p hv=>cases hv with
    | c hv=>exact absurd hv.cell (by simp[isCell])
    | agg hv=>exact key _ _ hv rfl hl h
  ·cases h
 ·cases h
 ·cases h
 ·cases h
 ·rename_i x y hn1 hn2
  split at h
  ·rename_i hsz
   cases hv with
   | tup hv=>exact absurd rfl (hn2 _)
   | p hv=>cases hv with
    | agg hv=>exact absurd rfl (hn1 _)
    | c hv=>
     refine key [_] [v'] (.one hv) ?_ (by simp[hsz]) h
     have:=hv.one
     cases v' <;> first|rfl|cases this
  ·cases h
variable {P:Program}
theorem flat_get (z:List Value)(k:Nat)(hk:z.length=k):∀ (n i:Nat),i < n * k->(List.replicate n z).flatten[i]?=z[i % k]?:=by
 intro n
 induction n with
 | zero=>intro i h;omega
 | succ n ih=>
  intro i h
  rw[List.replicate_succ,List.flatten_cons]
  by_cases hi:i < k
  ·rw[List.getElem?_append_left (by omega),Nat.mod_eq_of_lt hi]
  ·rw[List.getElem?_append_right (by omega),hk,ih (i - k) (by rw[Nat.succ_mul]at h;omega),← Nat.mod_eq_sub_mod (by omega)]
theorem flat_length (z:List Value)(n:Nat):(List.replicate n z).flatten.length=n * z.length:=by
 induction n with
 | zero=>simp
 | succ n ih=>rw[List.replicate_succ,List.flatten_cons,List.length_append,ih,Nat.succ_mul];omega
theorem range_flat (z:Array Value)(n k:Nat)(hk:z.size=k):((Array.range (n * k)).map (fun i=>z[i % k]!)).toList=(List.replicate n z.toList).flatten:=by
 apply List.ext_getElem?
 intro i
 by_cases hi:i < n * k
 ·rw[flat_get _ k (by simpa using hk) n i hi]
  have h0:0 < k:=by
   rcases Nat.eq_zero_or_pos k with h|h
   ·subst h;omega
   ·exact h
  have hm:i % k < z.size:=by rw[hk];exact Nat.mod_lt _ h0
  simp[hi,hm]
 ·rw[List.getElem?_eq_none (by simp;omega),List.getElem?_eq_none (by rw[flat_length];simp;rw[hk];omega)]
theorem CellsOk.new {G:Gh}{cs cs' room:List Value}(h:All2 (CR G) cs cs'):CellsOk G cs 0 ⟨cs'++room⟩:=by
 have hl:=h.length
 refine⟨?_,?_⟩
 ·show 0+cs.length<=(cs'++room).length
  simp;omega
 ·show All2 (CR G) cs (((cs'++room).drop 0).take cs.length)
  rw[List.drop_zero,List.take_append_of_le_length (by omega),List.take_of_length_le (by omega)]
  exact h
theorem Post.row {G:Gh}{H:Hp}{w w':World}(h:HR G H w){id:Nat}(hid:G id=none){cs cs' room:List Value}(hc:All2 (CR G) cs cs') (e:Nat)(ty:TypeId)(fr:Nat × Nat)(hf:free fr (cs'++room).length)
  (hh:w'.heap=w.heap.push (.cells ⟨cs'++room⟩ ty fr)) (ho:w'.os=w.os) (ht:w'.tape=w.tape) (hp:w'.output=w.output) :
  Post (·=id) G H w (G.set id ⟨w.heap.size,0,(cs'++room).length,e,true⟩) (H.set id (some (.row cs e true))) w':=by
 refine Post.alloc h hid _ _ _ rfl rfl hh ho ht hp ?_
 show RowOk _ _ cs e true _
 exact⟨⟨_,_,_,rfl,CellsOk.new (hc.mono fun _ _=>CR.mono (GLe.set _ hid)),fun _=>⟨rfl,rfl,hf⟩⟩,rfl,fun _=>rfl⟩
theorem alloc_sim {G:Gh}{H:Hp}{w:World}(hH:HR G H w){id:Nat}(hid:G id=none){ty:TypeId}{ti:TI}(ht:tab P ty=some ti)(hz:ti.zero.all gnd1=true) :
  ∃ v' w' G',(Instr.alloc ty true (.tuple #[])).run P w=.ok v' w'/\VR G' (ptr id 0) v'/\Post (·=id) G H w G' (H.set id (some (.row ti.zero 0 true))) w':=by
 obtain⟨i,z,h1,h2,h3,h4,h5,h6,h7⟩:=Yy ht
 have hp:=Post.row (w':={ w with heap:=w.heap.push (.cells ⟨ti.zero++[]⟩ ty) }) hH hid (gnds_cr (G:=G) hz) (room:=[]) 0 ty (0,0) (.inl rfl) rfl rfl rfl rfl
 refine⟨.pointer (some ⟨w.heap.size,0,none⟩),_,_,?_,?_,hp⟩
 ·simp only[Instr.alloc,Sem.run_bind,run_zeroValue h1 h3,Result.andThen_ok,newVar,newRow,run_newObj,Sem.run_pure]
  rw[List.append_nil,h6]
 ·exact .sr (.ptr (i:=id) (o:=0) (Gh.set_same _ _ _))
theorem box_sim {G:Gh}{H:Hp}{w:World}(hH:HR G H w){id:Nat}(hid:G id=none)(ty:TypeId){v v':Value}(hv:VR G v v'){cs:List Value}(hc:Zs v=some cs) :
  ∃ u w' G',(Instr.box ty v').run P w=.ok u w'/\VR G' (ptr id 0) u/\Post (·=id) G H w G' (H.set id (some (.row cs 0 true))) w':=by
 obtain⟨cs',h1,h2⟩:=vcells_cr hv hc
 have hp:=Post.row (w':={ w with heap:=w.heap.push (.cells ⟨cs'++[]⟩ ty) }) hH hid h2 (room:=[]) 0 ty (0,0) (.inl rfl) rfl rfl rfl rfl
 refine⟨.pointer (some ⟨w.heap.size,0,none⟩),_,_,?_,?_,hp⟩
 ·simp only[Instr.box,Sem.run_bind,newVar,newRow,run_newObj,Result.andThen_ok,Sem.run_pure,h1]
  rw[List.append_nil]
 ·exact .sr (.ptr (i:=id) (o:=0) (Gh.set_same _ _ _))
theorem foldl_setR (off:Nat):∀ (l:List Value)(j:Nat)(cs:Array Value),(l.zipIdx j).foldl (fun cs (p:Value × Nat)=>cs.setIfInBounds (off+p.2) p.1) cs=setR cs (off+j) l:=by
 intro l
 induction l with
 | nil=>intros;rfl
 | cons v r ih=>intro j cs;rw[List.zipIdx_cons,List.foldl_cons,ih];rfl
theorem fold_setR (off:Nat)(v cs:Array Value):v.zipIdx.foldl (fun cs (p:Value × Nat)=>cs.setIfInBounds (off+p.2) p.1) cs=setR cs off v.toList:=by
 rw[← Array.foldl_toList,Array.toList_zipIdx]
 exact foldl_setR off v.toList 0 cs
inductive Parts (G:Gh) (place:Nat->Option (Nat × Nat)):List (Nat × Nat × Value)->List (Nat × Value)->Prop
 | nil:Parts G place [] []
 | cons {off sz i:Nat}{v v':Value}{l:List (Nat × Nat × Value)}{m:List (Nat × Value)}:place i=some (off,sz)->VR G v v'->Parts G place l m->Parts G place ((off,sz,v) :: l) ((i,v') :: m)
theorem fill_sim {G:Gh}{place:Nat->Option (Nat × Nat)}{ps:List (Nat × Nat × Value)}{qs:List (Nat × Value)}(h:Parts G place ps qs) :
  ∀ {cells:List Value}{cells':Array Value}{cs:List Value},All2 (CR G) cells cells'.toList->fill cells ps=some cs->∃ cs':Array Value,Instr.fill place cells' qs=some cs'/\All2 (CR G) cs cs'.toList:=by
 induction h with
 | nil=>intro cells cells' cs hc hf;cases hf;exact⟨cells',rfl,hc⟩
 | @cons off sz i v v' l m hpl hv _ ih=>
  intro cells cells' cs hc hf
  unfold fill at hf
  simp only[Option.bind_eq_some_iff]at hf
  obtain⟨vs,hvs,hf⟩:=hf
  split at hf
  ·rename_i hle
   obtain⟨vs',hv',hcr⟩:=vcells_cr hv hvs
   have l1:=hcr.length
   have l2:=hc.length
   have hk:CellsOk G cells 0 cells':=⟨by simp at l2;omega,by rw[List.drop_zero,List.take_of_length_le (by omega)];exact hc⟩
   have hk2:=hk.set (o:=off) hcr (by omega)
   have hset:All2 (CR G) (Yz cells off vs) (setR cells' off vs').toList:=by
    have:=hk2.2
    rw[List.drop_zero,List.take_of_length_le]at this
    ·exact this
    ·rw[Ue _ _ _ (by omega)];simp[setR_size];simp at l2;omega
   obtain⟨cs',h1,h2⟩:=ih hset hf
   refine⟨cs',?_,h2⟩
   unfold Instr.fill
   rw[hpl]
   simp only[hv']
   rw[if_neg]
   ·rw[fold_setR];exact h1
   ·have e1:(⟨vs'⟩:Array Value).size=vs'.length:=rfl
    have e2:cells.length=cells'.size:=by rw[l2,Array.length_toList]
    simp only[e1,ne_eq,Bool.or_eq_true,decide_eq_true_eq]
    omega
  ·cases hf
theorem fieldAt_some {s:TypeId}{f:Nat}{p:Nat × TI}(h:fieldAt P s f=some p):∃ fs fd,P.underlying s=some (.struct fs)/\fs[f]?=some fd/\p.1=fd.offset/\tab P fd.type=some p.2/\p.2.size≠0:=by
 unfold fieldAt at h
 simp only[Option.bind_eq_some_iff]at h
 obtain⟨ti,ht,h⟩:=h
 split at h
 ·rename_i fs hd
  simp only[Option.bind_eq_some_iff]at h
  obtain⟨fd,hfd,tf,htf,h⟩:=h
  split at h
  ·cases h
  ·cases h
   obtain⟨i,z,_,h2,_⟩:=Yy ht
   exact⟨fs,fd,by rw[h2,hd],by rw[← Array.getElem?_toList];exact hfd,rfl,htf,by assumption⟩
 ·cases h
theorem elemT_some {t:TypeId}{te:TI}(h:elemT P t=some te):∃ e,P.underlying t=some (.slice e)/\tab P e=some te:=by
 unfold elemT at h
 simp only[Option.bind_eq_some_iff]at h
 obtain⟨ti,ht,h⟩:=h
 split at h
 ·rename_i e hd
  obtain⟨i,z,_,h2,_⟩:=Yy ht
  exact⟨e,by rw[h2,hd],h⟩
 ·cases h
theorem places_get:∀ (l:List Field),(l.all fun f=>(tab P f.type).isSome)=true->∃ r,l.mapM (fun(f:Field)=>(P.info? f.type).map fun i=>(f.offset,i.size))=some r/\∀ (i:Nat)(f:Field)(ti:TI),l[i]?=some f->tab P f.type=some ti->r[i]?=some (f.offset,ti.size):=by
 intro l
 induction l with
 | nil=>intro _;exact⟨[],rfl,by simp⟩
 | cons f l ih=>
  intro h
  simp only[List.all_cons,Bool.and_eq_true]at h
  obtain⟨r,hr,hg⟩:=ih h.2
  obtain⟨tf,htf⟩:=Option.isSome_iff_exists.1 h.1
  obtain⟨i,z,h1,_,_,h4,_⟩:=Yy htf
  refine⟨(f.offset,i.size) :: r,?_,?_⟩
  ·simp only[List.mapM_cons,h1,Option.map_some,hr];rfl
  ·intro k g tg hk htg
   cases k with
   | zero=>
    simp only[List.getElem?_cons_zero,Option.some.injEq]at hk
    subst hk
    rw[htf]at htg;cases htg
    simp[h4]
   | succ k=>simp only[List.getElem?_cons_succ]at hk ⊢;exact hg k g tg hk htg
theorem places_parts {G:Gh}{ty:TypeId}{fs:Array Field}(hu:P.underlying ty=some (.struct fs)){f:Operand->Value}{ρ:Operand->Value}{r:List (Nat × Nat)}
  (hr:∀ (i:Nat) (f:Field) (ti:TI),fs.toList[i]?=some f->tab P f.type=some ti->r[i]?=some (f.offset,ti.size)):∀ (l:List (Nat × Operand)) (ps:List (Nat × Nat × Value)),(∀ x∈l,VR G (f x.2) (ρ x.2))->places P ty f l=some ps ->
  Parts G (fun i=>r[i]?) ps (l.map fun p=>(p.1,ρ p.2)):=by
 intro l
 induction l with
 | nil=>intro ps _ h;cases h;exact .nil
 | cons p l ih=>
  intro ps hv h
  obtain⟨i,x⟩:=p
  unfold places at h
  simp only[Option.bind_eq_some_iff,Option.some.injEq]at h
  obtain⟨q,hq,ps',hps,rfl⟩:=h
  obtain⟨fs',fd,h1,h2,h3,h4,h5⟩:=fieldAt_some hq
  rw[hu]at h1;cases h1
  refine .cons ?_ (hv (i,x) (List.mem_cons_self ..)) (ih ps' (fun y hy=>hv y (List.mem_cons_of_mem _ hy)) hps)
  rw[h3];exact hr i fd q.2 (by rw[Array.getElem?_toList];exact h2) h4
theorem build_sim {G:Gh}{w:World}{ty:TypeId}{ti:TI}(ht:tab P ty=some ti)(hs:isStruct P ty=true)(hz:ti.zero.all gnd1=true){f ρ:Operand->Value}{parts:Array (Nat × Operand)}
  (hv:∀ x∈parts.toList,VR G (f x.2) (ρ x.2)) {ps:List (Nat × Nat × Value)} (hp:places P ty f parts.toList=some ps) {v:Value} (hb:Xf ti.zero ps=some v) :
  ∃ v',(Instr.build ty (parts.map fun(i,x)=>(i,ρ x))).run P w=.ok v' w/\VR G v v':=by
 obtain⟨i,z,h1,h2,h3,h4,h5,h6,h7⟩:=Yy ht
 unfold isStruct dsc at hs
 rw[ht]at hs
 simp only[Option.map_some]at hs
 cases hd:ti.desc <;> rw[hd]at hs h2 <;> try(simp at hs;done)
 rename_i fs
 obtain⟨r,hr,hg⟩:=places_get fs.toList hs
 unfold Xf at hb
 simp only[Option.bind_eq_some_iff,Option.some.injEq]at hb
 obtain⟨cs,hcs,rfl⟩:=hb
 have hparts:=places_parts (G:=G) h2 hg parts.toList ps hv hp
 obtain⟨cs',e1,e2⟩:=fill_sim hparts (cells':=z.cells) (by rw[← h6];exact gnds_cr hz) hcs
 refine⟨.agg cs',run_build w ty _ cs' ?_,.p (.agg (by simpa using e2))⟩
 unfold Program.built
 rw[h1,h2]
 simp only[h3,hr]
 rw[show(parts.map fun x=>(x.1,ρ x.2)).toList=parts.toList.map fun p=>(p.1,ρ p.2)from by simp]
 simpa using e1
theorem elems_parts {G:Gh}(sz:Nat){f ρ:Operand->Value}:∀ (l:List (Nat × Operand)),(∀ x∈l,VR G (f x.2) (ρ x.2))->Parts G (fun i=>some (i * sz,sz)) (elems sz f l) (l.map fun p=>(p.1,ρ p.2)):=by
 intro l
 induction l with
 | nil=>intro _;exact .nil
 | cons p l ih=>
  intro hv
  obtain⟨i,x⟩:=p
  exact .cons rfl (hv (i,x) (List.mem_cons_self ..)) (ih fun y hy=>hv y (List.mem_cons_of_mem _ hy))
theorem gnds_flat {G:Gh}{z:List Value}(hz:z.all gnd1=true)(n:Nat):All2 (CR G) (List.replicate n z).flatten (List.replicate n z).flatten:=by
 refine All2.refl_of fun x hx=>?_
 simp only[List.mem_flatten,List.mem_replicate]at hx
 obtain⟨l,⟨_,rfl⟩,hx⟩:=hx
 exact .s (gnd1_sr (List.all_eq_true.1 hz x hx))
theorem VR.sl_new {G:Gh}{id:Nat}{g:GI}(hg:G id=some g)(hs:g.sh=0)(n c':Nat)(hn:n<=c')(hc:c' * g.esz<=g.tot):VR G (Ax.sl id 0 n) (.slice (some ⟨g.blk,0,none⟩) n c'):=by
 have:=SR.sl (i:=id) (o:=0) (c:=0) hg hn fun _ _=>hc
 rw[hs]at this
 exact .sr this
theorem bsl_sim {G:Gh}{H H':Hp}{w:World}(hH:HR G H w){id:Nat}(hid:G id=none){ty:TypeId}{te:TI}(ht:elemT P ty=some te)(hz:te.zero.all gnd1=true){f ρ:Operand->Value}{n:Nat}{parts:Array (Nat × Operand)}
  (hv:∀ x∈parts.toList,VR G (f x.2) (ρ x.2)) {v:Value} (h:Xx id te.size n te.zero (elems te.size f parts.toList) H=some (v,H')) :
  ∃ v' w' G',(Instr.buildSlice ty n (parts.map fun(i,x)=>(i,ρ x))).run P w=.ok v' w'/\VR G' v v'/\Post (·=id) G H w G' H' w':=by
 obtain⟨e,hu,hte⟩:=elemT_some ht
 obtain⟨i,z,h1,h2,h3,h4,h5,h6,h7⟩:=Yy hte
 unfold Xx at h
 split at h
 ·rename_i hb
  obtain⟨hb1,hb2⟩:=hb
  simp only[Option.bind_eq_some_iff,Option.some.injEq,Prod.mk.injEq]at h
  obtain⟨cs,hcs,rfl,rfl⟩:=h
  have hzs:z.cells.size=te.size:=by rw[← hb2,h6];simp
  have hzero:∀ (zz:Array Value),(n * te.size=0/\zz=#[])∨(n * te.size≠0/\zz=z.cells)->((Array.range (n * te.size)).map (fun j=>zz[j % zz.size]!)).toList=(List.replicate n te.zero).flatten:=by
   rintro zz (⟨h0,rfl⟩|⟨h0,rfl⟩)
   ·rw[h0]
    apply List.ext_getElem?
    intro j
    rw[List.getElem?_eq_none (by simp),List.getElem?_eq_none (by rw[flat_length,hb2];omega)]
   ·rw[h6,hzs]
    exact range_flat z.cells n te.size hzs
  have go:∀ zz:Array Value,(n * te.size=0/\zz=#[])∨(n * te.size≠0/\zz=z.cells)->∃ cs':Array Value,Instr.fill (fun i=>some (i * te.size,te.size)) ((Array.range (n * te.size)).map (fun j=>zz[j % zz.size]!)) (parts.map fun x=>(x.1,ρ x.2)).toList=some cs'/\All2 (CR G) cs cs'.toList:=by
   intro zz hzz
   refine fill_sim (place:=fun i=>some (i * te.size,te.size)) ?_ (by rw[hzero zz hzz];exact gnds_flat hz n) hcs
   rw[show(parts.map fun x=>(x.1,ρ x.2)).toList=parts.toList.map fun p=>(p.1,ρ p.2)from by simp]
   exact elems_parts te.size _ hv
  have fin:∀ cs':Array Value,All2 (CR G) cs cs'.toList->cs.length=n * te.size->∃ w' G',VR G' (Ax.sl id 0 n) (.slice (some ⟨w.heap.size,0,none⟩) n n)/\Post (·=id) G H w G' (H.set id (some (.row cs te.size true))) w'/\w'={ w with heap:=w.heap.push (.cells cs' e) }:=by
   intro cs' hc hl
   have hp:=Post.row (w':={ w with heap:=w.heap.push (.cells ⟨cs'.toList++[]⟩ e) }) hH hid hc (room:=[]) te.size e (0,0) (.inl rfl) rfl rfl rfl rfl
   refine⟨_,_,VR.sl_new (Gh.set_same _ _ _) rfl n n (Nat.le_refl _) ?_,hp,?_⟩
   ·show n * te.size<=(cs'.toList++[]).length
    rw[List.append_nil,← hc.length,hl];exact Nat.le_refl _
   ·rw[List.append_nil]
  have hlen:cs.length=n * te.size:=by
   have:∀ (ps:List (Nat × Nat × Value)) (c0 c1:List Value),fill c0 ps=some c1->c1.length=c0.length:=by
    intro ps
    induction ps with
    | nil=>intro c0 c1 h;cases h;rfl
    | cons p ps ih=>
     intro c0 c1 h
     obtain⟨off,sz,v⟩:=p
     unfold fill at h
     simp only[Option.bind_eq_some_iff]at h
     obtain⟨vs,_,h⟩:=h
     split at h
     ·rename_i hle
      rw[ih _ _ h,Ue _ _ _ (by omega)]
     ·cases h
   rw[this _ _ _ hcs,flat_length,hb2]
  by_cases h0:n * te.size=0
  ·obtain⟨cs',e1,e2⟩:=go #[] (.inl ⟨h0,rfl⟩)
   obtain⟨w',G',f1,f2,rfl⟩:=fin cs' e2 hlen
   refine⟨_,_,G',?_,f1,f2⟩
   simp only[Instr.buildSlice,Sem.run_bind,run_underlying hu,Result.andThen_ok,Wq h1,h4]
   rw[if_neg (by omega),if_pos h0]
   simp only[Sem.run_bind,Sem.run_pure,Result.andThen_ok,e1,newRow,run_newObj]
  ·obtain⟨cs',e1,e2⟩:=go z.cells (.inr ⟨h0,rfl⟩)
   obtain⟨w',G',f1,f2,rfl⟩:=fin cs' e2 hlen
   refine⟨_,_,G',?_,f1,f2⟩
   simp only[Instr.buildSlice,Sem.run_bind,run_underlying hu,Result.andThen_ok,Wq h1,h4]
   rw[if_neg (by omega),if_neg h0]
   simp only[Sem.run_bind,run_zeroValue h1 h3,Sem.run_pure,Result.andThen_ok,e1,newRow,run_newObj]
 ·cases h
theorem mks_sim {G:Gh}{H H':Hp}{w:World}(hH:HR G H w){id:Nat}(hid:G id=none){ty:TypeId}{te:TI}(ht:elemT P ty=some te)(hz:te.zero.all gnd1=true){l c l' c':Value}(hl:VR G l l')(hc:VR G c c')
  {v:Value} (h:mks id te.size te.bytes te.zero l c H=some (v,H')):∃ v' w' G',(Instr.makeSlice ty l' c').run P w=.ok v' w'/\VR G' v v'/\Post (·=id) G H w G' H' w':=by
 obtain⟨e,hu,hte⟩:=elemT_some ht
 obtain⟨i,z,h1,h2,h3,h4,h5,h6,h7⟩:=Yy hte
 unfold mks at h
 split at h
 ·split at h
  ·rename_i a b hb
   obtain⟨rfl,ha,hby,hab,hzl⟩:=hb
   cases h
   cases hl with
   | p hl=>cases hl with
    | c hl=>cases hl with
     | s hl=>cases hl with
      | int=>
   cases hc with
   | p hc=>cases hc with
    | c hc=>cases hc with
     | s hc=>cases hc with
      | int=>
   have hle:a<=140737488355328:=by
    have:a * 1<=a * (te.bytes:Int):=Int.mul_le_mul_of_nonneg_left (by omega) ha
    omega
   have hw:IntKind.i64.wrap a=a:=by
    exact IntWalk.i64_in a (by omega)
   have hbig:¬ (te.bytes:Int) * a > 2 ^ 48:=by rw[Int.mul_comm];omega
   have hzs:z.cells.size=te.size:=by rw[← hzl,h6];simp
   have hp:=fun(n:Nat) (hn:n=a.toNat)=>Post.row (w':={ w with heap:=w.heap.push (.cells ⟨(List.replicate n te.zero).flatten++[]⟩ e) }) hH hid (gnds_flat (G:=G) hz n) (room:=[]) te.size e (0,0) (.inl rfl) rfl rfl rfl rfl
   have hp:=hp a.toNat rfl
   refine⟨.slice (some ⟨w.heap.size,0,none⟩) a.toNat a.toNat,_,_,?_,VR.sl_new (Gh.set_same _ _ _) rfl a.toNat a.toNat (Nat.le_refl _) ?_,hp⟩
   ·simp only[Instr.makeSlice,Sem.run_bind,run_underlying hu,Result.andThen_ok,asInt,asIntOf,Sem.run_pure,run_typeInfo h1,h5,hw]
    rw[if_neg (by simp;omega)]
    simp only[Sem.run_bind,run_askRoom,Sem.run_pure,Result.andThen_ok,Wq h1,h4]
    by_cases h0:a.toNat * te.size=0
    ·rw[if_pos h0]
     simp only[Sem.run_pure,Result.andThen_ok,newRow,Sem.run_bind,run_newObj]
     congr 1
     have:(Array.range (a.toNat * te.size)).map (fun j=>(#[]:Array Value)[j % (#[]:Array Value).size]!)=⟨(List.replicate a.toNat te.zero).flatten++[]⟩:=by
      rw[h0]
      have:(List.replicate a.toNat te.zero).flatten=[]:=by
       apply List.length_eq_zero_iff.1;rw[flat_length,hzl];exact h0
      rw[this];simp
     rw[this]
    ·rw[if_neg h0]
     simp only[Sem.run_bind,run_zeroValue h1 h3,Sem.run_pure,Result.andThen_ok,newRow,run_newObj]
     congr 1
     have:(Array.range (a.toNat * te.size)).map (fun j=>z.cells[j % z.cells.size]!)=⟨(List.replicate a.toNat te.zero).flatten++[]⟩:=by
      apply Array.toList_inj.1
      rw[List.append_nil,h6,← range_flat z.cells a.toNat te.size hzs,hzs]
     rw[this]
   ·show a.toNat * te.size<=((List.replicate a.toNat te.zero).flatten++[]).length
    rw[List.append_nil,flat_length,hzl];exact Nat.le_refl _
  ·cases h
 ·cases h
variable {P:Program}
theorem VR.nilS {G:Gh}{n c:Nat}{x':Value}(h:VR G (.slice none n c) x'):n=0/\c=0/\x'=.slice none 0 0:=by
 cases h with
 | p h=>cases h with
  | c h=>cases h with
   | s h=>cases h with
    | nils=>exact⟨rfl,rfl,rfl⟩
theorem VR.slS {G:Gh}{i o n c:Nat}{x':Value}(h:VR G (.slice (some ⟨i,o,none⟩) n c) x'):∃ g c',G i=some g/\x'=.slice (some ⟨g.blk,g.sh+o,none⟩) n c'/\n<=c'/\(g.rw=true->o=0->c' * g.esz<=g.tot):=by
 cases h with
 | p h=>cases h with
  | c h=>cases h with
   | s h=>cases h with
    | sl h1 h2 h3=>exact⟨_,_,h1,rfl,h2,h3⟩
theorem VR.empS {G:Gh}{i o q n c:Nat}{x':Value}(h:VR G (.slice (some ⟨i,o,some q⟩) n c) x'):n=0/\∃ a' c',x'=.slice (some a') 0 c':=by
 cases h with
 | p h=>cases h with
  | c h=>cases h with
   | s h=>cases h with
    | emp=>exact⟨rfl,_,_,rfl⟩
theorem VR.strS {G:Gh}{s:ByteArray}{x':Value}(h:VR G (.string s) x'):x'=.string s:=by
 cases h with
 | p h=>cases h with
  | c h=>cases h with
   | s h=>cases h with
    | str=>rfl
theorem VR.intS {G:Gh}{k:IntKind}{n:Int}{x':Value}(h:VR G (.int k n) x'):x'=.int k n:=by
 cases h with
 | p h=>cases h with
  | c h=>cases h with
   | s h=>cases h with
    | int=>rfl
theorem VR.boolS {G:Gh}{b:Bool}{x':Value}(h:VR G (.bool b) x'):x'=.bool b:=by
 cases h with
 | p h=>cases h with
  | c h=>cases h with
   | s h=>cases h with
    | bool=>rfl
theorem VR.aggS {G:Gh}{cs:Array Value}{x':Value}(h:VR G (.agg cs) x'):∃ cs':Array Value,x'=.agg cs'/\All2 (CR G) cs.toList cs'.toList:=by
 cases h with
 | p h=>cases h with
  | c h=>exact absurd h.cell (by simp[isCell])
  | agg h=>exact⟨_,rfl,h⟩
theorem VR.mapS {G:Gh}{i:Nat}{x':Value}(h:VR G (.map (some i)) x'):∃ g,G i=some g/\x'=.map (some g.blk):=by
 cases h with
 | p h=>cases h with
  | c h=>cases h with
   | s h=>cases h with
    | map h=>exact⟨_,h,rfl⟩
theorem VR.tupS {G:Gh}{vs:Array Value}{x':Value}(h:VR G (.tuple vs) x'):∃ vs':Array Value,x'=.tuple vs'/\All2 (PR G) vs.toList vs'.toList:=by
 cases h with
 | tup h=>exact⟨_,rfl,h⟩
 | p h=>cases h with
  | c h=>exact absurd h.cell (by simp[isCell])
theorem run_cells {w:World}{b:Nat}{cs:Array Value}{ty:TypeId}{fr:Nat × Nat}(h:w.heap[b]?=some (.cells cs ty fr)) (o n:Nat)(hn:o+n<=cs.size) :
  (loadCells ⟨b,o,none⟩ n).run P w=.ok ⟨(cs.toList.drop o).take n⟩ w:=by
 have hl:((cs.toList.drop o).take n).length=n:=by simp;omega
 have:=run_loadCells_list (P:=P) w ⟨b,o,none⟩ ((cs.toList.drop o).take n) (fun j v hv=>by rw[Addr.add_mid];exact range_of h o n j v hv)
 rw[hl]at this
 exact this
theorem extract_all (s:ByteArray):(s.extract 0 s.size).data.toList=s.data.toList:=by
 rw[ByteArray.data_extract]
 show(s.data.extract 0 s.data.size).toList=_
 rw[Array.extract_size]
theorem src_sim {G:Gh}{H:Hp}{w:World}(hH:HR G H w){sz:Nat}{x x':Value}(hx:VR G x x'){xs:List Value}{m:Nat}(h:src sz x H=some (xs,m)) :
  ∃ xs',(∀ w2:World,w2.heap=w.heap->(Builtin.lenOf x').run P w2=.ok m w2/\(Builtin.firstCells sz m x').run P w2=.ok ⟨xs'⟩ w2)/\All2 (CR G) xs xs'/\xs.length=m * sz:=by
 unfold src at h
 split at h
 ·cases h
  obtain⟨rfl,rfl,rfl⟩:=hx.nilS
  exact⟨[],fun w2 _=>⟨rfl,rfl⟩,.nil,by simp⟩
 ·cases h
  obtain⟨rfl,a',c',rfl⟩:=hx.empS
  exact⟨[],fun w2 _=>⟨rfl,by simp[Builtin.firstCells,loadCells,loadCellsFrom]⟩,.nil,by simp⟩
 ·rename_i i o n c
  split at h
  ·rename_i cs e rw_ hi
   split at h
   ·rename_i hle
    cases h
    obtain⟨g,c',hg,rfl,h1,h2⟩:=hx.slS
    have hor:RowOk G g cs e rw_ w.heap[g.blk]?:=hH.obj i _ g hi hg
    obtain⟨⟨cs',ty',fr,e1,e2,e3⟩,_,_⟩:=hor
    have hs:=e2.1
    refine⟨_,fun w2 hw=>⟨rfl,?_⟩,e2.sub o (m * sz) hle,by simp;omega⟩
    simp only[Builtin.firstCells]
    exact run_cells (by rw[hw];exact e1) _ _ (by omega)
   ·cases h
  ·cases h
 ·rename_i s
  split at h
  ·rename_i hsz
   cases h
   have:=hx.strS
   subst this
   refine⟨s.data.toList.map fun b=>.int .u8 b.toNat,fun w2 _=>⟨rfl,?_⟩,All2.map fun b _=>.s (.int _ _),?_⟩
   ·simp only[Builtin.firstCells,Sem.run_pure]
    congr 1
    apply Array.toList_inj.1
    rw[Array.toList_map]
    exact congrArg (List.map _) (extract_all s)
   ·rw[hsz,List.length_map,Array.length_toList,Nat.mul_one];rfl
  ·cases h
 ·cases h
theorem grow_le (L:Nat):∀ (r c:Nat),c<=L+(L+768) / 4+1->Builtin.growBy L r c<=L+(L+768) / 4+1:=by
 intro r
 induction r with
 | zero=>intro c h;exact h
 | succ r ih=>
  intro c h
  unfold Builtin.growBy
  split
  ·exact h
  ·exact ih _ (by omega)
theorem nextcap_le {need cap:Nat}(h:cap < need):Builtin.nextslicecap need cap<=2 * need+1024:=by
 unfold Builtin.nextslicecap
 split
 ·omega
 ·split
  ·omega
  ·have:=grow_le need 4 cap (by omega);omega
theorem srcOk_desc {ty2:TypeId}(h:srcOk P ty2=true):P.underlying ty2=some .string∨∃ e,P.underlying ty2=some (.slice e):=by
 unfold srcOk dsc at h
 cases ht:tab P ty2 with
 | none=>rw[ht]at h;cases h
 | some ti=>
  rw[ht]at h
  obtain⟨i,z,h1,h2,_⟩:=Yy ht
  simp only[Option.map_some]at h
  rw[h2]
  cases hd:ti.desc <;> rw[hd]at h <;> first|exact .inl rfl|exact .inr ⟨_,rfl⟩|cases h
theorem run_app_in {w:World}{ty ty2 ty3 e:TypeId}{i:TypeInfo}(hu:P.underlying ty=some (.slice e)) (hi:P.info? e=some i)(h2:srcOk P ty2=true){base:Option Addr}{n m c:Nat}{x':Value}{xs':List Value}
  (hlen:(Builtin.lenOf x').run P w=.ok m w) (hf:(Builtin.firstCells i.size m x').run P w=.ok ⟨xs'⟩ w) (hle:n+m<=c) {w':World}
  (hst:((match base with|some a=>storeCells (a.add (n * i.size)) xs'|none=>pure ()):Sem Unit).run P w=.ok () w') :
  (Builtin.append_ #[ty,ty2] ty3 #[.slice base n c,x']).run P w=.ok (.slice base (n+m) c) w':=by
 cases base with
 | none=>
  simp only[Sem.run_pure,Result.ok.injEq,true_and]at hst
  subst hst
  rcases srcOk_desc h2 with hd|⟨e2,hd⟩ <;> simp[Builtin.append_,run_underlying hu,run_underlying hd,sizeOf,typeInfo,hi,hlen,hle,hf]
 | some a=>
  simp only at hst
  rcases srcOk_desc h2 with hd|⟨e2,hd⟩ <;> simp[Builtin.append_,run_underlying hu,run_underlying hd,sizeOf,typeInfo,hi,hlen,hle,hf,hst]
theorem run_app_grow {w:World}{ty ty2 ty3 e:TypeId}{i:TypeInfo}{z:Value}(hu:P.underlying ty=some (.slice e)) (hi:P.info? e=some i)(hz:i.zero=some z)(h2:srcOk P ty2=true){base:Option Addr}{n m c:Nat}{x':Value}{olds xs':List Value}
  (hlen:(Builtin.lenOf x').run P w=.ok m w) (hf:(Builtin.firstCells i.size m x').run P w.drew=.ok ⟨xs'⟩ w.drew) (hfo:(Builtin.firstCells i.size n (.slice base n c)).run P w.drew=.ok ⟨olds⟩ w.drew)
  (hg:c < n+m) (h63:((n+m:Nat):Int)<=9223372036854775807) (hfit:Builtin.nextslicecap (n+m) c * i.bytes<=281474976710656) :
  (Builtin.append_ #[ty,ty2] ty3 #[.slice base n c,x']).run P w =
   .ok (.slice (some ⟨w.heap.size,0,none⟩) (n+m) (grownCap w (n+m) c e)) (w.drew.alloc (.cells (olds.toArray++xs'.toArray++Builtin.zeroCells z.cells (grownCap w (n+m) c e - (n+m))) e)):=by
 have hn:¬ (n+m<=c):=by omega
 have h63':¬ (9223372036854775807 < ((n:Int)+(m:Int))):=by omega
 have h48':¬ (281474976710656 < Builtin.nextslicecap (n+m) c * i.bytes):=by omega
 rcases srcOk_desc h2 with hd|⟨e2,hd⟩ <;> simp[Builtin.append_,run_underlying hu,run_underlying hd,sizeOf,typeInfo,zeroValue,hi,hz,hlen,hn,h63',h48',Question.forced,hf,hfo,newRow,grownCap] <;> (congr 2;apply Array.toList_inj.1;simp)
theorem zeroCells_len (z:Array Value)(n:Nat):(Builtin.zeroCells z n).size=n * z.size:=by simp[Builtin.zeroCells]
theorem app_sim {G:Gh}{H H':Hp}{w:World}(hH:HR G H w){id:Nat}(hid:G id=none){ty ty2 ty3:TypeId}{te:TI}(ht:elemT P ty=some te)(h2:srcOk P ty2=true)(hzl:te.size=te.zero.length)(hpos:0 < te.size)
  {s x s' x':Value} (hs:VR G s s') (hx:VR G x x') {v:Value} (h:app id te.size te.bytes s x H=some (v,H')) :
  ∃ v' w' G',(Builtin.append_ #[ty,ty2] ty3 #[s',x']).run P w=.ok v' w'/\VR G' v v'/\Post (·=id) G H w G' H' w':=by
 obtain⟨e,hu,hte⟩:=elemT_some ht
 obtain⟨i,z,i1,i2,i3,i4,i5,i6,i7⟩:=Yy hte
 have hzs:z.cells.size=te.size:=by rw[hzl,i6];simp
 unfold app at h
 simp only[Option.bind_eq_some_iff]at h
 obtain⟨⟨xs,m⟩,hsrc,h⟩:=h
 obtain⟨xs',hrun,hxs,hxl⟩:=src_sim (P:=P) hH hx hsrc
 have hxl':xs'.length=m * te.size:=by rw[← hxs.length];exact hxl
 simp only at h
 -- a new row
 have grow:∀ (H1:Hp) (hH1:HR G H1 w) (base:Option Addr) (n c:Nat) (cs olds:List Value),All2 (CR G) cs olds->olds.length=n * te.size ->
   (Builtin.firstCells te.size n (.slice base n c)).run P w.drew=.ok ⟨olds⟩ w.drew->c < n+m->1<=te.bytes->(2 * (n+m)+1024) * te.bytes<=281474976710656 ->
   ∃ v' w' G',(Builtin.append_ #[ty,ty2] ty3 #[.slice base n c,x']).run P w=.ok v' w'/\VR G' (Ax.sl id 0 (n+m)) v'/\Post (·=id) G H1 w G' (H1.set id (some (.row (cs++xs) te.size true))) w':=by
  intro H1 hH1 base n c cs olds hcs hol hfo hlt hby hbound
  have hnm:2 * (n+m)+1024<=281474976710656:=by
   have h:=Nat.mul_le_mul_left (2 * (n+m)+1024) hby
   rw[Nat.mul_one]at h
   exact Nat.le_trans h hbound
  have hfit:Builtin.nextslicecap (n+m) c * i.bytes<=281474976710656:=by
   rw[i5];exact Nat.le_trans (Nat.mul_le_mul_right _ (nextcap_le hlt)) hbound
  obtain⟨hl,_⟩:=hrun w rfl
  obtain⟨_,hf⟩:=hrun w.drew rfl
  have hr:=run_app_grow (P:=P) (w:=w) (ty3:=ty3) hu i1 i3 h2 hl (by rw[i4];exact hf) (by rw[i4];exact hfo) hlt (by omega) hfit
  have hge:=grownCap_ge w (n+m) c e
  generalize hN:grownCap w (n+m) c e=N at hr hge
  have hp:=Post.row (w':=w.drew.alloc (.cells ⟨(olds++xs')++(Builtin.zeroCells z.cells (N - (n+m))).toList⟩ e)) hH1 hid (hcs.append hxs) (room:=(Builtin.zeroCells z.cells (N - (n+m))).toList) te.size e (0,0) (.inl rfl) rfl rfl rfl rfl
  refine⟨_,_,_,?_,VR.sl_new (Gh.set_same _ _ _) rfl (n+m) N hge ?_,hp⟩
  ·rw[hr]
   congr 2
   congr 1
   apply Array.toList_inj.1
   simp
  ·show N * te.size<=((olds++xs')++(Builtin.zeroCells z.cells (N - (n+m))).toList).length
   have e1:(Builtin.zeroCells z.cells (N - (n+m))).toList.length=(N - (n+m)) * te.size:=by rw[Array.length_toList,zeroCells_len,hzs]
   rw[List.length_append,List.length_append,hol,hxl',e1,← Nat.add_mul,← Nat.add_mul]
   exact Nat.mul_le_mul_right _ (by omega)
 split at h
 ·rename_i n0 c0
  obtain⟨rfl,rfl,rfl⟩:=hs.nilS
  split at h
  ·rename_i hm
   subst hm
   cases h
   obtain⟨hl,hf⟩:=hrun w rfl
   refine⟨_,_,G,run_app_in (P:=P) (ty3:=ty3) hu i1 h2 hl (by rw[i4];exact hf) (Nat.le_refl _) rfl,.sr .nils,Post.refl hH⟩
  ·split at h
   ·rename_i hm hb
    cases h
    obtain⟨v',w',G',h1,h2',h3⟩:=grow H hH none 0 0 [] [] .nil (by simp) (by simp[Builtin.firstCells]) (by omega) hb.1 (by simpa using hb.2)
    exact⟨v',w',G',h1,by simpa using h2',by simpa using h3⟩
   ·cases h
 ·rename_i j n c
  split at h
  ·rename_i cs ez hj
   split at h
   ·rename_i hb
    obtain⟨rfl,hle,hby,hbound⟩:=hb
    cases h
    obtain⟨g,c',hg,rfl,hnc,hcap⟩:=hs.slS
    have hor:RowOk G g cs te.size true w.heap[g.blk]?:=hH.obj j _ g hj hg
    obtain⟨⟨cs',ty',fr,e1,e2,e3⟩,e4,e5⟩:=hor
    obtain⟨s0,s1,s2⟩:=e3 rfl
    have hcap:=hcap e4 rfl
    rw[e5 rfl]at hcap
    rw[s0]at e2
    have hcl:=e2.1
    have hsub:=e2.sub 0 (n * te.size) (by omega)
    rw[List.drop_zero,Nat.zero_add,List.drop_zero]at hsub
    have hol:(cs'.toList.take (n * te.size)).length=n * te.size:=by simp;omega
    rw[s0,Nat.zero_add]
    by_cases hroom:n+m<=c'
    ·-- in place
     obtain⟨hl,hf⟩:=hrun w rfl
     have hmul:(n+m) * te.size<=c' * te.size:=Nat.mul_le_mul_right _ hroom
     rw[Nat.add_mul]at hmul
     have hcell:∀ q,q < xs'.length->n * te.size+q < cs'.size:=by intro q hq;omega
     have hst:=run_storeCells_cells (P:=P) g.blk (n * te.size) xs' 0 w (fun q hq=>by rw[Nat.add_zero,cell_of e1];simp[hcell q hq]) (fun q hq=>by rw[Nat.add_zero];exact frozen_of e1 s2 _ (hcell q hq))
      (fun u hu=>by obtain⟨y,_,hr⟩:=hxs.mem_right hu;exact hr.one)
     rw[Nat.add_zero]at hst
     obtain⟨r1,r2,r3,r4⟩:=setCells_rest g.blk xs' (n * te.size) w
     refine⟨_,_,G.set id ⟨g.blk,0,g.tot,te.size,true⟩,run_app_in (P:=P) (ty3:=ty3) hu i1 h2 hl (by rw[i4];exact hf) hroom (w':=w.setCells g.blk (n * te.size) xs') ?_,?_,?_⟩
     ·simp only[i4]
      rw[Addr.add_mid,Nat.zero_add];exact hst
     ·exact VR.sl_new (Gh.set_same _ _ _) rfl (n+m) c' hroom hcap
     ·refine Post.move hH hid hj rfl hg rfl _ rfl r1 (fun b hb=>heap_setCells_ne _ _ hb _ _ _) r2 r3 r4 ?_
      show RowOk _ _ (cs.take (n * te.size)++xs) te.size true _
      refine⟨⟨_,_,_,heap_setCells_same g.blk ty' fr xs' (n * te.size) w cs' e1,?_,fun _=>⟨rfl,by rw[setR_size];exact s1,by rw[setR_size];exact s2⟩⟩,rfl,fun _=>rfl⟩
      have hlen:(cs.take (n * te.size)++xs).length=n * te.size+m * te.size:=by rw[List.length_append,hxl];simp;omega
      refine⟨by rw[hlen,setR_size];show 0+(n * te.size+m * te.size)<=cs'.size;omega,?_⟩
      rw[hlen,List.drop_zero,setR_list _ _ _ (by omega)]
      have:(Yz cs'.toList (n * te.size) xs').take (n * te.size+m * te.size)=cs'.toList.take (n * te.size)++xs':=by
       unfold Yz
       rw[List.take_append_of_le_length (by simp;omega),List.take_of_length_le (by simp;omega)]
      rw[this]
      exact(hsub.append hxs).mono fun _ _=>CR.mono (GLe.set _ hid)
    ·-- anew
     have hfo:(Builtin.firstCells te.size n (.slice (some ⟨g.blk,0,none⟩) n c')).run P w.drew=.ok ⟨cs'.toList.take (n * te.size)⟩ w.drew:=by
      simp only[Builtin.firstCells]
      have:=run_cells (P:=P) (w:=w.drew) (b:=g.blk) (cs:=cs') (ty:=ty') (fr:=fr) e1 0 (n * te.size) (by omega)
      rwa [List.drop_zero]at this
     obtain⟨v',w',G',h1,h2',h3⟩:=grow (H.set j none) (hH.kill j) (some ⟨g.blk,0,none⟩) n c' _ _ hsub hol hfo (by omega) hby hbound
     exact⟨v',w',G',h1,h2',Post.killed hj hg h3⟩
   ·cases h
  ·cases h
 ·cases h
variable {P:Program}
theorem Wg {t:TypeId}{d:TypeDesc}(h:dsc P t=some d):P.underlying t=some d:=by
 unfold dsc at h
 simp only[Option.map_eq_some_iff]at h
 obtain⟨ti,h1,rfl⟩:=h
 obtain⟨i,z,_,h2,_⟩:=Yy h1
 exact h2
theorem isU8_und {e:TypeId}(h:isU8 P e=true):P.underlying e=some (.int .u8):=by
 unfold isU8 at h
 split at h
 ·rename_i h1;exact Wg h1
 ·cases h
theorem unbytes_map:∀ (cs:List Value)(l:List UInt8),unbytes cs=some l->∃ ns:List Int,cs=ns.map (Value.int .u8)/\l=ns.map fun n=>UInt8.ofNat n.toNat
 | [],l,h=>by cases h;exact⟨[],rfl,rfl⟩
 | c :: cs,l,h=>by
  unfold unbytes at h
  split at h
  ·rename_i heq;cases heq
  ·rename_i n r heq
   cases heq
   simp only[Option.bind_eq_some_iff,Option.some.injEq]at h
   obtain⟨l',h1,rfl⟩:=h
   obtain⟨ns,rfl,rfl⟩:=unbytes_map _ _ h1
   exact⟨n :: ns,rfl,rfl⟩
  ·cases h
theorem CR.ints {G:Gh}:∀ (ns:List Int)(cs':List Value),All2 (CR G) (ns.map (Value.int .u8)) cs'->cs'=ns.map (Value.int .u8)
 | [],cs',h=>by cases h;rfl
 | n :: ns,cs',h=>by
  obtain⟨b,m',rfl,h1,h2⟩:=All2.cons_left h
  rw[CR.ints ns m' h2]
  cases h1 with
  | s h=>cases h with
   | int=>rfl
theorem rowsOf_sim {G:Gh}{H:Hp}{w:World}(hH:HR G H w){x x':Value}(hx:VR G x x'){cs:List Value}{l:List UInt8}(h:rowsOf 1 x H=some cs)(hl:unbytes cs=some l) :
  (Conv.bytesToString x').run P w=.ok (.string ⟨⟨l⟩⟩) w:=by
 obtain⟨ns,rfl,rfl⟩:=unbytes_map _ _ hl
 have fin:∀ (ns:List Int),ns.foldl (fun r n=>r.push (UInt8.ofNat n.toNat)) ByteArray.empty=⟨⟨ns.map fun n=>UInt8.ofNat n.toNat⟩⟩:=by
  intro ns
  rw[foldl_push_bytes]
  simp[ByteArray.empty,ByteArray.emptyWithCapacity]
  rfl
 unfold rowsOf at h
 split at h
 ·obtain⟨rfl,rfl,rfl⟩:=hx.nilS
  simp only[Option.some.injEq]at h
  cases ns with
  | nil=>rfl
  | cons n ns=>cases h
 ·obtain⟨rfl,a',c',rfl⟩:=hx.empS
  simp only[Option.some.injEq]at h
  cases ns with
  | nil=>exact run_bytesToString w a' 0 c' [] rfl
  | cons n ns=>cases h
 ·rename_i i o n c
  split at h
  ·rename_i cs0 e rw_ hi
   split at h
   ·rename_i hle
    simp only[Option.some.injEq]at h
    obtain⟨g,c',hg,rfl,h1,h2⟩:=hx.slS
    have hor:RowOk G g cs0 e rw_ w.heap[g.blk]?:=hH.obj i _ g hi hg
    obtain⟨⟨cs',ty',fr,e1,e2,e3⟩,_,_⟩:=hor
    have hs:=e2.1
    have hsub:=e2.sub o (n * 1) hle
    rw[h]at hsub
    have he:=CR.ints _ _ hsub
    have hr:=run_cells (P:=P) e1 (g.sh+o) (n * 1) (by omega)
    rw[he,Nat.mul_one]at hr
    rw[run_bytesToString w _ n c' ns hr,fin]
   ·cases h
  ·cases h
 ·cases h
theorem run_mark {w:World}{b:Nat}{cs:Array Value}{ty:TypeId}{fr:Nat × Nat}(h:w.heap[b]?=some (.cells cs ty fr)) (o:Nat)(hf:free fr cs.size) :
  ∃ w' fr',(markStringish ⟨b,o,none⟩).run P w=.ok () w'/\w'.heap[b]?=some (.cells cs ty fr')/\free fr' cs.size/\w'.heap.size=w.heap.size/\(∀ b',b'≠b->w'.heap[b']?=w.heap[b']?)/\w'.os=w.os/\w'.tape=w.tape/\w'.output=w.output:=by
 have hs:w.shape? b=some (ty,cs.size):=by unfold World.shape?;rw[h]
 refine⟨w.freeze ⟨b,cs.size,none⟩ 1,if fr.1 == fr.2 then(cs.size,cs.size+1)else(min fr.1 cs.size,max fr.2 (cs.size+1)),?_,?_,?_,?_,?_,?_,?_,?_⟩
 ·simp[markStringish,hs]
 ·obtain⟨lo,hi⟩:=fr
  show(w.freeze ⟨b,cs.size,none⟩ 1).heap[b]?=_
  simp only[World.freeze,Nat.succ_ne_zero,if_false]
  rw[Array.getElem?_modify,if_pos rfl,h]
  rfl
 ·unfold free at hf ⊢
  split
  ·exact .inr (Nat.le_refl _)
  ·rename_i hne
   rcases hf with hf|hf
   ·rw[hf]at hne;simp at hne
   ·exact .inr (Nat.le_min.2 ⟨hf,Nat.le_refl _⟩)
 ·simp[World.freeze]
 ·intro b' hb
  simp only[World.freeze,Nat.succ_ne_zero,if_false]
  rw[Array.getElem?_modify]
  rw[if_neg (Ne.symm hb)]
 ·rfl
 ·rfl
 ·rfl
theorem conv_sim {G:Gh}{H H':Hp}{w:World}(hH:HR G H w){id:Nat}(hid:G id=none){s d:TypeId}{x x' v:Value}(hx:VR G x x')(h:conv (convK P s d) id x H=some (v,H')) :
  ∃ v' w' G',(convert s d x').run P w=.ok v' w'/\VR G' v v'/\Post (·=id) G H w G' H' w':=by
 generalize hk:convK P s d=ck at h
 unfold conv at h
 split at h
 ·-- toInt
  rename_i k _ n
  cases h
  obtain rfl:=hx.intS
  unfold convK at hk
  split at hk <;> try(first|cases hk|(split at hk <;> cases hk))
  rename_i k0 _ h1 h2
  have h1:=Wg h1
  have h2:=Wg h2
  exact⟨_,w,G,by simp[convert,run_underlying h1,run_underlying h2,Conv.intToInt],.sr (.int _ _),Post.refl hH⟩
 ·rename_i _ n
  cases h
  obtain rfl:=hx.intS
  unfold convK at hk
  split at hk <;> try(first|cases hk|(split at hk <;> cases hk))
  rename_i k0 h1 h2
  have h1:=Wg h1
  have h2:=Wg h2
  exact⟨_,w,G,by simp[convert,run_underlying h1,run_underlying h2,Conv.intToString],.sr (.str _),Post.refl hH⟩
 ·rename_i s0
  cases h
  obtain rfl:=hx.strS
  unfold convK at hk
  split at hk <;> try(first|cases hk|(split at hk <;> cases hk))
  rename_i h1 h2
  have h1:=Wg h1
  have h2:=Wg h2
  exact⟨_,w,G,by simp[convert,run_underlying h1,run_underlying h2],.sr (.str _),Post.refl hH⟩
 ·rename_i s0
  cases h
  obtain rfl:=hx.strS
  unfold convK at hk
  split at hk <;> try(first|cases hk|(split at hk <;> cases hk))
  rename_i e h1 h2 h3
  have h1:=Wg h1
  have h2:=Wg h2
  have h3:=isU8_und h3
  have hr:=run_bytes_of_string (P:=P) w s d e s0 h1 h2 h3
  have hge:=grownCap_ge w s0.size 0 e
  generalize grownCap w s0.size 0 e=N at hr hge
  have hbr:bytesRow s0 N=⟨bytesOf s0++List.replicate (N - s0.size) (Value.int .u8 0)⟩:=by
   apply Array.toList_inj.1
   simp[bytesRow,bytesOf]
  rw[hbr]at hr
  refine⟨_,_,_,hr,VR.sl_new (g:=⟨w.heap.size,0,(bytesOf s0++List.replicate (N - s0.size) (Value.int .u8 0)).length,1,true⟩) (Gh.set_same _ _ _) rfl s0.size N hge ?_,Post.row hH hid (All2.refl_of ?_) 1 e _ (.inr (Nat.le_refl _)) rfl rfl rfl rfl⟩
  ·show N * 1<=_
   simp[bytesOf]
   have:s0.data.size=s0.size:=rfl
   omega
  ·intro x hx
   simp only[bytesOf,List.mem_map]at hx
   obtain⟨b,_,rfl⟩:=hx
   exact .s (.int _ _)
 ·simp only[Option.bind_eq_some_iff,Option.some.injEq,Prod.mk.injEq]at h
  obtain⟨cs,h1,l,h2,rfl,rfl⟩:=h
  unfold convK at hk
  split at hk <;> try(first|cases hk|(split at hk <;> cases hk))
  rename_i e h3 h4 h5
  have h3:=Wg h3
  have h4:=Wg h4
  have h5:=isU8_und h5
  have hr:=rowsOf_sim (P:=P) hH hx h1 h2
  have:∃ a l c,x'=.slice a l c:=by
   unfold rowsOf at h1
   split at h1
   ·exact⟨_,_,_,hx.nilS.2.2⟩
   ·obtain⟨_,a',c',h⟩:=hx.empS;exact⟨_,_,_,h⟩
   ·obtain⟨g,c',_,h,_⟩:=hx.slS;exact⟨_,_,_,h⟩
   ·cases h1
  obtain⟨a,l',c,rfl⟩:=this
  exact⟨_,w,G,by rw[run_convert_bytes_string w s d e a l' c h3 h5 h4];exact hr,.sr (.str _),Post.refl hH⟩
 ·rename_i i o n c
  split at h
  ·rename_i cs e hi
   cases h
   obtain⟨g,c',hg,rfl,h1,h2⟩:=hx.slS
   unfold convK at hk
   split at hk <;> try(first|cases hk|(split at hk <;> cases hk))
   rename_i e1 e2 h3 h4 h5
   obtain⟨rfl,h5⟩:=h5
   have h4:=Wg h4
   have h5:=isU8_und h5
   have hor:RowOk G g cs e true w.heap[g.blk]?:=hH.obj i _ g hi hg
   obtain⟨⟨cs',ty',fr,f1,f2,f3⟩,f4,f5⟩:=hor
   obtain⟨s0,s1,s2⟩:=f3 rfl
   obtain⟨w',fr',m1,m2,m3,m4,m5,m6,m7,m8⟩:=run_mark (P:=P) f1 (g.sh+o) s2
   refine⟨.slice (some ⟨g.blk,g.sh+o,none⟩) n c',w',G,?_,.sr (.sl hg h1 h2),?_⟩
   ·simp[convert,run_underlying h4,run_underlying h5,m1]
   ·have hw:=Post.write (New:=(·=id)) (w':=w') hH hi (o':=.row cs e true) rfl hg rfl m4 m5 m6 m7 m8 (show RowOk G g cs e true _ from⟨⟨cs',ty',fr',m2,f2,fun _=>⟨s0,s1,m3⟩⟩,f4,f5⟩)
    have:H.set i (some (.row cs e true))=H:=by
     funext j
     unfold Hp.set
     split
     ·rename_i e;rw[e,hi]
     ·rfl
    rwa [this]at hw
  ·cases h
 ·cases h
theorem pick_sim {G:Gh}{c a b c' a' b' v:Value}(hc:VR G c c')(ha:VR G a a')(hb:VR G b b')(h:Zl c a b=some v)(w:World) :
  ∃ v',(do pure (Next.value (if ← asBool c' then a' else b')):Sem Next).run P w=.ok (.value v') w/\VR G v v':=by
 unfold Zl at h
 split at h
 ·rename_i b0
  cases h
  obtain rfl:=hc.boolS
  cases b0
  ·exact⟨b',by simp[asBool],hb⟩
  ·exact⟨a',by simp[asBool],ha⟩
 ·cases h
theorem nilchk_sim {G:Gh}{x x' v:Value}(hx:VR G x x')(h:Zh x=some v):∃ a,x'=.pointer (some a)/\VR G v x':=by
 unfold Zh at h
 split at h
 ·cases h
  cases hx with
  | p hx=>cases hx with
   | c hx=>cases hx with
    | s hx=>cases hx with
     | ptr hg=>exact⟨_,rfl,.sr (.ptr hg)⟩
 ·cases h
theorem fieldA_sim {G:Gh}{s:TypeId}{f:Nat}{p:Nat × TI}(hp:fieldAt P s f=some p){x x' v:Value}(hx:VR G x x')(h:Za p.1 x=some v)(w:World) :
  ∃ v',(Instr.fieldAt s x' f).run P w=.ok v' w/\VR G v v':=by
 obtain⟨fs,fd,h1,h2,h3,h4,h5⟩:=fieldAt_some hp
 obtain⟨i,z,i1,_,_,i4,_⟩:=Yy h4
 unfold Za at h
 split at h
 ·rename_i j o
  cases h
  obtain⟨g,hg,rfl⟩:=hx.ptr
  have hne:i.size≠0:=by rw[i4];exact h5
  refine⟨.pointer (some ⟨g.blk,g.sh+(o+p.1),none⟩),?_,.sr (.ptr hg)⟩
  simp[Instr.fieldAt,run_underlying h1,h2,Instr.sureAddr,fieldPlace,Wq i1,hne,Addr.add,h3,Nat.add_assoc]
 ·cases h
theorem All2.extract {G:Gh}{cs cs':Array Value}(h:All2 (CR G) cs.toList cs'.toList) (o n:Nat):All2 (CR G) ((cs.toList.drop o).take n) ((cs'.extract o (o+n)).toList):=by
 rw[Array.toList_extract]
 simp only[List.extract]
 rw[Nat.add_sub_cancel_left]
 exact(h.drop o).take n
theorem part_sim {G:Gh}{ty:TypeId}{ti:TI}(ht:tab P ty=some ti){x x' v:Value}{off:Nat}(hx:VR G x x')(h:partV ti.agg ti.size off x=some v)(w:World) :
  ∃ cs' v',x'=.agg cs'/\(part ty cs' off).run P w=.ok v' w/\VR G v v':=by
 obtain⟨i,z,i1,i2,i3,i4,_,_,i7⟩:=Yy ht
 unfold partV at h
 split at h
 ·rename_i cs
  obtain⟨cs',rfl,hc⟩:=hx.aggS
  have hag:=run_isAgg (P:=P) i2 w
  rw[← i7]at hag
  cases hagg:ti.agg with
  | true=>
   simp only[hagg,if_true]at h
   split at h
   ·cases h
    rw[hagg]at hag
    exact⟨cs',.agg (cs'.extract off (off+ti.size)),rfl,by simp[part,hag,Wq i1,i4],.p (.agg (hc.extract off ti.size))⟩
   ·cases h
  | false=>
   simp only[hagg,Bool.false_eq_true,if_false]at h
   rw[hagg]at hag
   obtain⟨v',hv,hr⟩:=hc.get h
   rw[Array.getElem?_toList]at hv
   exact⟨cs',v',rfl,by simp[part,hag,hv],.p (.c hr)⟩
 ·cases h
theorem field_sim {G:Gh}{s:TypeId}{f:Nat}{p:Nat × TI}(hp:fieldAt P s f=some p){x x' v:Value}(hx:VR G x x')(h:partV p.2.agg p.2.size p.1 x=some v)(w:World) :
  ∃ v',(Instr.field s x' f).run P w=.ok v' w/\VR G v v':=by
 obtain⟨fs,fd,h1,h2,h3,h4,h5⟩:=fieldAt_some hp
 obtain⟨cs',v',rfl,hr,hv⟩:=part_sim h4 hx h w
 refine⟨v',?_,hv⟩
 simp[Instr.field,run_underlying h1,h2,asAgg,← h3,hr]
theorem idxA_sim {G:Gh}{ty:TypeId}{te:TI}(ht:elemT P ty=some te){x x' i i' v:Value}(hx:VR G x x')(hi:VR G i i')(h:Zo te.size x i=some v)(w:World) :
  ∃ v',(Instr.indexAt ty x' i').run P w=.ok v' w/\VR G v v':=by
 obtain⟨e,hu,hte⟩:=elemT_some ht
 obtain⟨ii,z,i1,_,_,i4,_⟩:=Yy hte
 unfold Zo at h
 split at h
 ·rename_i b o n c k j
  split at h
  ·rename_i hj
   cases h
   obtain⟨g,c',hg,rfl,_,_⟩:=hx.slS
   obtain rfl:=hi.intS
   refine⟨.pointer (some ⟨g.blk,g.sh+(o+j.toNat * te.size),none⟩),?_,.sr (.ptr hg)⟩
   simp[Instr.indexAt,asIntOf,run_underlying hu,Wq i1,i4,hj.1,hj.2,Addr.add,Nat.add_assoc]
  ·cases h
 ·cases h
theorem idxS_sim {G:Gh}{ty:TypeId}(hu:P.underlying ty=some .string){x x' i i' v:Value}(hx:VR G x x')(hi:VR G i i')(h:idxS x i=some v)(w:World) :
  ∃ v',(Instr.index ty x' i').run P w=.ok v' w/\VR G v v':=by
 unfold idxS at h
 split at h
 ·rename_i s k j
  split at h
  ·rename_i hj
   cases h
   obtain rfl:=hx.strS
   obtain rfl:=hi.intS
   have hlt:j.toNat < s.size:=by omega
   refine⟨.int .u8 (s.data.toList.getD j.toNat 0).toNat,?_,.sr (.int _ _)⟩
   have hg:s[j.toNat]?=some (s.data.toList.getD j.toNat 0):=by
    rw[getElem?_pos s j.toNat hlt]
    have hl:j.toNat < s.data.toList.length:=by simpa using hlt
    rw[List.getD_eq_getElem?_getD,List.getElem?_eq_getElem hl]
    rfl
   simp[Instr.index,asIntOf,run_underlying hu,hj.1,hg]
  ·cases h
 ·cases h
theorem isStrT_true {t:TypeId}(h:isStrT P t=true):P.underlying t=some .string:=by
 unfold isStrT at h
 split at h
 ·rename_i h1;exact Wg h1
 ·cases h
theorem len_sim {G:Gh}{ty:TypeId}(ht:lenOk P ty=true){x x' v:Value}(hx:VR G x x')(h:Zx (isStrT P ty) x=some v) (ty3:TypeId)(w:World) :
  ∃ v',(Builtin.len_ #[ty] ty3 #[x']).run P w=.ok v' w/\VR G v v':=by
 generalize hs:isStrT P ty=str at h
 unfold Zx at h
 split at h
 ·rename_i a n c
  cases h
  rcases srcOk_desc ht with hd|⟨e,hu⟩
  ·exfalso
   unfold lenOk srcOk at ht
   unfold isStrT at hs
   split at ht
   ·rename_i hq;rw[hq]at hs;cases hs
   ·rename_i hq;have:=Wg hq;rw[hd]at this;cases this
   ·cases ht
  ·refine⟨.int .i64 n,?_,.sr (.int _ _)⟩
   cases a with
   | none=>obtain⟨rfl,rfl,rfl⟩:=hx.nilS;simp[Builtin.len_,run_underlying hu,goInt]
   | some a=>
    obtain⟨b,o,sp⟩:=a
    cases sp with
    | none=>obtain⟨g,c',_,rfl,_⟩:=hx.slS;simp[Builtin.len_,run_underlying hu,goInt]
    | some q=>obtain⟨rfl,a',c',rfl⟩:=hx.empS;simp[Builtin.len_,run_underlying hu,goInt]
 ·rename_i s
  cases h
  obtain rfl:=hx.strS
  exact⟨_,by simp[Builtin.len_,run_underlying (isStrT_true hs),goInt],.sr (.int _ _)⟩
 ·cases h
theorem ext_sim {G:Gh}{x x' v:Value}{i:Nat}(hx:VR G x x')(h:ext i x=some v)(w:World):∃ v',(Instr.extract x' i).run P w=.ok v' w/\VR G v v':=by
 unfold ext at h
 split at h
 ·rename_i vs
  obtain⟨vs',rfl,hv⟩:=hx.tupS
  obtain⟨v',h1,h2⟩:=hv.get h
  rw[Array.getElem?_toList]at h1
  exact⟨v',by simp[Instr.extract,h1],.p h2⟩
 ·cases h
theorem un_sim {G:Gh}{op:UnOp}{x x' v:Value}(hx:VR G x x')(h:un op x=some v)(w:World):∃ v',(Op.unary op x').run P w=.ok v' w/\VR G v v':=by
 unfold un at h
 split at h
 ·cases h;obtain rfl:=hx.intS
  exact⟨_,by simp[Op.unary,Op.intArith],.sr (.int _ _)⟩
 ·cases h;obtain rfl:=hx.boolS
  exact⟨_,by simp[Op.unary],.sr (.bool _)⟩
 ·cases h
variable {P:Program}
inductive OVR (G:Gh):Option Value->Option Value->Prop
 | none:OVR G none none
 | some {v v':Value}:VR G v v'->OVR G (some v) (some v')
theorem bound_sim {G:Gh}{v v':Value}(hv:VR G v v'){l:Nat}{d:Nat}(h:bnd d (some v)=some l) (y:Nat)(hl:l<=y)(c:BoundsCode)(w:World):(Instr.sliceBound v' y c).run P w=.ok l w:=by
 unfold bnd at h
 split at h
 ·rename_i h0;cases h0
 ·rename_i k i h0
  cases h0
  obtain rfl:=hv.intS
  split at h
  ·rename_i hi
   cases h
   have:i<=(y:Int):=by omega
   simp[Instr.sliceBound,asIntOf,hi,this]
  ·cases h
 ·cases h
theorem bounds_sim {G:Gh}{lo lo' hi hi':Option Value}(h1:OVR G lo lo')(h2:OVR G hi hi'){len cap l h:Nat}(hl:bnd 0 lo=some l)(hh:bnd len hi=some h)(hlh:l<=h)(hc:h<=cap)(b:Bool)(w:World) :
  (Instr.sliceBounds b len cap lo' hi' none).run P w=.ok (l,h,cap) w:=by
 unfold Instr.sliceBounds
 cases h1 with
 | none=>
  cases hl
  cases h2 with
  | none=>cases hh;simp
  | some hv=>simp[bound_sim hv hh cap hc]
 | some hv1=>
  cases h2 with
  | none=>cases hh;simp[bound_sim hv1 hl _ hlh]
  | some hv=>simp[bound_sim hv hh cap hc,bound_sim hv1 hl _ hlh]
theorem slice_sim {G:Gh}{ty:TypeId}{sz:Nat}(hs:sliceSz P ty=some sz){x x' v:Value}(hx:VR G x x'){lo lo' hi hi':Option Value}(h1:OVR G lo lo')(h2:OVR G hi hi')(h:Yt sz x lo hi=some v)(w:World) :
  ∃ v',(Instr.sliceAt ty x' lo' hi' none).run P w=.ok v' w/\VR G v v':=by
 have hty:(P.underlying ty=some .string/\sz=0)∨∃ e i,P.underlying ty=some (.slice e)/\P.info? e=some i/\i.size=sz/\sz≠0:=by
  unfold sliceSz at hs
  split at hs
  ·rename_i hd;cases hs;exact .inl ⟨Wg hd,rfl⟩
  ·rename_i e hd
   simp only[Option.bind_eq_some_iff]at hs
   obtain⟨te,ht,hs⟩:=hs
   obtain⟨i,z,i1,_,_,i4,_⟩:=Yy ht
   split at hs
   ·cases hs
   ·rename_i hne;cases hs
    exact .inr ⟨e,i,Wg hd,i1,i4,hne⟩
  ·cases hs
 unfold Yt at h
 split at h
 ·rename_i s
  simp only[Option.bind_eq_some_iff]at h
  obtain⟨l,hl,r,hr,h⟩:=h
  split at h
  ·rename_i hle
   obtain⟨hle1,hle2,rfl⟩:=hle
   cases h
   obtain rfl:=hx.strS
   rcases hty with⟨hu,_⟩|⟨e,i,hu,hi,h0⟩
   ·have:=bounds_sim (P:=P) h1 h2 hl hr hle1 hle2 false w
    exact⟨_,by simp[Instr.sliceAt,Instr.slice,run_underlying hu,this],.sr (.str _)⟩
   ·exact absurd rfl h0.2
  ·cases h
 ·simp only[Option.bind_eq_some_iff]at h
  obtain⟨l,hl,r,hr,h⟩:=h
  split at h
  ·rename_i hle
   obtain⟨hle1,hle2,hz⟩:=hle
   cases h
   obtain⟨rfl,rfl,rfl⟩:=hx.nilS
   rcases hty with⟨_,rfl⟩|⟨e,i,hu,hi,h0⟩
   ·omega
   ·have:=bounds_sim (P:=P) h1 h2 hl hr hle1 hle2 true w
    have hl0:l=0:=by omega
    have hr0:r=0:=by omega
    subst hl0 hr0
    exact⟨.slice none 0 0,by simp[Instr.sliceAt,Instr.slice,run_underlying hu,this,Wq hi],.sr .nils⟩
  ·cases h
 ·rename_i b o n c
  simp only[Option.bind_eq_some_iff]at h
  obtain⟨l,hl,r,hr,h⟩:=h
  split at h
  ·rename_i hle
   obtain⟨hle1,hle2,hz⟩:=hle
   obtain⟨g,c',hg,rfl,h3,h4⟩:=hx.slS
   rcases hty with⟨_,rfl⟩|⟨e,i,hu,hi,h0⟩
   ·omega
   ·have hb:=bounds_sim (P:=P) h1 h2 hl hr hle1 (Nat.le_trans hle2 h3) true w
    have hrun:(Instr.sliceAt ty (.slice (some ⟨g.blk,g.sh+o,none⟩) n c') lo' hi' none).run P w=.ok (.slice (if c'=l then some ⟨g.blk,g.sh+o,none⟩else some ⟨g.blk,g.sh+o+l * sz,none⟩) (r - l) (c' - l)) w:=by
     have ha:(⟨g.blk,g.sh+o,none⟩:Addr).add (l * sz)=⟨g.blk,g.sh+o+l * sz,none⟩:=by
      unfold Addr.add;split
      ·rename_i h;simp[h]
      ·rfl
     simp[Instr.sliceAt,Instr.slice,run_underlying hu,hb,Wq hi,h0,ha]
    refine⟨_,hrun,?_⟩
    split at h
    ·rename_i hlr
     cases h
     have:r - l=0:=by omega
     rw[this]
     split
     ·exact .sr .emp
     ·exact .sr .emp
    ·rename_i hlr
     cases h
     rw[if_neg (by omega),Nat.add_assoc]
     refine .sr (.sl hg (by omega) fun hrw ho=>?_)
     have hl0:l=0:=by
      rcases Nat.eq_zero_or_pos l with h|h
      ·exact h
      ·have:=Nat.mul_pos h hz;omega
     subst hl0
     have:=h4 hrw (by omega)
     rwa [Nat.sub_zero]
  ·cases h
 ·simp only[Option.bind_eq_some_iff]at h
  obtain⟨l,hl,r,hr,h⟩:=h
  split at h
  ·rename_i hle
   obtain⟨hle1,hle2,hz⟩:=hle
   cases h
   obtain⟨rfl,a',c',rfl⟩:=hx.empS
   rcases hty with⟨_,rfl⟩|⟨e,i,hu,hi,h0⟩
   ·omega
   ·have:=bounds_sim (P:=P) (cap:=c') h1 h2 hl hr hle1 (by omega) true w
    have hl0:l=0:=by omega
    have hr0:r=0:=by omega
    subst hl0 hr0
    refine⟨.slice (if c'=0 then some a' else some (a'.add (0 * sz))) 0 c',?_,?_⟩
    ·simp[Instr.sliceAt,Instr.slice,run_underlying hu,this,Wq hi,h0]
    ·split
     ·exact .sr .emp
     ·exact .sr .emp
  ·cases h
 ·cases h
theorem bin_sim {G:Gh}{op:BinOp}{x y x' y' v:Value}(hx:VR G x x')(hy:VR G y y')(h:bin op x y=some v)(ty:TypeId)(ox oy:Operand)(w:World) :
  ∃ v',(do eqGuard op ty ox oy x' y';binOp op ty x' y').run P w=.ok v' w/\VR G v v':=by
 unfold bin at h
 split at h
 ·rename_i k a k' b
  obtain rfl:=hx.intS
  obtain rfl:=hy.intS
  have hg:(eqGuard op ty ox oy (.int k a) (.int k' b)).run P w=.ok () w:=by cases op <;> simp[eqGuard]
  simp only[Sem.run_bind,hg,Result.andThen_ok]
  split at h
  ·unfold shiftBin at h
   split at h
   ·cases h
   ·rename_i hb
    split at h
    ·cases h;exact⟨_,by simp[binOp,Op.shift,hb],.sr (.int _ _)⟩
    ·cases h;exact⟨_,by simp[binOp,Op.shift,hb],.sr (.int _ _)⟩
    ·cases h
  ·rename_i hsh
   split at h
   ·rename_i hk
    subst hk
    unfold intBin at h
    split at h
    ·cases h;exact⟨_,by simp[binOp,Op.intArith],.sr (.int _ _)⟩
    ·cases h;exact⟨_,by simp[binOp,Op.intArith],.sr (.int _ _)⟩
    ·cases h;exact⟨_,by simp[binOp,Op.intArith],.sr (.int _ _)⟩
    ·split at h
     ·cases h
     ·rename_i hb;cases h;exact⟨_,by simp[binOp,Op.intDiv,hb],.sr (.int _ _)⟩
    ·split at h
     ·cases h
     ·rename_i hb;cases h;exact⟨_,by simp[binOp,Op.intDiv,hb],.sr (.int _ _)⟩
    ·cases h;exact⟨_,by simp only[binOp,Op.intBits,ne_eq,not_true_eq_false,if_false];rfl,.sr (.int _ _)⟩
    ·cases h;exact⟨_,by simp only[binOp,Op.intBits,ne_eq,not_true_eq_false,if_false];rfl,.sr (.int _ _)⟩
    ·cases h;exact⟨_,by simp only[binOp,Op.intBits,ne_eq,not_true_eq_false,if_false];rfl,.sr (.int _ _)⟩
    ·cases h;exact⟨_,by simp only[binOp,Op.intBits,ne_eq,not_true_eq_false,if_false];rfl,.sr (.int _ _)⟩
    ·cases h;exact⟨.bool (a == b),by simp only[binOp,Op.intCmp,ne_eq,not_true_eq_false,if_false];rfl,.sr (.bool _)⟩
    ·cases h;exact⟨.bool (a != b),by simp only[binOp,Op.intCmp,ne_eq,not_true_eq_false,if_false];rfl,.sr (.bool _)⟩
    ·cases h;exact⟨_,by simp only[binOp,Op.intCmp,ne_eq,not_true_eq_false,if_false];rfl,.sr (.bool _)⟩
    ·cases h;exact⟨_,by simp only[binOp,Op.intCmp,ne_eq,not_true_eq_false,if_false];rfl,.sr (.bool _)⟩
    ·cases h;exact⟨_,by simp only[binOp,Op.intCmp,ne_eq,not_true_eq_false,if_false];rfl,.sr (.bool _)⟩
    ·cases h;exact⟨_,by simp only[binOp,Op.intCmp,ne_eq,not_true_eq_false,if_false];rfl,.sr (.bool _)⟩
    ·cases h
   ·cases h
 ·rename_i a b
  obtain rfl:=hx.strS
  obtain rfl:=hy.strS
  have hg:(eqGuard op ty ox oy (.string a) (.string b)).run P w=.ok () w:=by cases op <;> simp[eqGuard]
  simp only[Sem.run_bind,hg,Result.andThen_ok]
  unfold strBin at h
  split at h
  ·split at h
   ·rename_i hle
    cases h
    refine⟨.string (a++b),?_,.sr (.str _)⟩
    have:¬ (((a.size+b.size:Nat):Int) > IntKind.i64.max):=by
     have e:IntKind.i64.max=9223372036854775807:=by decide
     rw[e];omega
    simp only[binOp,Op.stringOp,if_neg this]
    rfl
   ·cases h
  ·cases h;exact⟨_,rfl,.sr (.bool _)⟩
  ·cases h;exact⟨_,rfl,.sr (.bool _)⟩
  ·cases h
 ·cases h
theorem run_equalIn_nilS {t e:TypeId}(ht:P.underlying t=some (.slice e)){n c n' c':Nat}(b:Option Addr)(k:Nat)(w:World):(Op.equalIn (k+1) t (.slice none n c) (.slice b n' c')).run P w=.ok b.isNone w:=by
 simp only[Op.equalIn,Sem.run_bind,run_underlying ht,Result.andThen_ok,Sem.run_pure]
theorem run_equalIn_Snil {t e:TypeId}(ht:P.underlying t=some (.slice e)){n c n' c':Nat}(a:Addr)(k:Nat)(w:World):(Op.equalIn (k+1) t (.slice (some a) n c) (.slice none n' c')).run P w=.ok false w:=by
 simp only[Op.equalIn,Sem.run_bind,run_underlying ht,Result.andThen_ok,Sem.run_pure]
theorem run_equal_nilS {t e:TypeId}(ht:P.underlying t=some (.slice e)){n c n' c':Nat}(b:Option Addr)(w:World):(Op.equal t (.slice none n c) (.slice b n' c')).run P w=.ok b.isNone w:=run_equalIn_nilS ht b 9999 w
theorem run_equal_Snil {t e:TypeId}(ht:P.underlying t=some (.slice e)){n c n' c':Nat}(a:Addr)(w:World):(Op.equal t (.slice (some a) n c) (.slice none n' c')).run P w=.ok false w:=run_equalIn_Snil ht a 9999 w
theorem eqc_sim {G:Gh}{t:TypeId}{d:TypeDesc}(ht:P.underlying t=some d){x y x' y':Value}(hx:VR G x x')(hy:VR G y y'){r:Bool}(h:eqc d x y=some r)(k:Nat)(w:World) :
  (Op.equalIn (k+1) t x' y').run P w=.ok r w:=by
 unfold eqc at h
 split at h
 ·cases h
  obtain rfl:=hx.boolS
  obtain rfl:=hy.boolS
  simp only[Op.equalIn,Sem.run_bind,run_underlying ht,Result.andThen_ok,Sem.run_pure]
 ·split at h
  ·rename_i hk
   cases h
   subst hk
   obtain rfl:=hx.intS
   obtain rfl:=hy.intS
   simp[Op.equalIn,run_underlying ht]
  ·cases h
 ·cases h
  obtain rfl:=hx.strS
  obtain rfl:=hy.strS
  simp only[Op.equalIn,Sem.run_bind,run_underlying ht,Result.andThen_ok,Sem.run_pure,beq_toListBytes]
 ·cases h
theorem flat_part {t:TypeId}{ti:TI}(ht:tab P t=some ti)(ha:ti.agg=false){G:Gh}{cs cs':Array Value}(hc:All2 (CR G) cs.toList cs'.toList){off:Nat}{x:Value}(hx:cs.toList[off]?=some x)(w:World) :
  ∃ x',(part t cs' off).run P w=.ok x' w/\VR G x x':=by
 obtain⟨i,z,i1,i2,_,_,_,_,i7⟩:=Yy ht
 have hag:=run_isAgg (P:=P) i2 w
 rw[← i7,ha]at hag
 obtain⟨x',h1,h2⟩:=hc.get hx
 rw[Array.getElem?_toList]at h1
 exact⟨x',by simp[part,hag,h1],.p (.c h2)⟩
theorem eqFs_sim {G:Gh}{xs ys xs' ys':Array Value}(hx:All2 (CR G) xs.toList xs'.toList) (hy:All2 (CR G) ys.toList ys'.toList) (k:Nat)(w:World) :
  ∀ (l:List Field) (fs:List (Nat × TypeDesc)) (r:Bool), flatFs (tab P) l=some fs->eqFs xs.toList ys.toList fs=some r->(Op.eqFields (k+1) xs' ys' l).run P w=.ok r w
 | [], fs, r, h1, h2=>by cases h1;cases h2;simp[Op.eqFields]
 | f :: l, fs, r, h1, h2=>by
  unfold flatFs at h1
  split at h1
  ·cases h1
  ·rename_i hn
   simp only[Option.bind_eq_some_iff]at h1
   obtain⟨ti, ht, h1⟩:=h1
   split at h1
   ·rename_i hfl
    simp only[Option.bind_eq_some_iff, Option.some.injEq]at h1
    obtain⟨fs', hf, rfl⟩:=h1
    unfold eqFs at h2
    simp only[Option.bind_eq_some_iff, Option.some.injEq]at h2
    obtain⟨x, hx1, y, hy1, r1, hr1, r2, hr2, rfl⟩:=h2
    simp only[Bool.and_eq_true, Bool.not_eq_true']at hfl
    obtain⟨x', a1, a2⟩:=flat_part (P:=P) ht hfl.2 hx hx1 w
    obtain⟨y', b1, b2⟩:=flat_part (P:=P) ht hfl.2 hy hy1 w
    obtain⟨i, z, _, i2, _⟩:=Yy ht
    have he:=eqc_sim (P:=P) i2 a2 b2 hr1 k w
    have ih:=eqFs_sim hx hy k w l fs' r2 hf hr2
    simp only [Op.eqFields, if_pos (show f.name ≠ "_" from hn), Sem.run_bind, a1, b1, he, Result.andThen_ok]
    cases r1
    ·simp
    ·simpa using ih
   ·cases h1
theorem eqFields_some {t:TypeId}{fs:List (Nat × TypeDesc)}(h:eqFields P t=some fs):∃ l,P.underlying t=some (.struct l)/\P.eqGuardType P.depth t=false/\P.stoodInHeld t=false/\flatFs (tab P) l.toList=some fs:=by
 unfold eqFields at h
 simp only[Option.bind_eq_some_iff]at h
 obtain⟨ti,ht,h⟩:=h
 obtain⟨i,z,_,i2,_⟩:=Yy ht
 split at h
 ·rename_i l hd
  split at h
  ·rename_i hc;exact⟨l,by rw[i2,hd],hc.1,hc.2,h⟩
  ·cases h
 ·cases h
theorem aggEq_sim {G:Gh}{t:TypeId}{fs:List (Nat × TypeDesc)}(h:eqFields P t=some fs){x y x' y':Value}(hx:VR G x x')(hy:VR G y y'){r:Bool}(hr:aggEq fs x y=some r)(w:World) :
  (Op.equal t x' y').run P w=.ok r w:=by
 obtain⟨l,hu,_,hs,hf⟩:=eqFields_some h
 unfold aggEq at hr
 split at hr
 ·rename_i xs ys
  obtain⟨xs',rfl,hx'⟩:=hx.aggS
  obtain⟨ys',rfl,hy'⟩:=hy.aggS
  show(Op.equalIn (9999+1) t (.agg xs') (.agg ys')).run P w=_
  have hfo:P.fieldsOf t=l:=by simp[Program.fieldsOf,hu]
  rw[run_equalIn_struct w 9999 t xs' ys' (by rw[hfo];exact hu) hs,hfo]
  exact eqFs_sim hx' hy' 9998 w l.toList fs r hf hr
 ·cases hr
theorem eqV_sim {G:Gh}{op:BinOp}{r:Option Bool}{v:Value}(h:eqV op r=some v){t:TypeId}{x' y':Value}{w:World}(hop:∀ b,r=some b->(Op.equal t x' y').run P w=.ok b w)
  (hb:∀ op,isEq op=true->binOp op t x' y'=(match op with|.eql=>(do pure (.bool (← Op.equal t x' y')))|_=>(do pure (.bool (!(← Op.equal t x' y')))):Sem Value)) (ox oy:Operand) (hg:(eqGuard op t ox oy x' y').run P w=.ok () w) :
  ∃ v',(do eqGuard op t ox oy x' y';binOp op t x' y').run P w=.ok v' w/\VR G v v':=by
 unfold eqV at h
 split at h
 ·simp only[Option.bind_eq_some_iff,Option.some.injEq]at h
  obtain⟨b,rfl,rfl⟩:=h
  refine⟨.bool b,?_,.sr (.bool _)⟩
  rw[Sem.run_bind,hg,Result.andThen_ok,hb _ rfl]
  simp[hop b rfl]
 ·simp only[Option.bind_eq_some_iff,Option.some.injEq]at h
  obtain⟨b,rfl,rfl⟩:=h
  refine⟨.bool !b,?_,.sr (.bool _)⟩
  rw[Sem.run_bind,hg,Result.andThen_ok,hb _ rfl]
  simp[hop b rfl]
 ·cases h
theorem binK_sim {G:Gh}{op:BinOp}{ty:TypeId}{x y x' y' v:Value}(hx:VR G x x')(hy:VR G y y')(h:Zd (kindOf P op ty) op x y=some v) (ox oy:Operand)(w:World) :
  ∃ v',(do eqGuard op ty ox oy x' y';binOp op ty x' y').run P w=.ok v' w/\VR G v v':=by
 generalize hk:kindOf P op ty=k at h
 unfold Zd at h
 split at h
 ·exact bin_sim hx hy h ty ox oy w
 ·-- bool
  unfold kindOf at hk
  split at hk <;> try(first|cases hk|(split at hk <;> cases hk))
  ·rename_i hd hop
   have hu:=Wg hd
   unfold boolEq at h
   split at h
   ·rename_i a b
    obtain rfl:=hx.boolS
    obtain rfl:=hy.boolS
    exact eqV_sim h (fun r hr=>by cases hr;exact eqc_sim (P:=P) (G:=G) hu (.sr (.bool a)) (.sr (.bool b)) rfl 9999 w) (by intro op hop;cases op <;> first|exact absurd hop (by decide)|rfl) ox oy (by cases op <;> simp[eqGuard])
   ·unfold eqV at h;split at h <;> cases h
  ·rename_i hd hop
   split at hk
   ·split at hk <;> exact BK.noConfusion hk
   ·exact BK.noConfusion hk
 ·-- slice
  unfold kindOf at hk
  split at hk <;> try(first|cases hk|(split at hk <;> cases hk))
  ·rename_i e hd hop
   have hu:=Wg hd
   have hx':∃ a n c,x=.slice a n c/\∃ a' n' c',x'=.slice a' n' c'/\a'.isNone=a.isNone:=by
    unfold slNil at h
    split at h
    ·obtain⟨_,_,h3⟩:=hx.nilS;exact⟨_,_,_,rfl,_,_,_,h3,rfl⟩
    ·rename_i a n c _ _
     obtain⟨b,o,sp⟩:=a
     cases sp with
     | none=>obtain⟨g,c',_,h3,_⟩:=hx.slS;exact⟨_,_,_,rfl,_,_,_,h3,rfl⟩
     | some q=>obtain⟨_,a',c',h3⟩:=hx.empS;exact⟨_,_,_,rfl,_,_,_,h3,rfl⟩
    ·unfold eqV at h;split at h <;> cases h
   have hy':∃ a n c,y=.slice a n c/\∃ a' n' c',y'=.slice a' n' c'/\a'.isNone=a.isNone:=by
    unfold slNil at h
    split at h
    ·rename_i b n c
     cases b with
     | none=>obtain⟨_,_,h3⟩:=hy.nilS;exact⟨_,_,_,rfl,_,_,_,h3,rfl⟩
     | some a=>
      obtain⟨b,o,sp⟩:=a
      cases sp with
      | none=>obtain⟨g,c',_,h3,_⟩:=hy.slS;exact⟨_,_,_,rfl,_,_,_,h3,rfl⟩
      | some q=>obtain⟨_,a',c',h3⟩:=hy.empS;exact⟨_,_,_,rfl,_,_,_,h3,rfl⟩
    ·obtain⟨_,_,h3⟩:=hy.nilS;exact⟨_,_,_,rfl,_,_,_,h3,rfl⟩
    ·unfold eqV at h;split at h <;> cases h
   obtain⟨a,n,c,rfl,a',n',c',rfl,ha⟩:=hx'
   obtain⟨b,m,d,rfl,b',m',d',rfl,hb⟩:=hy'
   refine eqV_sim h (fun r hr=>?_) (by intro op hop;cases op <;> first|exact absurd hop (by decide)|rfl) ox oy (by cases op <;> simp[eqGuard])
   unfold slNil at hr
   split at hr
   ·rename_i h1 h2
    cases h1;cases h2
    cases hr
    cases a' with
    | some _=>cases ha
    | none=>rw[run_equal_nilS hu,hb]
   ·rename_i h1 h2
    cases h1;cases h2
    cases hr
    cases b' with
    | some _=>cases hb
    | none=>cases a' with
     | none=>cases ha
     | some a'=>exact run_equal_Snil hu a' w
   ·cases hr
  ·rename_i hd hop
   split at hk
   ·split at hk <;> exact BK.noConfusion hk
   ·exact BK.noConfusion hk
 ·-- struct
  rename_i fs
  unfold kindOf at hk
  split at hk <;> try(first|cases hk|(split at hk <;> cases hk))
  rename_i fl hd
  split at hk
  ·split at hk
   ·rename_i fs' he
    cases hk
    obtain⟨l,hu,hgt,_,_⟩:=eqFields_some he
    have hxy:(∃ xs,x'=.agg xs)/\∃ ys,y'=.agg ys:=by
     unfold aggEq at h
     split at h
     ·obtain⟨xs',h1,_⟩:=hx.aggS
      obtain⟨ys',h2,_⟩:=hy.aggS
      exact⟨⟨_,h1⟩,_,h2⟩
     ·unfold eqV at h;split at h <;> cases h
    refine eqV_sim h (fun r hr=>aggEq_sim he hx hy hr w) ?_ ox oy ?_
    ·obtain⟨⟨xs,rfl⟩,ys,rfl⟩:=hxy
     intro op hop;cases op <;> first|exact absurd hop (by decide)|rfl
    ·obtain⟨⟨xs,rfl⟩,ys,rfl⟩:=hxy
     cases op <;> simp[eqGuard,hgt]
   ·cases hk
  ·cases hk
 ·cases h
variable {P:Program}
theorem mapT_some {t:TypeId}{fs:List (Nat × TypeDesc)}{z:Value}(h:mapT P t=some (fs,[z])) :
  ∃ k e i,P.underlying t=some (.map k e)/\P.info? e=some i/\i.zero=some z/\gnd1 z=true/\eqFields P k=some fs:=by
 unfold mapT at h
 simp only[Option.bind_eq_some_iff]at h
 obtain⟨ti,ht,h⟩:=h
 obtain⟨_,_,_,i2,_⟩:=Yy ht
 split at h
 ·rename_i k e hd
  simp only[Option.bind_eq_some_iff]at h
  obtain⟨te,hte,h⟩:=h
  obtain⟨i,z0,j1,j2,j3,j4,j5,j6,j7⟩:=Yy hte
  split at h
  ·rename_i hc
   simp only[Option.bind_eq_some_iff,Option.some.injEq,Prod.mk.injEq]at h
   obtain⟨fs',hf,rfl,hz⟩:=h
   obtain⟨_,_,hg,hfl⟩:=hc
   have hz0:z0=z:=by
    unfold flatZero at hfl
    rw[j1]at hfl
    simp only[Option.bind_some,j3]at hfl
    rw[j6]at hz
    cases z0 <;> first|(cases hfl;done)|(simp[Value.cells]at hz;exact hz)
   subst hz0
   refine⟨k,e,i,by rw[i2,hd],j1,j3,?_,hf⟩
   rw[hz]at hg
   simpa using hg
  ·cases h
 ·cases h
theorem flatFs_key {t:TypeId}{ti:TI}(ht:tab P t=some ti)(hfl:flatDesc ti.desc=true)(em:Bool)(n:Nat)(v:Value)(w:World):(Instr.checkKey em (n+1) t v).run P w=.ok () w:=by
 obtain⟨i,z,_,i2,_⟩:=Yy ht
 unfold Instr.checkKey
 simp only[Sem.run_bind,run_underlying i2,Result.andThen_ok]
 cases hd:ti.desc <;> rw[hd]at hfl <;> first|(cases hfl;done)|simp
theorem checkFs {G:Gh}{xs xs':Array Value}(hx:All2 (CR G) xs.toList xs'.toList) (em:Bool)(n:Nat)(w:World) :
  ∀ (l:List Field) (fs:List (Nat × TypeDesc)) (r:Bool), flatFs (tab P) l=some fs->eqFs xs.toList xs.toList fs=some r ->
   (forIn l PUnit.unit fun (f : Field) (_ : PUnit) => if f.name ≠ "_" then (do let x ← part f.type xs' f.offset; Instr.checkKey em (n + 1) f.type x; pure (ForInStep.yield PUnit.unit)) else (pure (ForInStep.yield PUnit.unit) : Sem (ForInStep PUnit))).run P w = .ok PUnit.unit w
 | [], fs, r, _, _=>by simp
 | f :: l, fs, r, h1, h2=>by
  unfold flatFs at h1
  split at h1
  ·cases h1
  ·rename_i hn
   simp only[Option.bind_eq_some_iff]at h1
   obtain⟨ti, ht, h1⟩:=h1
   split at h1
   ·rename_i hfl
    simp only[Option.bind_eq_some_iff, Option.some.injEq]at h1
    obtain⟨fs', hf, rfl⟩:=h1
    unfold eqFs at h2
    simp only[Option.bind_eq_some_iff, Option.some.injEq]at h2
    obtain⟨x, hx1, y, hy1, r1, hr1, r2, hr2, rfl⟩:=h2
    simp only[Bool.and_eq_true, Bool.not_eq_true']at hfl
    obtain⟨x', a1, a2⟩:=flat_part (P:=P) ht hfl.2 hx hx1 w
    have ih:=checkFs hx em n w l fs' r2 hf hr2
    have hk:=flatFs_key (P:=P) ht hfl.1 em n x' w
    rw [List.forIn_cons, if_pos (show f.name ≠ "_" from hn)]
    simp only[Sem.run_bind, a1, hk, Result.andThen_ok, Sem.run_pure]
    exact ih
   ·cases h1
theorem checkKey_sim {G:Gh}{k:TypeId}{fs:List (Nat × TypeDesc)}(h:eqFields P k=some fs){x x':Value}(hx:VR G x x'){r:Bool}(hr:aggEq fs x x=some r)(em:Bool)(w:World) :
  (Instr.checkKey em 10000 k x').run P w=.ok () w:=by
 obtain⟨l,hu,_,hs,hf⟩:=eqFields_some h
 have hag:∃ xs,x=.agg xs:=by
  cases x <;> first|exact⟨_,rfl⟩|cases hr
 obtain⟨xs,rfl⟩:=hag
 obtain⟨xs',rfl,hx'⟩:=hx.aggS
 have:=checkFs (P:=P) hx' em 9998 w l.toList fs r hf hr
 rw[Array.forIn_toList]at this
 have key:∀ q,q=9998+1->(Instr.checkKey em (q+1) k (.agg xs')).run P w=.ok () w:=by
  intro q hq
  unfold Instr.checkKey
  simp only[Sem.run_bind,run_underlying hu,Result.andThen_ok]
  subst hq
  rw[this]
  rfl
 exact key 9999 rfl
def Found (G:Gh)(r:Option Value)(r':Option (Nat × Value)):Prop :=
 match r with
 | none=>r'=none
 | some v=>∃ j v',r'=some (j,v')/\PR G v v'
theorem HR.map {G:Gh}{H:Hp}{w:World}(hH:HR G H w){j:Nat}{es:List (Value × Value)}{g:GI}(hj:H j=some (.map es)) (hg:G j=some g) :
  ∃ es' ck,w.heap[g.blk]?=some (.map es' ck)/\All2 (fun p (q:MapEntry)=>VR G p.1 q.key/\PR G p.2 q.val) es es'.toList:=hH.obj j _ g hj hg
theorem findAsking_sim {G:Gh}{kt:TypeId}{fs:List (Nat × TypeDesc)}(h:eqFields P kt=some fs){k k':Value}(hk:VR G k k')(w:World){es:List (Value × Value)}{es':List MapEntry}
  (he:All2 (fun p (q:MapEntry)=>VR G p.1 q.key/\PR G p.2 q.val) es es'):∀ (i:Nat) (r:Option Value),findK fs k es=some r ->
  ∃ r',(Instr.findAsking kt k' es' i).run P w=.ok r' w/\Found G r r':=by
 induction he with
 | nil=>intro i r hr;cases hr;exact⟨none,by simp[Instr.findAsking],rfl⟩
 | cons hp _ ih=>
  intro i r hr
  unfold findK at hr
  simp only[Option.bind_eq_some_iff]at hr
  obtain⟨b,hb,hr⟩:=hr
  have heq:=aggEq_sim (P:=P) h hk hp.1 hb w
  cases b with
  | true=>
   cases hr
   refine⟨_,?_,i,_,rfl,hp.2⟩
   simp only[Instr.findAsking,Sem.run_bind,heq,Result.andThen_ok,if_true,Sem.run_pure]
  | false=>
   obtain⟨r',h1,h2⟩:=ih (i+1) r (by simpa using hr)
   exact⟨r',by simp only[Instr.findAsking,Sem.run_bind,heq,Result.andThen_ok,Bool.false_eq_true,if_false];exact h1,h2⟩
theorem findKey_sim {G:Gh}{kt:TypeId}{fs:List (Nat × TypeDesc)}(h:eqFields P kt=some fs){k k':Value}(hk:VR G k k'){b:Bool}(hkk:aggEq fs k k=some b)(w:World){es:List (Value × Value)}{es':List MapEntry}
  (he:All2 (fun p (q:MapEntry)=>VR G p.1 q.key/\PR G p.2 q.val) es es') {r:Option Value} (hr:findK fs k es=some r) :
  ∃ r',(Instr.findKey kt k' es').run P w=.ok r' w/\Found G r r':=by
 obtain⟨l,hu,_,_,_⟩:=eqFields_some h
 obtain⟨r',h1,h2⟩:=findAsking_sim (P:=P) h hk w he 0 r hr
 have hag:∃ xs,k'=.agg xs:=by
  unfold aggEq at hkk
  split at hkk
  ·obtain⟨xs',rfl,_⟩:=hk.aggS;exact⟨_,rfl⟩
  ·cases hkk
 obtain⟨xs,rfl⟩:=hag
 cases he with
 | nil=>
  cases hr
  exact⟨none,by simp[Instr.findKey,run_underlying hu,Instr.findNow],rfl⟩
 | cons _ _=>
  refine⟨r',?_,h2⟩
  simp only[Instr.findKey,Sem.run_bind,run_underlying hu,Result.andThen_ok,Instr.findNow,Instr.sameNow]
  exact h1
theorem look_sim {G:Gh}{H:Hp}{w:World}(hH:HR G H w){t:TypeId}{fs:List (Nat × TypeDesc)}{z:Value}(ht:mapT P t=some (fs,[z])){ok:Bool}{m k m' k' v:Value}(hm:VR G m m')(hk:VR G k k')(h:lookV fs z ok m k H=some v) :
  ∃ v',(Instr.lookup t m' k' ok).run P w=.ok v' w/\VR G v v':=by
 obtain⟨kt,e,i,hu,hi,hz,hg,hf⟩:=mapT_some ht
 unfold lookV at h
 split at h
 ·rename_i j
  split at h
  ·rename_i es hj
   simp only[Option.bind_eq_some_iff,Option.some.injEq]at h
   obtain⟨b,hb,r,hr,rfl⟩:=h
   obtain⟨g,hgj,rfl⟩:=hm.mapS
   obtain⟨es',ck,ho,he⟩:=hH.map hj hgj
   obtain⟨r',h1,h2⟩:=findKey_sim (P:=P) hf hk hb w he hr
   have hc:=checkKey_sim (P:=P) hf hk hb es'.isEmpty w
   have hzv:=run_zeroValue (P:=P) hi hz w
   have hgz:(getObj g.blk).run P w=.ok (.map es' ck) w:=by simp[getObj,Sem.run,ho]
   cases r with
   | none=>
    subst h2
    cases ok with
    | true=>exact⟨.tuple #[z,.bool false],by simp[Instr.lookup,run_underlying hu,hgz,hc,h1,hzv],.tup (.cons (.c (.s (gnd1_sr hg))) (.one (.c (.s (.bool _)))))⟩
    | false=>exact⟨z,by simp[Instr.lookup,run_underlying hu,hgz,hc,h1,hzv],.sr (gnd1_sr hg)⟩
   | some v=>
    obtain⟨_,v',rfl,hv⟩:=h2
    cases ok with
    | true=>exact⟨.tuple #[v',.bool true],by simp[Instr.lookup,run_underlying hu,hgz,hc,h1],.tup (.cons hv (.one (.c (.s (.bool _)))))⟩
    | false=>exact⟨v',by simp[Instr.lookup,run_underlying hu,hgz,hc,h1],.p hv⟩
  ·cases h
 ·cases h
theorem VR.pr {G:Gh}{v v':Value}(h:VR G v v')(hc:isCell v=true):PR G v v':=by
 cases h with
 | p h=>exact h
 | tup h=>cases hc
theorem upd_sim {G:Gh}{H H':Hp}{w:World}(hH:HR G H w){New:Nat->Prop}{t:TypeId}{fs:List (Nat × TypeDesc)}{z:List Value}(ht:mapT P t=some (fs,z)){m k v m' k' v':Value}(hm:VR G m m')(hk:VR G k k')(hv:VR G v v')(h:updV fs m k v H=some H') :
  ∃ w',(Instr.mapUpdate t m' k' v').run P w=.ok () w'/\Post New G H w G H' w':=by
 have hz1:∃ z0,z=[z0]:=by
  unfold mapT at ht
  simp only[Option.bind_eq_some_iff]at ht
  obtain⟨ti,_,ht⟩:=ht
  split at ht
  ·simp only[Option.bind_eq_some_iff]at ht
   obtain⟨te,_,ht⟩:=ht
   split at ht
   ·rename_i hc
    simp only[Option.bind_eq_some_iff,Option.some.injEq,Prod.mk.injEq]at ht
    obtain⟨_,_,_,rfl⟩:=ht
    exact List.length_eq_one_iff.1 hc.2.1
   ·cases ht
  ·cases ht
 obtain⟨z0,rfl⟩:=hz1
 obtain⟨kt,e,i,hu,hi,hz,hg,hf⟩:=mapT_some ht
 unfold updV at h
 split at h
 ·rename_i j
  split at h
  ·rename_i es hj
   simp only[Option.bind_eq_some_iff]at h
   obtain⟨b,hb,r,hr,h⟩:=h
   split at h
   ·rename_i hc
    cases h
    obtain⟨hc1,hc2,hc3⟩:=hc
    obtain⟨g,hgj,rfl⟩:=hm.mapS
    obtain⟨es',ck,ho,he⟩:=hH.map hj hgj
    obtain⟨r',h1,h2⟩:=findKey_sim (P:=P) hf hk hb w he hr
    have hck:=checkKey_sim (P:=P) hf hk hb false w
    have hgz:(getObj g.blk).run P w=.ok (.map es' ck) w:=by simp[getObj,Sem.run,ho]
    cases r with
    | some v=>cases hc1
    | none=>
     subst h2
     have hso:(setObj g.blk (.map (es'.push { key:=k',val:=v',born:=ck }) (ck+1))).run P w=.ok () { w with heap:=w.heap.setIfInBounds g.blk (.map (es'.push { key:=k',val:=v',born:=ck }) (ck+1)) }:=by simp[setObj,Sem.run,ho]
     refine⟨{ w with heap:=w.heap.setIfInBounds g.blk (.map (es'.push { key:=k',val:=v',born:=ck }) (ck+1)) },?_,?_⟩
     ·simp[Instr.mapUpdate,run_underlying hu,hgz,hck,h1,hso]
     ·have hlt:g.blk < w.heap.size:=(Array.getElem?_eq_some_iff.1 ho).1
      refine Post.write hH hj rfl hgj rfl (by simp) (fun b hb=>by simp[Ne.symm hb]) rfl rfl rfl ⟨es'.push { key:=k',val:=v',born:=ck },ck+1,by simp[hlt],?_⟩
      rw[Array.toList_push]
      exact he.append (.one ⟨hk,hv.pr hc3⟩)
   ·cases h
  ·cases h
 ·cases h
variable {P:Program}
def opOf (P:Program)(f:Nat)(r:Sem Next)(w:World)(args':List Value):Prop :=
 ∀ fn c, P.funcs[f]? = some fn → fn.body = some c → (fn.name == "runtime.NumGoroutine") = false → r.run P w = .ok (.enter f ⟨args'⟩) w
inductive Did (P:Program) (id:Nat) (G:Gh) (H:Hp) (w:World) (m:Sem Next):Res->Prop
 | val {v:Value}{H':Hp}{v':Value}{w':World}{G':Gh}:m.run P w=.ok (.value v') w'->VR G' v v'->Post (·=id) G H w G' H' w'->Did P id G H w m (.val v H')
 | skip {H':Hp}{w':World}:m.run P w=.ok .skip w'->Post (·=id) G H w G H' w'->Did P id G H w m (.skip H')
 | call {f:Nat}{args args':List Value}:All2 (VR G) args args'->opOf P f m w args'->Did P id G H w m (.call f args)
theorem Did.of_sem {id:Nat}{G:Gh}{H H':Hp}{w:World}{v:Value}{s:Sem Value}(h:∃ v' w' G',s.run P w=.ok v' w'/\VR G' v v'/\Post (·=id) G H w G' H' w'):Did P id G H w (do pure (.value (← s))) (.val v H'):=by
 obtain⟨v',w',G',h1,h2,h3⟩:=h
 exact .val (by simp[h1]) h2 h3
theorem Did.of_pure {id:Nat}{G:Gh}{H:Hp}{w:World}(hH:HR G H w){v:Value}{s:Sem Value}(h:∃ v',s.run P w=.ok v' w/\VR G v v'):Did P id G H w (do pure (.value (← s))) (.val v H):=by
 obtain⟨v',h1,h2⟩:=h
 exact .of_sem ⟨v',w,G,h1,h2,Post.refl hH⟩
theorem Xc {H:Hp}{v:Option Value}{r:Res}(h:vH H v=some r):∃ x,v=some x/\r=.val x H:=by
 unfold vH at h
 simp only[Option.bind_eq_some_iff,Option.some.injEq]at h
 obtain⟨x,h1,rfl⟩:=h
 exact⟨x,h1,rfl⟩
theorem vP_some {v:Option (Value × Hp)}{r:Res}(h:vP v=some r):∃ x H',v=some (x,H')/\r=.val x H':=by
 unfold vP at h
 simp only[Option.bind_eq_some_iff,Option.some.injEq]at h
 obtain⟨⟨x,H'⟩,h1,rfl⟩:=h
 exact⟨x,H',h1,rfl⟩
theorem vS_some {v:Option Hp}{r:Res}(h:vS v=some r):∃ H',v=some H'/\r=.skip H':=by
 unfold vS at h
 simp only[Option.bind_eq_some_iff,Option.some.injEq]at h
 obtain⟨H',h1,rfl⟩:=h
 exact⟨H',h1,rfl⟩
theorem VR.fn {G:Gh}{f:Nat}{first cap:Array Value}{x':Value}(h:VR G (.func (.func f) first cap) x'):first=#[]/\∃ cap',x'=.func (.func f) #[] ⟨cap'⟩/\All2 (SR G) cap.toList cap':=by
 cases h with
 | p h=>cases h with
  | c h=>cases h with
   | s h=>cases h
   | fn f hc=>exact⟨rfl,_,rfl,hc⟩
theorem VR.ptrV {G:Gh}{x x':Value}(h:VR G x x')(hp:ptrV x=true):SR G x x':=by
 cases x with
 | pointer a=>
  cases h with
  | p h=>cases h with
   | c h=>cases h with
    | s h=>exact h
 | _=>cases hp
theorem ovr_of {G:Gh}{t:Tm}{ρ:Operand->Value}(o:Option Operand)(h:∀ x,o=some x->VR G (ev t x) (ρ x)):OVR G (o.map (ev t)) (o.map ρ):=by
 cases o with
 | none=>exact .none
 | some x=>exact .some (h x rfl)
theorem run_call {G:Gh}{H:Hp}{w:World}{id:Nat}{t:Tm}{ρ:Operand->Value}{c:Go.Call}{ty:TypeId}{g:Operand}(hc:c.callee=.value g)(hg:VR G (ev t g) (ρ g)) (ha:All2 (VR G) (c.args.toList.map (ev t)) (c.args.toList.map ρ)){r:Res}
  (h:calleeV (ev t g) (c.args.toList.map (ev t))=some r):Did P id G H w (do let d ← resolve ρ c ty;invoke d.target d.args) r:=by
 unfold calleeV at h
 split at h
 ·rename_i f first cap hf
  cases h
  rw[hf]at hg
  obtain⟨rfl,cap',hr,hcap⟩:=hg.fn
  refine .call (args':=c.args.toList.map ρ++cap') ?_ ?_
  ·exact ha.append (hcap.mono fun _ _ h=>.sr h)
  ·intro fn b h1 h2 h3
   have hres:(resolve ρ c ty).run P w=.ok { target:=.fn (.func f) ⟨cap'⟩,args:=#[]++c.args.map ρ } w:=by
    simp[resolve,hc,hr,Deferred.ofValue]
   rw[Sem.run_bind,hres,Result.andThen_ok]
   have hb:fn.body.isNone=false:=by rw[h2];rfl
   simp only[invoke,callFunc,Sem.run_bind,run_program,Result.andThen_ok,h1,h3,hb,Bool.false_eq_true,if_false,Sem.run_pure]
   congr 2
   apply Array.toList_inj.1
   simp
 ·cases h
theorem step_sim {G:Gh}{H:Hp}{w:World}(hH:HR G H w){id:Nat}(hid:G id=none){o:Oper}{p:Operand->Bool}(ho:o.op.operands.toList.all p=true){t:Tm}{ρ:Operand->Value}(hv:∀ x,p x=true->VR G (ev t x) (ρ x)){r:Res}(h:step1 P t o H id=some r) :
  Did P id G H w (execOp ρ o) r:=by
 unfold step1 at h
 dsimp only at h
 unfold execOp
 cases hop:o.op <;> rw[hop]at h ho <;> (try dsimp only at h) <;> try(cases h;done)
 case move x=>
  simp only[Op.operands,List.all_cons,List.all_nil,Bool.and_true]at ho
  cases h
  exact .val rfl (hv x ho) (Post.refl hH)
 case assign x=>
  simp only[Op.operands,List.all_cons,List.all_nil,Bool.and_true]at ho
  cases h
  exact .val rfl (hv x ho) (Post.refl hH)
 case pick c a b=>
  simp only[Op.operands,List.all_cons,List.all_nil,Bool.and_true,Bool.and_eq_true]at ho
  obtain⟨x,h1,rfl⟩:=Xc h
  obtain⟨v',h2,h3⟩:=pick_sim (P:=P) (hv c ho.1) (hv a ho.2.1) (hv b ho.2.2) h1 w
  exact .val h2 h3 (Post.refl hH)
 case alloc ty=>
  simp only[Option.bind_eq_some_iff]at h
  obtain⟨ti,ht,h⟩:=h
  split at h
  ·rename_i hz;cases h
   exact .of_sem (alloc_sim hH hid ht hz)
  ·cases h
 case box ty x=>
  simp only[Op.operands,List.all_cons,List.all_nil,Bool.and_true]at ho
  simp only[Option.bind_eq_some_iff,Option.some.injEq]at h
  obtain⟨cs,hc,rfl⟩:=h
  exact .of_sem (box_sim hH hid ty (hv x ho) hc)
 case build ty parts=>
  simp only[Op.operands]at ho
  simp only[Option.bind_eq_some_iff]at h
  obtain⟨ti,ht,h⟩:=h
  split at h
  ·rename_i hc
   simp only[Option.bind_eq_some_iff]at h
   obtain⟨ps,hp,h⟩:=h
   obtain⟨x,h1,rfl⟩:=Xc h
   refine .of_pure hH (build_sim ht hc.1 hc.2 (fun x hx=>hv x.2 ?_) hp h1)
   exact List.all_eq_true.1 ho x.2 (List.mem_map.2 ⟨x,hx,rfl⟩)
  ·cases h
 case buildSlice ty n parts=>
  simp only[Op.operands]at ho
  simp only[Option.bind_eq_some_iff]at h
  obtain⟨te,ht,h⟩:=h
  split at h
  ·rename_i hc
   obtain⟨x,H',h1,rfl⟩:=vP_some h
   refine .of_sem (bsl_sim hH hid ht hc (fun x hx=>hv x.2 ?_) h1)
   exact List.all_eq_true.1 ho x.2 (List.mem_map.2 ⟨x,hx,rfl⟩)
  ·cases h
 case load ty a=>
  simp only[Op.operands,List.all_cons,List.all_nil,Bool.and_true]at ho
  simp only[Option.bind_eq_some_iff]at h
  obtain⟨ti,ht,h⟩:=h
  obtain⟨x,h1,rfl⟩:=Xc h
  obtain⟨v',h2,h3⟩:=ld_sim hH ht (hv a ho) h1
  exact .of_pure hH ⟨v',h2,.p h3⟩
 case store ty a x=>
  simp only[Op.operands,List.all_cons,List.all_nil,Bool.and_true,Bool.and_eq_true]at ho
  simp only[Option.bind_eq_some_iff]at h
  obtain⟨ti,ht,h⟩:=h
  obtain⟨H',h1,rfl⟩:=vS_some h
  obtain⟨w',h2,h3⟩:=st_sim (New:=(·=id)) hH ht (hv a ho.1) (hv x ho.2) h1
  exact .skip (by simp[h2]) h3
 case nilCheck x=>
  simp only[Op.operands,List.all_cons,List.all_nil,Bool.and_true]at ho
  obtain⟨v,h1,rfl⟩:=Xc h
  obtain⟨a,h2,h3⟩:=nilchk_sim (hv x ho) h1
  exact .val (by simp[h2]) h3 (Post.refl hH)
 case binOp op ty x y s=>
  simp only[Op.operands,List.all_cons,List.all_nil,Bool.and_true,Bool.and_eq_true]at ho
  obtain⟨v,h1,rfl⟩:=Xc h
  exact .of_pure hH (binK_sim (hv x ho.1) (hv y ho.2) h1 x y w)
 case unOp op ty x=>
  simp only[Op.operands,List.all_cons,List.all_nil,Bool.and_true]at ho
  obtain⟨v,h1,rfl⟩:=Xc h
  exact .of_pure hH (un_sim (hv x ho) h1 w)
 case convert s d x=>
  simp only[Op.operands,List.all_cons,List.all_nil,Bool.and_true]at ho
  obtain⟨v,H',h1,rfl⟩:=vP_some h
  exact .of_sem (conv_sim hH hid (hv x ho) h1)
 case makeFunc fn first captured=>
  simp only[Op.operands]at ho
  split at h
  ·rename_i hc
   split at h
   ·rename_i g
    cases h
    have he:first=#[]:=by
     apply Array.toList_inj.1
     have:=hc.1
     rw[List.isEmpty_iff]at this
     simpa using this
    subst he
    refine .val (v':=.func (.func g) #[] ⟨captured.toList.map ρ⟩) ?_ (.p (.c (.fn g ?_))) (Post.refl hH)
    ·simp only[Instr.makeFunc,Sem.run_bind,Sem.run_pure,Result.andThen_ok]
     congr 2
     congr 1 <;> (apply Array.toList_inj.1;simp)
    ·refine All2.map fun x hx=>?_
     refine(hv x ?_).ptrV (List.all_eq_true.1 hc.2 _ (List.mem_map_of_mem hx))
     exact List.all_eq_true.1 ho x (by simpa using hx)
   ·cases h
  ·cases h
 case makeMap ty rs=>
  split at h
  ·cases h
  ·rename_i hc
   simp only[Option.bind_eq_some_iff,Option.some.injEq]at h
   obtain⟨p,hp,rfl⟩:=h
   have hr:rs=none:=by cases rs with|none=>rfl|some x=>simp at hc
   subst hr
   refine .of_sem ⟨.map (some w.heap.size),{ w with heap:=w.heap.push (.map #[] 0) },G.set id ⟨w.heap.size,0,0,0,true⟩,by simp[Instr.makeMap],.sr (.map (i:=id) (Gh.set_same _ _ _)),?_⟩
   exact Post.alloc hH hid (.map #[] 0) (.map []) ⟨w.heap.size,0,0,0,true⟩ rfl rfl rfl rfl rfl rfl ⟨#[],0,rfl,.nil⟩
 case makeSlice ty l c=>
  simp only[Op.operands,List.all_cons,List.all_nil,Bool.and_true,Bool.and_eq_true]at ho
  simp only[Option.bind_eq_some_iff]at h
  obtain⟨te,ht,h⟩:=h
  split at h
  ·rename_i hc
   obtain⟨x,H',h1,rfl⟩:=vP_some h
   exact .of_sem (mks_sim hH hid ht hc (hv l ho.1) (hv c ho.2) h1)
  ·cases h
 case slice ty x lo hi mx=>
  split at h
  ·cases h
  ·rename_i hm
   have hr:mx=none:=by cases mx with|none=>rfl|some x=>simp at hm
   subst hr
   simp only[Option.bind_eq_some_iff]at h
   obtain⟨sz,hs,h⟩:=h
   obtain⟨v,h1,rfl⟩:=Xc h
   simp only[Op.operands]at ho
   have hall:=List.all_eq_true.1 ho
   refine .of_pure hH (slice_sim hs (hv x (hall x (by simp))) (ovr_of lo fun y hy=>hv y (hall y ?_)) (ovr_of hi fun y hy=>hv y (hall y ?_)) h1 w)
   ·subst hy;simp
   ·subst hy;simp
 case fieldAddr s x i=>
  simp only[Op.operands,List.all_cons,List.all_nil,Bool.and_true]at ho
  simp only[Option.bind_eq_some_iff]at h
  obtain⟨p,hp,h⟩:=h
  obtain⟨v,h1,rfl⟩:=Xc h
  exact .of_pure hH (fieldA_sim hp (hv x ho) h1 w)
 case field s x i=>
  simp only[Op.operands,List.all_cons,List.all_nil,Bool.and_true]at ho
  simp only[Option.bind_eq_some_iff]at h
  obtain⟨p,hp,h⟩:=h
  obtain⟨v,h1,rfl⟩:=Xc h
  exact .of_pure hH (field_sim hp (hv x ho) h1 w)
 case indexAddr ty x i=>
  simp only[Op.operands,List.all_cons,List.all_nil,Bool.and_true,Bool.and_eq_true]at ho
  simp only[Option.bind_eq_some_iff]at h
  obtain⟨te,ht,h⟩:=h
  obtain⟨v,h1,rfl⟩:=Xc h
  exact .of_pure hH (idxA_sim ht (hv x ho.1) (hv i ho.2) h1 w)
 case index ty x i=>
  simp only[Op.operands,List.all_cons,List.all_nil,Bool.and_true,Bool.and_eq_true]at ho
  simp only[Option.bind_eq_some_iff]at h
  obtain⟨ti,ht,h⟩:=h
  split at h
  ·rename_i hd
   obtain⟨v,h1,rfl⟩:=Xc h
   obtain⟨_,_,_,i2,_⟩:=Yy ht
   exact .of_pure hH (idxS_sim (by rw[i2,hd]) (hv x ho.1) (hv i ho.2) h1 w)
  ·cases h
 case lookup ty m k ok=>
  simp only[Op.operands,List.all_cons,List.all_nil,Bool.and_true,Bool.and_eq_true]at ho
  simp only[Option.bind_eq_some_iff]at h
  obtain⟨⟨fs,zs⟩,ht,h⟩:=h
  split at h
  ·rename_i z hz
   simp only at hz
   subst hz
   obtain⟨v,h1,rfl⟩:=Xc h
   exact .of_pure hH (look_sim hH ht (hv m ho.1) (hv k ho.2) h1)
  ·cases h
 case mapUpdate ty m k x=>
  simp only[Op.operands,List.all_cons,List.all_nil,Bool.and_true,Bool.and_eq_true]at ho
  simp only[Option.bind_eq_some_iff]at h
  obtain⟨⟨fs,zs⟩,ht,h⟩:=h
  obtain⟨H',h1,rfl⟩:=vS_some h
  obtain⟨w',h2,h3⟩:=upd_sim (New:=(·=id)) hH ht (hv m ho.1) (hv k ho.2.1) (hv x ho.2.2) h1
  exact .skip (by simp[h2]) h3
 case extract x i=>
  simp only[Op.operands,List.all_cons,List.all_nil,Bool.and_true]at ho
  obtain⟨v,h1,rfl⟩:=Xc h
  exact .of_pure hH (ext_sim (hv x ho) h1 w)
 case call c=>
  simp only[Op.operands]at ho
  have hall:=List.all_eq_true.1 ho
  have hargs:∀ x∈c.args.toList,p x=true:=by
   intro x hx
   refine hall x ?_
   unfold Call.operands
   cases c.callee <;> simp_all
  simp only at h
  cases hc:c.callee with
  | value g=>
   rw[hc]at h
   refine run_call hc (hv g (hall g ?_)) (All2.map fun x hx=>hv x (hargs x hx)) h
   unfold Call.operands
   rw[hc]
   simp
  | invoke a b=>rw[hc]at h;cases h
  | builtin b=>
   rw[hc]at h
   cases b <;> try(cases h;done)
   case len=>
    simp only at h
    split at h
    ·rename_i x ty ha hty
     split at h
     ·rename_i hl
      obtain⟨v,h1,rfl⟩:=Xc h
      obtain⟨v',h2,h3⟩:=len_sim hl (hv x (hargs x (by rw[ha];simp))) h1 o.type w
      refine .val (v':=v') ?_ h3 (Post.refl hH)
      have e1:c.args=#[x]:=Array.toList_inj.1 ha
      have e2:c.argTypes=#[ty]:=Array.toList_inj.1 hty
      simp[resolve,hc,invoke,builtin,e1,e2,h2]
     ·cases h
    ·cases h
   case append=>
    simp only at h
    split at h
    ·rename_i s x ty ty2 ha hty
     simp only[Option.bind_eq_some_iff]at h
     obtain⟨te,ht,h⟩:=h
     split at h
     ·rename_i hc2
      obtain⟨v,H',h1,rfl⟩:=vP_some h
      obtain⟨v',w',G',h2,h3,h4⟩:=app_sim (ty3:=o.type) hH hid ht hc2.1 hc2.2.1 hc2.2.2 (hv s (hargs s (by rw[ha];simp))) (hv x (hargs x (by rw[ha];simp))) h1
      refine .val (v':=v') ?_ h3 h4
      have e1:c.args=#[s,x]:=Array.toList_inj.1 ha
      have e2:c.argTypes=#[ty,ty2]:=Array.toList_inj.1 hty
      simp[resolve,hc,invoke,builtin,e1,e2,h2]
     ·cases h
    ·cases h
   case min=>
    simp only at h
    split at h
    ·rename_i x y ha
     split at h
     ·rename_i k a k' b hx hy
      split at h
      ·rename_i hk
       subst hk
       cases h
       have h1:=hv x (hargs x (by rw[ha];simp))
       have h2:=hv y (hargs y (by rw[ha];simp))
       rw[hx]at h1
       rw[hy]at h2
       have h1:=h1.intS
       have h2:=h2.intS
       refine .val (v':=.int k (if b < a then b else a)) ?_ (.sr (.int _ _)) (Post.refl hH)
       have e1:c.args=#[x,y]:=Array.toList_inj.1 ha
       simp[resolve,hc,invoke,builtin,e1,h1,h2,Builtin.min_,Builtin.min2]
      ·cases h
     ·cases h
    ·cases h
end Go.Proofs.YtcffcnipmgkjfaaGreat.Ax
