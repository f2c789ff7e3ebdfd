/- What the law needs: laws of the abstract machine, and contracts of functions. -/
import Derived.Test.YtcffcnipmgkjfaaGreatM2
import Derived.Test.YtcffcnipmgkjfaaGreatM11
set_option linter.unusedVariables false
set_option linter.unusedSimpArgs false
set_option maxHeartbeats 8000000
namespace Go.Proofs.YtcffcnipmgkjfaaGreat.Ax
open Go
theorem LO.tail {α:Type}{E:Enc α}{c il n:Nat}{H:Hp}{w:Value}{l:List α}(h:LO E c il n H w l)(hz:0 < E.sz)(a:Nat)(ha:a<=l.length):∃ w',Yt E.sz w (some (.int .i64 (a:Int))) none=some w'/\LO E c il n H w' (l.drop a):=by
 obtain⟨w',h1,h2⟩:=h.slice hz (some (.int .i64 (a:Int))) none a l.length (by simp[bnd]) (fun d hd=>by simp[bnd,hd]) ha (Nat.le_refl _)
 rw[List.take_of_length_le (by rw[List.length_drop];omega)]at h2
 exact⟨w',h1,h2⟩
theorem LO.one1 {c il n:Nat}{H:Hp}{w:Value}{l:List Int}(h:LO eInt c il n H w l)(ha:2<=l.length):∃ w',Yt 1 w (some (.int .i64 1)) (some (.int .i64 2))=some w'/\LO eInt c il n H w' [gi l 1]:=by
 obtain⟨w',h1,h2⟩:=h.slice (by decide) (some (.int .i64 1)) (some (.int .i64 2)) 1 2 rfl (fun d hd=>rfl) Om ha
 have:(l.drop 1).take (2 - 1)=[gi l 1]:=by
  rw[show(1:Int)=((1:Nat):Int)from rfl,Yq Om]
  rw[List.drop_eq_getElem_cons (by omega:1 < l.length)]
  rfl
 rw[this]at h2
 exact⟨w',h1,h2⟩
theorem chain_mem {l:List Nd}(hp:PoolOk l):∀ (f:Nat)(v:Int),0<=v->v < l.length->∀ y∈(chain l f v).1,0<=y/\y < v
 | 0,v,_,_,y,hy=>by simp[chain]at hy
 | f+1,v,h0,h1,y,hy=>by
  unfold chain at hy
  by_cases h5:(gi l v).k=5
  ·rw[if_pos h5]at hy
   have hk:=(hp.at h0 h1).pair h5
   rcases List.mem_cons.1 hy with rfl|h
   ·exact hk.1
   ·have:=chain_mem hp f (gi l v).b hk.2.1 Om y h
    omega
  ·rw[if_neg h5]at hy;simp at hy
theorem chainOf_mem {l:List Nd}(hp:PoolOk l){v:Int}(h0:0<=v)(h1:v < l.length):∀ y∈(Zi l v).1,0<=y/\y < v:=chain_mem hp _ v h0 h1
theorem chainOf_pos {l:List Nd}(hp:PoolOk l){v:Int}(h0:0<=v)(h1:v < l.length)(h5:(gi l v).k=5):0 < (Zi l v).1.length:=by
 rw[chainOf_eq hp h0 h1,if_pos h5];simp
theorem New.lo {α:Type}{E:Enc α}{lo n c il:Nat}{H:Hp}{w:Value}{l:List α}(h:New E lo n H w l)(hc:c < lo)(hi:il < lo):LO E c il n H w l:=by
 obtain⟨id,h1,h2,h3⟩:=h
 exact h3.lo h2 Om Om
end Go.Proofs.YtcffcnipmgkjfaaGreat.Ax
