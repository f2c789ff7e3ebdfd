/- What the law needs: laws of the abstract machine, and contracts of functions. -/
import Derived.Test.YtcffcnipmgkjfaaGreatM2
import Derived.Test.YtcffcnipmgkjfaaGreatM10
set_option linter.unusedVariables false
set_option linter.unusedSimpArgs false
set_option maxHeartbeats 8000000
namespace Go.Proofs.YtcffcnipmgkjfaaGreat.Ax
open Go
theorem Goes.how0 {f:CS->CS}(hf:Goes f){s:CS}(h:(f s).how=0):s.how=0:=by
 by_cases hs:s.how=0
 ·exact hs
 ·rw[(hf s).1 hs]at h;exact absurd h hs
theorem Li.c1 {α:Type}{E:Enc α}{n:Nat}{H:Hp}{v:Value}{l:List α}(h:Li E n H v l):cell1 v=true:=by
 rcases h.nilOr with⟨rfl,_⟩|⟨a,m,c,rfl⟩ <;> rfl
theorem EV.snoc {c il n:Nat}{H:Hp}{u wn:Value}{ws:List Value}{e:List (List ByteArray)}{names:List ByteArray}{id:Nat}(ha:At eVl id H u (ws++[wn])) (hid:id < n)(hc:id≠c)(hi:id≠il)(hl:ws.length=e.length)(hws:∀ (i:Nat)(h1:i < ws.length)(h2:i < e.length),LO eStr c il n H ws[i] e[i]/\cell1 ws[i]=true) (hwn:LO eStr c il n H wn names):EV c il n H u (e++[names]):=by
 refine⟨ws++[wn],ha.lo hid hc hi,by simp[hl],fun i h1 h2=>?_⟩
 by_cases hlt:i < ws.length
 ·rw[List.getElem_append_left hlt,List.getElem_append_left Om]
  exact hws i hlt Om
 ·have:i=ws.length:=by simp at h1;omega
  subst this
  rw[List.getElem_append_right Om,List.getElem_append_right Om]
  simp
  exact⟨hwn,hwn.li.c1⟩
theorem cPut_len {x:Ins}{s:CS}(h:(Yu x s).how=0):(Yu x s).L.length=s.L.length+1:=by
 unfold Yu at h ⊢
 split
 ·rename_i h0
  rw[if_pos h0]at h
  split
  ·rename_i h4;rw[if_pos h4]at h;simp at h
  ·simp
 ·rename_i h0;rw[if_neg h0]at h;exact absurd h h0
end Go.Proofs.YtcffcnipmgkjfaaGreat.Ax
