/- One operation of the abstract machine, and the model's: maps, and all of them. -/
import Derived.Test.YtdnokdgkccnbnaaAx9
import Derived.MapKept
set_option linter.unusedSimpArgs false
set_option linter.unusedVariables false
namespace Go.Proofs.Ytdnokdgkccnbnaa.Ax
open Go
variable {P : Program}

/-! ### Maps -/
theorem mapT_some {t : TypeId} {fs : List (Nat × TypeDesc)} {z : Value} (h : mapT P t = some (fs, [z])) :
    ∃ k e i, P.underlying t = some (.map k e) ∧ P.info? e = some i ∧ i.zero = some z ∧ gnd1 z = true ∧ eqFields P k = some fs := by
  unfold mapT at h
  simp only [Option.bind_eq_some_iff] at h
  obtain ⟨ti, ht, h⟩ := h
  obtain ⟨_, _, _, i2, _⟩ := tab_some ht
  split at h
  · rename_i k e hd
    simp only [Option.bind_eq_some_iff] at h
    obtain ⟨te, hte, h⟩ := h
    obtain ⟨i, z0, j1, j2, j3, j4, j5, j6, j7⟩ := tab_some hte
    split at h
    · rename_i hc
      simp only [Option.bind_eq_some_iff, Option.some.injEq, Prod.mk.injEq] at h
      obtain ⟨fs', hf, rfl, hz⟩ := h
      obtain ⟨_, _, hg, hfl⟩ := hc
      have hz0 : z0 = z := by
        unfold flatZero at hfl
        rw [j1] at hfl
        simp only [Option.bind_some, j3] at hfl
        rw [j6] at hz
        cases z0 <;> first | (cases hfl; done) | (simp [Value.cells] at hz; exact hz)
      subst hz0
      refine ⟨k, e, i, by rw [i2, hd], j1, j3, ?_, hf⟩
      rw [hz] at hg
      simpa using hg
    · cases h
  · cases h

theorem flatFs_key {t : TypeId} {ti : TI} (ht : tab P t = some ti) (hfl : flatDesc ti.desc = true) (em : Bool) (n : Nat) (v : Value) (w : World) : (Instr.checkKey em (n + 1) t v).run P w = .ok () w := by
  obtain ⟨i, z, _, i2, _⟩ := tab_some ht
  unfold Instr.checkKey
  simp only [Sem.run_bind, run_underlying i2, Result.andThen_ok]
  cases hd : ti.desc <;> rw [hd] at hfl <;> first | (cases hfl; done) | simp

theorem checkFs {G : Gh} {xs xs' : Array Value} (hx : All2 (CR G) xs.toList xs'.toList) (em : Bool) (n : Nat) (w : World) :
    ∀ (l : List Field) (fs : List (Nat × TypeDesc)) (r : Bool), flatFs (tab P) l = some fs → eqFs xs.toList xs.toList fs = some r →
      (forIn l PUnit.unit fun (f : Field) (_ : PUnit) => if f.name ≠ "_" then (do let x ← part f.type xs' f.offset; Instr.checkKey em (n + 1) f.type x; pure (ForInStep.yield PUnit.unit)) else (pure (ForInStep.yield PUnit.unit) : Sem (ForInStep PUnit))).run P w = .ok PUnit.unit w
  | [], fs, r, _, _ => by simp
  | f :: l, fs, r, h1, h2 => by
    unfold flatFs at h1
    split at h1
    · cases h1
    · rename_i hn
      simp only [Option.bind_eq_some_iff] at h1
      obtain ⟨ti, ht, h1⟩ := h1
      split at h1
      · rename_i hfl
        simp only [Option.bind_eq_some_iff, Option.some.injEq] at h1
        obtain ⟨fs', hf, rfl⟩ := h1
        unfold eqFs at h2
        simp only [Option.bind_eq_some_iff, Option.some.injEq] at h2
        obtain ⟨x, hx1, y, hy1, r1, hr1, r2, hr2, rfl⟩ := h2
        simp only [Bool.and_eq_true, Bool.not_eq_true'] at hfl
        obtain ⟨x', a1, a2⟩ := flat_part (P := P) ht hfl.2 hx hx1 w
        have ih := checkFs hx em n w l fs' r2 hf hr2
        have hk := flatFs_key (P := P) ht hfl.1 em n x' w
        rw [List.forIn_cons, if_pos (show f.name ≠ "_" from hn)]
        simp only [Sem.run_bind, a1, hk, Result.andThen_ok, Sem.run_pure]
        exact ih
      · cases h1

theorem checkKey_sim {G : Gh} {k : TypeId} {fs : List (Nat × TypeDesc)} (h : eqFields P k = some fs) {x x' : Value} (hx : VR G x x') {r : Bool} (hr : aggEq fs x x = some r) (em : Bool) (w : World) :
    (Instr.checkKey em 10000 k x').run P w = .ok () w := by
  obtain ⟨l, hu, _, hs, hf⟩ := eqFields_some h
  have hag : ∃ xs, x = .agg xs := by
    cases x <;> first | exact ⟨_, rfl⟩ | cases hr
  obtain ⟨xs, rfl⟩ := hag
  obtain ⟨xs', rfl, hx'⟩ := hx.aggS
  have := checkFs (P := P) hx' em 9998 w l.toList fs r hf hr
  rw [Array.forIn_toList] at this
  have key : ∀ q, q = 9998 + 1 → (Instr.checkKey em (q + 1) k (.agg xs')).run P w = .ok () w := by
    intro q hq
    unfold Instr.checkKey
    simp only [Sem.run_bind, run_underlying hu, Result.andThen_ok]
    subst hq
    rw [this]
    rfl
  exact key 9999 rfl

def Found (G : Gh) (r : Option Value) (r' : Option (Nat × Value)) : Prop :=
  match r with
  | none => r' = none
  | some v => ∃ j v', r' = some (j, v') ∧ PR G v v'
theorem HR.map {G : Gh} {H : Hp} {w : World} (hH : HR G H w) {j : Nat} {es : List (Value × Value)} {g : GI} (hj : H j = some (.map es)) (hg : G j = some g) :
    ∃ es' ck, w.heap[g.blk]? = some (.map es' ck) ∧ All2 (fun p (q : MapEntry) => VR G p.1 q.key ∧ PR G p.2 q.val) es es'.toList := hH.obj j _ g hj hg

theorem findAsking_sim {G : Gh} {kt : TypeId} {fs : List (Nat × TypeDesc)} (h : eqFields P kt = some fs) {k k' : Value} (hk : VR G k k') (w : World) {es : List (Value × Value)} {es' : List MapEntry}
    (he : All2 (fun p (q : MapEntry) => VR G p.1 q.key ∧ PR G p.2 q.val) es es') : ∀ (i : Nat) (r : Option Value), findK fs k es = some r →
    ∃ r', (Instr.findAsking kt k' es' i).run P w = .ok r' w ∧ Found G r r' := by
  induction he with
  | nil => intro i r hr; cases hr; exact ⟨none, by simp [Instr.findAsking], rfl⟩
  | cons hp _ ih =>
    intro i r hr
    unfold findK at hr
    simp only [Option.bind_eq_some_iff] at hr
    obtain ⟨b, hb, hr⟩ := hr
    have heq := aggEq_sim (P := P) h hk hp.1 hb w
    cases b with
    | true =>
      cases hr
      refine ⟨_, ?_, i, _, rfl, hp.2⟩
      simp only [Instr.findAsking, Sem.run_bind, heq, Result.andThen_ok, if_true, Sem.run_pure]
    | false =>
      obtain ⟨r', h1, h2⟩ := ih (i + 1) r (by simpa using hr)
      exact ⟨r', by simp only [Instr.findAsking, Sem.run_bind, heq, Result.andThen_ok, Bool.false_eq_true, if_false]; exact h1, h2⟩

theorem findKey_sim {G : Gh} {kt : TypeId} {fs : List (Nat × TypeDesc)} (h : eqFields P kt = some fs) {k k' : Value} (hk : VR G k k') {b : Bool} (hkk : aggEq fs k k = some b) (w : World) {es : List (Value × Value)} {es' : List MapEntry}
    (he : All2 (fun p (q : MapEntry) => VR G p.1 q.key ∧ PR G p.2 q.val) es es') {r : Option Value} (hr : findK fs k es = some r) :
    ∃ r', (Instr.findKey kt k' es').run P w = .ok r' w ∧ Found G r r' := by
  obtain ⟨l, hu, _, _, _⟩ := eqFields_some h
  obtain ⟨r', h1, h2⟩ := findAsking_sim (P := P) h hk w he 0 r hr
  have hag : ∃ xs, k' = .agg xs := by
    unfold aggEq at hkk
    split at hkk
    · obtain ⟨xs', rfl, _⟩ := hk.aggS; exact ⟨_, rfl⟩
    · cases hkk
  obtain ⟨xs, rfl⟩ := hag
  cases he with
  | nil =>
    cases hr
    exact ⟨none, by simp [Instr.findKey, run_underlying hu, Instr.findNow], rfl⟩
  | cons _ _ =>
    refine ⟨r', ?_, h2⟩
    simp only [Instr.findKey, Sem.run_bind, run_underlying hu, Result.andThen_ok, Instr.findNow, Instr.sameNow]
    exact h1

theorem look_sim {G : Gh} {H : Hp} {w : World} (hH : HR G H w) {t : TypeId} {fs : List (Nat × TypeDesc)} {z : Value} (ht : mapT P t = some (fs, [z])) {ok : Bool} {m k m' k' v : Value} (hm : VR G m m') (hk : VR G k k') (h : lookV fs z ok m k H = some v) :
    ∃ v', (Instr.lookup t m' k' ok).run P w = .ok v' w ∧ VR G v v' := by
  obtain ⟨kt, e, i, hu, hi, hz, hg, hf⟩ := mapT_some ht
  unfold lookV at h
  split at h
  · rename_i j
    split at h
    · rename_i es hj
      simp only [Option.bind_eq_some_iff, Option.some.injEq] at h
      obtain ⟨b, hb, r, hr, rfl⟩ := h
      obtain ⟨g, hgj, rfl⟩ := hm.mapS
      obtain ⟨es', ck, ho, he⟩ := hH.map hj hgj
      obtain ⟨r', h1, h2⟩ := findKey_sim (P := P) hf hk hb w he hr
      have hc := checkKey_sim (P := P) hf hk hb es'.isEmpty w
      have hzv := run_zeroValue (P := P) hi hz w
      have hgz : (getObj g.blk).run P w = .ok (.map es' ck) w := by simp [getObj, Sem.run, ho]
      cases r with
      | none =>
        subst h2
        cases ok with
        | true => exact ⟨.tuple #[z, .bool false], by simp [Instr.lookup, run_underlying hu, hgz, hc, h1, hzv], .tup (.cons (.c (.s (gnd1_sr hg))) (.one (.c (.s (.bool _)))))⟩
        | false => exact ⟨z, by simp [Instr.lookup, run_underlying hu, hgz, hc, h1, hzv], .sr (gnd1_sr hg)⟩
      | some v =>
        obtain ⟨_, v', rfl, hv⟩ := h2
        cases ok with
        | true => exact ⟨.tuple #[v', .bool true], by simp [Instr.lookup, run_underlying hu, hgz, hc, h1], .tup (.cons hv (.one (.c (.s (.bool _)))))⟩
        | false => exact ⟨v', by simp [Instr.lookup, run_underlying hu, hgz, hc, h1], .p hv⟩
    · cases h
  · cases h

theorem VR.pr {G : Gh} {v v' : Value} (h : VR G v v') (hc : isCell v = true) : PR G v v' := by
  cases h with
  | p h => exact h
  | tup h => cases hc

theorem upd_sim {G : Gh} {H H' : Hp} {w : World} (hH : HR G H w) {New : Nat → Prop} {t : TypeId} {fs : List (Nat × TypeDesc)} {z : List Value} (ht : mapT P t = some (fs, z)) {m k v m' k' v' : Value} (hm : VR G m m') (hk : VR G k k') (hv : VR G v v') (h : updV fs m k v H = some H') :
    ∃ w', (Instr.mapUpdate t m' k' v').run P w = .ok () w' ∧ Post New G H w G H' w' := by
  have hz1 : ∃ z0, z = [z0] := by
    unfold mapT at ht
    simp only [Option.bind_eq_some_iff] at ht
    obtain ⟨ti, _, ht⟩ := ht
    split at ht
    · simp only [Option.bind_eq_some_iff] at ht
      obtain ⟨te, _, ht⟩ := ht
      split at ht
      · rename_i hc
        simp only [Option.bind_eq_some_iff, Option.some.injEq, Prod.mk.injEq] at ht
        obtain ⟨_, _, _, rfl⟩ := ht
        exact List.length_eq_one_iff.1 hc.2.1
      · cases ht
    · cases ht
  obtain ⟨z0, rfl⟩ := hz1
  obtain ⟨kt, e, i, hu, hi, hz, hg, hf⟩ := mapT_some ht
  unfold updV at h
  split at h
  · rename_i j
    split at h
    · rename_i es hj
      simp only [Option.bind_eq_some_iff] at h
      obtain ⟨b, hb, r, hr, h⟩ := h
      split at h
      · rename_i hc
        cases h
        obtain ⟨hc1, hc2, hc3⟩ := hc
        obtain ⟨g, hgj, rfl⟩ := hm.mapS
        obtain ⟨es', ck, ho, he⟩ := hH.map hj hgj
        obtain ⟨r', h1, h2⟩ := findKey_sim (P := P) hf hk hb w he hr
        have hck := checkKey_sim (P := P) hf hk hb false w
        have hgz : (getObj g.blk).run P w = .ok (.map es' ck) w := by simp [getObj, Sem.run, ho]
        cases r with
        | some v => cases hc1
        | none =>
          subst h2
          have hso : (setObj g.blk (.map (es'.push { key := k', val := v', born := ck }) (ck + 1))).run P w = .ok () { w with heap := w.heap.setIfInBounds g.blk (.map (es'.push { key := k', val := v', born := ck }) (ck + 1)) } := by simp [setObj, Sem.run, ho]
          refine ⟨{ w with heap := w.heap.setIfInBounds g.blk (.map (es'.push { key := k', val := v', born := ck }) (ck + 1)) }, ?_, ?_⟩
          · simp [Instr.mapUpdate, run_underlying hu, hgz, hck, h1, hso]
          · have hlt : g.blk < w.heap.size := (Array.getElem?_eq_some_iff.1 ho).1
            refine Post.write hH hj rfl hgj rfl (by simp) (fun b hb => by simp [Ne.symm hb]) rfl rfl rfl ⟨es'.push { key := k', val := v', born := ck }, ck + 1, by simp [hlt], ?_⟩
            rw [Array.toList_push]
            exact he.append (.one ⟨hk, hv.pr hc3⟩)
      · cases h
    · cases h
  · cases h

end Go.Proofs.Ytdnokdgkccnbnaa.Ax
