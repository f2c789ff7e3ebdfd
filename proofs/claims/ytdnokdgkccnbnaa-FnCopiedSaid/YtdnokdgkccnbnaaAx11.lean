/- One operation of the abstract machine, and the model's: all of them. -/
import Derived.Test.YtdnokdgkccnbnaaAx10
set_option linter.unusedSimpArgs false
set_option linter.unusedVariables false
namespace Go.Proofs.Ytdnokdgkccnbnaa.Ax
open Go
variable {P : Program}

def opOf (P : Program) (f : Nat) (r : Sem Next) (w : World) (args' : List Value) : Prop :=
  ∀ fn c, P.funcs[f]? = some fn → fn.body = some c → (fn.name == "runtime.NumGoroutine") = false → r.run P w = .ok (.enter f ⟨args'⟩) w

/-- What the model's operation does where the abstract one tells 'r'. -/
inductive Did (P : Program) (id : Nat) (G : Gh) (H : Hp) (w : World) (m : Sem Next) : Res → Prop
  | val {v : Value} {H' : Hp} {v' : Value} {w' : World} {G' : Gh} : m.run P w = .ok (.value v') w' → VR G' v v' → Post (· = id) G H w G' H' w' → Did P id G H w m (.val v H')
  | skip {H' : Hp} {w' : World} : m.run P w = .ok .skip w' → Post (· = id) G H w G H' w' → Did P id G H w m (.skip H')
  | call {f : Nat} {args args' : List Value} : All2 (VR G) args args' → opOf P f m w args' → Did P id G H w m (.call f args)

theorem Did.of_sem {id : Nat} {G : Gh} {H H' : Hp} {w : World} {v : Value} {s : Sem Value} (h : ∃ v' w' G', s.run P w = .ok v' w' ∧ VR G' v v' ∧ Post (· = id) G H w G' H' w') : Did P id G H w (do pure (.value (← s))) (.val v H') := by
  obtain ⟨v', w', G', h1, h2, h3⟩ := h
  exact .val (by simp [h1]) h2 h3
theorem Did.of_pure {id : Nat} {G : Gh} {H : Hp} {w : World} (hH : HR G H w) {v : Value} {s : Sem Value} (h : ∃ v', s.run P w = .ok v' w ∧ VR G v v') : Did P id G H w (do pure (.value (← s))) (.val v H) := by
  obtain ⟨v', h1, h2⟩ := h
  exact .of_sem ⟨v', w, G, h1, h2, Post.refl hH⟩
theorem vH_some {H : Hp} {v : Option Value} {r : Res} (h : vH H v = some r) : ∃ x, v = some x ∧ r = .val x H := by
  unfold vH at h
  simp only [Option.bind_eq_some_iff, Option.some.injEq] at h
  obtain ⟨x, h1, rfl⟩ := h
  exact ⟨x, h1, rfl⟩
theorem vP_some {v : Option (Value × Hp)} {r : Res} (h : vP v = some r) : ∃ x H', v = some (x, H') ∧ r = .val x H' := by
  unfold vP at h
  simp only [Option.bind_eq_some_iff, Option.some.injEq] at h
  obtain ⟨⟨x, H'⟩, h1, rfl⟩ := h
  exact ⟨x, H', h1, rfl⟩
theorem vS_some {v : Option Hp} {r : Res} (h : vS v = some r) : ∃ H', v = some H' ∧ r = .skip H' := by
  unfold vS at h
  simp only [Option.bind_eq_some_iff, Option.some.injEq] at h
  obtain ⟨H', h1, rfl⟩ := h
  exact ⟨H', h1, rfl⟩

theorem VR.fn {G : Gh} {f : Nat} {first cap : Array Value} {x' : Value} (h : VR G (.func (.func f) first cap) x') : first = #[] ∧ ∃ cap', x' = .func (.func f) #[] ⟨cap'⟩ ∧ All2 (SR G) cap.toList cap' := by
  cases h with
  | p h => cases h with
    | c h => cases h with
      | s h => cases h
      | fn f hc => exact ⟨rfl, _, rfl, hc⟩

theorem VR.ptrV {G : Gh} {x x' : Value} (h : VR G x x') (hp : ptrV x = true) : SR G x x' := by
  cases x with
  | pointer a =>
    cases h with
    | p h => cases h with
      | c h => cases h with
        | s h => exact h
  | _ => cases hp

theorem ovr_of {G : Gh} {t : Tm} {ρ : Operand → Value} (o : Option Operand) (h : ∀ x, o = some x → VR G (ev t x) (ρ x)) : OVR G (o.map (ev t)) (o.map ρ) := by
  cases o with
  | none => exact .none
  | some x => exact .some (h x rfl)

theorem run_call {G : Gh} {H : Hp} {w : World} {id : Nat} {t : Tm} {ρ : Operand → Value} {c : Go.Call} {ty : TypeId} {g : Operand} (hc : c.callee = .value g) (hg : VR G (ev t g) (ρ g)) (ha : All2 (VR G) (c.args.toList.map (ev t)) (c.args.toList.map ρ)) {r : Res}
    (h : calleeV (ev t g) (c.args.toList.map (ev t)) = some r) : Did P id G H w (do let d ← resolve ρ c ty; invoke d.target d.args) r := by
  unfold calleeV at h
  split at h
  · rename_i f first cap hf
    cases h
    rw [hf] at hg
    obtain ⟨rfl, cap', hr, hcap⟩ := hg.fn
    refine .call (args' := c.args.toList.map ρ ++ cap') ?_ ?_
    · exact ha.append (hcap.mono fun _ _ h => .sr h)
    · intro fn b h1 h2 h3
      have hres : (resolve ρ c ty).run P w = .ok { target := .fn (.func f) ⟨cap'⟩, args := #[] ++ c.args.map ρ } w := by
        simp [resolve, hc, hr, Deferred.ofValue]
      rw [Sem.run_bind, hres, Result.andThen_ok]
      have hb : fn.body.isNone = false := by rw [h2]; rfl
      simp only [invoke, callFunc, Sem.run_bind, run_program, Result.andThen_ok, h1, h3, hb, Bool.false_eq_true, if_false, Sem.run_pure]
      congr 2
      apply Array.toList_inj.1
      simp
  · cases h

theorem step_sim {G : Gh} {H : Hp} {w : World} (hH : HR G H w) {id : Nat} (hid : G id = none) {o : Oper} {p : Operand → Bool} (ho : o.op.operands.toList.all p = true) {t : Tm} {ρ : Operand → Value} (hv : ∀ x, p x = true → VR G (ev t x) (ρ x)) {r : Res} (h : step1 P t o H id = some r) :
    Did P id G H w (execOp ρ o) r := by
  unfold step1 at h
  dsimp only at h
  unfold execOp
  cases hop : o.op <;> rw [hop] at h ho <;> (try dsimp only at h) <;> try (cases h; done)
  case move x =>
    simp only [Op.operands, List.all_cons, List.all_nil, Bool.and_true] at ho
    cases h
    exact .val rfl (hv x ho) (Post.refl hH)
  case assign x =>
    simp only [Op.operands, List.all_cons, List.all_nil, Bool.and_true] at ho
    cases h
    exact .val rfl (hv x ho) (Post.refl hH)
  case pick c a b =>
    simp only [Op.operands, List.all_cons, List.all_nil, Bool.and_true, Bool.and_eq_true] at ho
    obtain ⟨x, h1, rfl⟩ := vH_some h
    obtain ⟨v', h2, h3⟩ := pick_sim (P := P) (hv c ho.1) (hv a ho.2.1) (hv b ho.2.2) h1 w
    exact .val h2 h3 (Post.refl hH)
  case alloc ty =>
    simp only [Option.bind_eq_some_iff] at h
    obtain ⟨ti, ht, h⟩ := h
    split at h
    · rename_i hz; cases h
      exact .of_sem (alloc_sim hH hid ht hz)
    · cases h
  case box ty x =>
    simp only [Op.operands, List.all_cons, List.all_nil, Bool.and_true] at ho
    simp only [Option.bind_eq_some_iff, Option.some.injEq] at h
    obtain ⟨cs, hc, rfl⟩ := h
    exact .of_sem (box_sim hH hid ty (hv x ho) hc)
  case build ty parts =>
    simp only [Op.operands] at ho
    simp only [Option.bind_eq_some_iff] at h
    obtain ⟨ti, ht, h⟩ := h
    split at h
    · rename_i hc
      simp only [Option.bind_eq_some_iff] at h
      obtain ⟨ps, hp, h⟩ := h
      obtain ⟨x, h1, rfl⟩ := vH_some h
      refine .of_pure hH (build_sim ht hc.1 hc.2 (fun x hx => hv x.2 ?_) hp h1)
      exact List.all_eq_true.1 ho x.2 (List.mem_map.2 ⟨x, hx, rfl⟩)
    · cases h
  case buildSlice ty n parts =>
    simp only [Op.operands] at ho
    simp only [Option.bind_eq_some_iff] at h
    obtain ⟨te, ht, h⟩ := h
    split at h
    · rename_i hc
      obtain ⟨x, H', h1, rfl⟩ := vP_some h
      refine .of_sem (bsl_sim hH hid ht hc (fun x hx => hv x.2 ?_) h1)
      exact List.all_eq_true.1 ho x.2 (List.mem_map.2 ⟨x, hx, rfl⟩)
    · cases h
  case load ty a =>
    simp only [Op.operands, List.all_cons, List.all_nil, Bool.and_true] at ho
    simp only [Option.bind_eq_some_iff] at h
    obtain ⟨ti, ht, h⟩ := h
    obtain ⟨x, h1, rfl⟩ := vH_some h
    obtain ⟨v', h2, h3⟩ := ld_sim hH ht (hv a ho) h1
    exact .of_pure hH ⟨v', h2, .p h3⟩
  case store ty a x =>
    simp only [Op.operands, List.all_cons, List.all_nil, Bool.and_true, Bool.and_eq_true] at ho
    simp only [Option.bind_eq_some_iff] at h
    obtain ⟨ti, ht, h⟩ := h
    obtain ⟨H', h1, rfl⟩ := vS_some h
    obtain ⟨w', h2, h3⟩ := st_sim (New := (· = id)) hH ht (hv a ho.1) (hv x ho.2) h1
    exact .skip (by simp [h2]) h3
  case nilCheck x =>
    simp only [Op.operands, List.all_cons, List.all_nil, Bool.and_true] at ho
    obtain ⟨v, h1, rfl⟩ := vH_some h
    obtain ⟨a, h2, h3⟩ := nilchk_sim (hv x ho) h1
    exact .val (by simp [h2]) h3 (Post.refl hH)
  case binOp op ty x y s =>
    simp only [Op.operands, List.all_cons, List.all_nil, Bool.and_true, Bool.and_eq_true] at ho
    obtain ⟨v, h1, rfl⟩ := vH_some h
    exact .of_pure hH (binK_sim (hv x ho.1) (hv y ho.2) h1 x y w)
  case unOp op ty x =>
    simp only [Op.operands, List.all_cons, List.all_nil, Bool.and_true] at ho
    obtain ⟨v, h1, rfl⟩ := vH_some h
    exact .of_pure hH (un_sim (hv x ho) h1 w)
  case convert s d x =>
    simp only [Op.operands, List.all_cons, List.all_nil, Bool.and_true] at ho
    obtain ⟨v, H', h1, rfl⟩ := vP_some h
    exact .of_sem (conv_sim hH hid (hv x ho) h1)
  case makeFunc fn first captured =>
    simp only [Op.operands] at ho
    split at h
    · rename_i hc
      split at h
      · rename_i g
        cases h
        have he : first = #[] := by
          apply Array.toList_inj.1
          have := hc.1
          rw [List.isEmpty_iff] at this
          simpa using this
        subst he
        refine .val (v' := .func (.func g) #[] ⟨captured.toList.map ρ⟩) ?_ (.p (.c (.fn g ?_))) (Post.refl hH)
        · simp only [Instr.makeFunc, Sem.run_bind, Sem.run_pure, Result.andThen_ok]
          congr 2
          congr 1 <;> (apply Array.toList_inj.1; simp)
        · refine All2.map fun x hx => ?_
          refine (hv x ?_).ptrV (List.all_eq_true.1 hc.2 _ (List.mem_map_of_mem hx))
          exact List.all_eq_true.1 ho x (by simpa using hx)
      · cases h
    · cases h
  case makeMap ty rs =>
    split at h
    · cases h
    · rename_i hc
      simp only [Option.bind_eq_some_iff, Option.some.injEq] at h
      obtain ⟨p, hp, rfl⟩ := h
      have hr : rs = none := by cases rs with | none => rfl | some x => simp at hc
      subst hr
      refine .of_sem ⟨.map (some w.heap.size), { w with heap := w.heap.push (.map #[] 0) }, G.set id ⟨w.heap.size, 0, 0, 0, true⟩, by simp [Instr.makeMap], .sr (.map (i := id) (Gh.set_same _ _ _)), ?_⟩
      exact Post.alloc hH hid (.map #[] 0) (.map []) ⟨w.heap.size, 0, 0, 0, true⟩ rfl rfl rfl rfl rfl rfl ⟨#[], 0, rfl, .nil⟩
  case makeSlice ty l c =>
    simp only [Op.operands, List.all_cons, List.all_nil, Bool.and_true, Bool.and_eq_true] at ho
    simp only [Option.bind_eq_some_iff] at h
    obtain ⟨te, ht, h⟩ := h
    split at h
    · rename_i hc
      obtain ⟨x, H', h1, rfl⟩ := vP_some h
      exact .of_sem (mks_sim hH hid ht hc (hv l ho.1) (hv c ho.2) h1)
    · cases h
  case slice ty x lo hi mx =>
    split at h
    · cases h
    · rename_i hm
      have hr : mx = none := by cases mx with | none => rfl | some x => simp at hm
      subst hr
      simp only [Option.bind_eq_some_iff] at h
      obtain ⟨sz, hs, h⟩ := h
      obtain ⟨v, h1, rfl⟩ := vH_some h
      simp only [Op.operands] at ho
      have hall := List.all_eq_true.1 ho
      refine .of_pure hH (slice_sim hs (hv x (hall x (by simp))) (ovr_of lo fun y hy => hv y (hall y ?_)) (ovr_of hi fun y hy => hv y (hall y ?_)) h1 w)
      · subst hy; simp
      · subst hy; simp
  case fieldAddr s x i =>
    simp only [Op.operands, List.all_cons, List.all_nil, Bool.and_true] at ho
    simp only [Option.bind_eq_some_iff] at h
    obtain ⟨p, hp, h⟩ := h
    obtain ⟨v, h1, rfl⟩ := vH_some h
    exact .of_pure hH (fieldA_sim hp (hv x ho) h1 w)
  case field s x i =>
    simp only [Op.operands, List.all_cons, List.all_nil, Bool.and_true] at ho
    simp only [Option.bind_eq_some_iff] at h
    obtain ⟨p, hp, h⟩ := h
    obtain ⟨v, h1, rfl⟩ := vH_some h
    exact .of_pure hH (field_sim hp (hv x ho) h1 w)
  case indexAddr ty x i =>
    simp only [Op.operands, List.all_cons, List.all_nil, Bool.and_true, Bool.and_eq_true] at ho
    simp only [Option.bind_eq_some_iff] at h
    obtain ⟨te, ht, h⟩ := h
    obtain ⟨v, h1, rfl⟩ := vH_some h
    exact .of_pure hH (idxA_sim ht (hv x ho.1) (hv i ho.2) h1 w)
  case index ty x i =>
    simp only [Op.operands, List.all_cons, List.all_nil, Bool.and_true, Bool.and_eq_true] at ho
    simp only [Option.bind_eq_some_iff] at h
    obtain ⟨ti, ht, h⟩ := h
    split at h
    · rename_i hd
      obtain ⟨v, h1, rfl⟩ := vH_some h
      obtain ⟨_, _, _, i2, _⟩ := tab_some ht
      exact .of_pure hH (idxS_sim (by rw [i2, hd]) (hv x ho.1) (hv i ho.2) h1 w)
    · cases h
  case lookup ty m k ok =>
    simp only [Op.operands, List.all_cons, List.all_nil, Bool.and_true, Bool.and_eq_true] at ho
    simp only [Option.bind_eq_some_iff] at h
    obtain ⟨⟨fs, zs⟩, ht, h⟩ := h
    split at h
    · rename_i z hz
      simp only at hz
      subst hz
      obtain ⟨v, h1, rfl⟩ := vH_some h
      exact .of_pure hH (look_sim hH ht (hv m ho.1) (hv k ho.2) h1)
    · cases h
  case mapUpdate ty m k x =>
    simp only [Op.operands, List.all_cons, List.all_nil, Bool.and_true, Bool.and_eq_true] at ho
    simp only [Option.bind_eq_some_iff] at h
    obtain ⟨⟨fs, zs⟩, ht, h⟩ := h
    obtain ⟨H', h1, rfl⟩ := vS_some h
    obtain ⟨w', h2, h3⟩ := upd_sim (New := (· = id)) hH ht (hv m ho.1) (hv k ho.2.1) (hv x ho.2.2) h1
    exact .skip (by simp [h2]) h3
  case extract x i =>
    simp only [Op.operands, List.all_cons, List.all_nil, Bool.and_true] at ho
    obtain ⟨v, h1, rfl⟩ := vH_some h
    exact .of_pure hH (ext_sim (hv x ho) h1 w)
  case call c =>
    simp only [Op.operands] at ho
    have hall := List.all_eq_true.1 ho
    have hargs : ∀ x ∈ c.args.toList, p x = true := by
      intro x hx
      refine hall x ?_
      unfold Call.operands
      cases c.callee <;> simp_all
    simp only at h
    cases hc : c.callee with
    | value g =>
      rw [hc] at h
      refine run_call hc (hv g (hall g ?_)) (All2.map fun x hx => hv x (hargs x hx)) h
      unfold Call.operands
      rw [hc]
      simp
    | invoke a b => rw [hc] at h; cases h
    | builtin b =>
      rw [hc] at h
      cases b <;> try (cases h; done)
      case len =>
        simp only at h
        split at h
        · rename_i x ty ha hty
          split at h
          · rename_i hl
            obtain ⟨v, h1, rfl⟩ := vH_some h
            obtain ⟨v', h2, h3⟩ := len_sim hl (hv x (hargs x (by rw [ha]; simp))) h1 o.type w
            refine .val (v' := v') ?_ h3 (Post.refl hH)
            have e1 : c.args = #[x] := Array.toList_inj.1 ha
            have e2 : c.argTypes = #[ty] := Array.toList_inj.1 hty
            simp [resolve, hc, invoke, builtin, e1, e2, h2]
          · cases h
        · cases h
      case append =>
        simp only at h
        split at h
        · rename_i s x ty ty2 ha hty
          simp only [Option.bind_eq_some_iff] at h
          obtain ⟨te, ht, h⟩ := h
          split at h
          · rename_i hc2
            obtain ⟨v, H', h1, rfl⟩ := vP_some h
            obtain ⟨v', w', G', h2, h3, h4⟩ := app_sim (ty3 := o.type) hH hid ht hc2.1 hc2.2.1 hc2.2.2 (hv s (hargs s (by rw [ha]; simp))) (hv x (hargs x (by rw [ha]; simp))) h1
            refine .val (v' := v') ?_ h3 h4
            have e1 : c.args = #[s, x] := Array.toList_inj.1 ha
            have e2 : c.argTypes = #[ty, ty2] := Array.toList_inj.1 hty
            simp [resolve, hc, invoke, builtin, e1, e2, h2]
          · cases h
        · cases h
      case min =>
        simp only at h
        split at h
        · rename_i x y ha
          split at h
          · rename_i k a k' b hx hy
            split at h
            · rename_i hk
              subst hk
              cases h
              have h1 := hv x (hargs x (by rw [ha]; simp))
              have h2 := hv y (hargs y (by rw [ha]; simp))
              rw [hx] at h1
              rw [hy] at h2
              have h1 := h1.intS
              have h2 := h2.intS
              refine .val (v' := .int k (if b < a then b else a)) ?_ (.sr (.int _ _)) (Post.refl hH)
              have e1 : c.args = #[x, y] := Array.toList_inj.1 ha
              simp [resolve, hc, invoke, builtin, e1, h1, h2, Builtin.min_, Builtin.min2]
            · cases h
          · cases h
        · cases h

end Go.Proofs.Ytdnokdgkccnbnaa.Ax
