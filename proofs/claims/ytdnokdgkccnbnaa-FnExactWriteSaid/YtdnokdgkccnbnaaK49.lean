/- Contracts: values written as texts, by the program. -/
import Derived.Test.YtdnokdgkccnbnaaK48
import Derived.Test.YtdnokdgkccnbnaaK15
import Derived.Test.YtdnokdgkccnbnaaK2
set_option linter.unusedVariables false
set_option linter.unusedSimpArgs false
set_option maxHeartbeats 4000000
namespace Go.Proofs.Ytdnokdgkccnbnaa.Ax
open Go
/-- What is being written: object 'c' has the pool and the text. -/
structure WC (c id n : Nat) (H : Hp) (v u : Value) (o : List Int) : Prop where
  hc : H c = some (.row [v, u] 0 true)
  at_ : At eByte id H u o
  cn : c < n
  idn : id < n
  ne : id ≠ c
theorem WC.mv {c id n m : Nat} {H H' : Hp} {v u : Value} {o : List Int} (h : WC c id n H v u o) (hm : n ≤ m) (h1 : H' c = H c) (h2 : H' id = H id) : WC c id m H' v u o :=
  ⟨by rw [h1]; exact h.hc, h.at_.mv h2, by have := h.cn; omega, by have := h.idn; omega, h.ne⟩
theorem k30 {c id n : Nat} {H : Hp} {v u : Value} {o : List Int} (h : WC c id n H v u o) (m : Nat) : Call Try.prog 30 [ptr c 0] H m = some (.bool (decide ((400 : Int) < (o.length : Int))), H, m + 8) := by
  rw [c30]; unfold S30
  simp (disch := omega) only [↓reduceIte, ask_true, ↓X0, X1, Nat.reduceEqDiff, Int.reduceEq, Nat.reduceAdd, Nat.reduceSub, X2, Hp_ne, Nat.reduceLeDiff, h.hc, (h.at_.lst h.idn).len]
theorem k55 {c id n : Nat} {H : Hp} {v u : Value} {o : List Int} (h : WC c id n H v u o) (s : ByteArray) (hs : s.size ≤ 1000000) (ho : o.length ≤ 1000000) : RtA Try.prog 55 [ptr c 0, .string s] c id H n (fun r H' n' => r = .tuple ⟨[]⟩ ∧ ∃ u' id', n ≤ id' ∧ WC c id' n' H' v u' (o ++ numsOf s)) := by
  apply RtA.of
  rw [c55]; unfold S55
  obtain ⟨hc, hat, hcn, hid, hne⟩ := h
  obtain ⟨u', H', e1, e2, e3⟩ := app_at (E := eByte) (id2 := n + 6) (bytes := 1) (m := numsOf s) hat (by rw [← bytesV_flat]; exact src_str s H) (by decide) (by rw [numsOf_length]; omega)
  have hc' : H' c = some (.row [v, u] 0 true) := by rw [e3 c (Ne.symm hne) (by omega)]; exact hc
  have hst := st_cset (o := 1) (v := u') hc' (by simp) e2.cell
  have e1' : app (n + 6) 1 1 u (.string s) H = some (u', H') := e1
  (((repeat (first | (with_reducible apply Wp.step; case h => ((try simp (disch := omega) only [↓reduceIte, ask_true, ↓X0, X1, Nat.reduceEqDiff, Int.reduceEq, Nat.reduceAdd, Nat.reduceSub, X2, Hp_ne, Nat.reduceLeDiff, hc, e1', hst]); with_reducible exact rfl)) | (apply Wp.andS) | (apply Wp.orS) | ((with_reducible first | apply Wp.gs | apply Wp.cs | apply Wp.cselX | apply Wp.askT | apply Wp.iteKT | apply Wp.ikb | apply Wp.askb); case h => ((try simp (disch := omega) only [↓reduceIte, ask_true, ↓X0, X1, Nat.reduceEqDiff, Int.reduceEq, Nat.reduceAdd, Nat.reduceSub, X2, Hp_ne, Nat.reduceLeDiff, hc, e1', hst]); (with_reducible first | done | exact bT | exact bF))) | (with_reducible apply Wp.gu) | (simp only [↓X3]) | (with_reducible apply Wp.assoc))); try simp only [outOf_exit, outOf_ret]); try (with_reducible apply Wp.cargs; case h => ((try simp (disch := omega) only [↓reduceIte, ask_true, ↓X0, X1, Nat.reduceEqDiff, Int.reduceEq, Nat.reduceAdd, Nat.reduceSub, X2, Hp_ne, Nat.reduceLeDiff, hc, e1', hst]); with_reducible exact rfl)))
  exact Wp.pure ⟨by simp only; omega, (by intros; first | with_reducible rfl | simp (disch := omega) only [Hp_ne, Hp_same, e3]), rfl, u', n + 6, by omega, Hp_same _ _ _, e2.mv (by intros; first | with_reducible rfl | simp (disch := omega) only [Hp_ne, Hp_same]), by simp only; omega, by simp only; omega, by omega⟩
/-- What the value numbered 'x' is written as. -/
def WV (l : List Nd) (v : Value) (lo : Nat) (f : Nat) (t : List Int) (e b : Nat) (x : Int) : Prop := ∀ (c id n : Nat) (H : Hp) (u : Value) (o : List Int), WC c id n H v u o → lo ≤ c → lo ≤ id → Li eNode lo H v l → o.length + 8 * x.toNat ≤ 200000 →
  RtA Try.prog f [ptr c 0, .int .i64 x] c id H n (fun r H' n' => r = .tuple ⟨[]⟩ ∧ ∃ u' id' o', (id' = id ∨ n ≤ id') ∧ WC c id' n' H' v u' o' ∧ Cut o t o' ∧ o.length ≤ o'.length ∧ (o'.length ≤ o.length + e ∨ o'.length ≤ b))
theorem k56 {l : List Nd} {v : Value} {lo : Nat} (hp : PoolOk l) {x : Int} (h0 : 0 ≤ x) (h1 : x < (l.length : Int)) (hk : (gi l x).k = 5 ∨ (gi l x).k = 1) (ih : ∀ y : Int, 0 ≤ y → y < x → WV l v lo 29 (txT l y) 0 (wBnd y) y) : WV l v lo 56 (inT l x) 3 (wBnd x - 5) x := by
  intro c id n H u o hW hlc hli hv ho
  apply RtA.of
  rw [c56]; unfold S56
  have hpl := hp.2
  have hwx : wBnd x ≤ 40000 := by unfold wBnd; omega
  have hcn := hW.cn
  have hidn := hW.idn
  (((repeat (first | (with_reducible apply Wp.step; case h => ((try simp (disch := omega) only [↓reduceIte, ask_true, ↓X0, X1, Nat.reduceEqDiff, Int.reduceEq, Nat.reduceAdd, Nat.reduceSub]); with_reducible exact rfl)) | (apply Wp.andS) | (apply Wp.orS) | ((with_reducible first | apply Wp.gs | apply Wp.cs | apply Wp.cselX | apply Wp.askT | apply Wp.iteKT | apply Wp.ikb | apply Wp.askb); case h => ((try simp (disch := omega) only [↓reduceIte, ask_true, ↓X0, X1, Nat.reduceEqDiff, Int.reduceEq, Nat.reduceAdd, Nat.reduceSub]); (with_reducible first | done | exact bT | exact bF))) | (with_reducible apply Wp.gu) | (simp only [↓X3]) | (with_reducible apply Wp.assoc))); try simp only [outOf_exit, outOf_ret]); try (with_reducible apply Wp.cargs; case h => ((try simp (disch := omega) only [↓reduceIte, ask_true, ↓X0, X1, Nat.reduceEqDiff, Int.reduceEq, Nat.reduceAdd, Nat.reduceSub]); with_reducible exact rfl)))
  refine Wp.bind (Loop_rule (fun d T H' n' => ∃ (cur : Int) (first : Bool) (u' : Value) (id' : Nat) (o' done : List Int), cur.toNat = d ∧ n ≤ n' ∧ (∀ i, i < n → i ≠ c → i ≠ id → H' i = H i) ∧ T 0 = ptr c 0 ∧ T 1 = .int .i64 cur ∧ T 4 = .bool first ∧ 0 ≤ cur ∧ cur ≤ x ∧ (first = false → cur < x) ∧ (first = true → cur = x) ∧ (id' = id ∨ n ≤ id') ∧ WC c id' n' H' v u' o' ∧ inT l x = done ++ (if first = true then inT l cur else tlT (gi l cur) (inT l cur)) ∧ Cut o done o' ∧ o.length ≤ o'.length ∧ (o'.length ≤ o.length ∨ o'.length ≤ wBnd x - 8))
    (fun ou => n ≤ ou.n ∧ (∀ i, i < n → i ≠ c → i ≠ id → ou.H i = H i) ∧ ou.e = .exit 0 ∧ ou.t 0 = ptr c 0 ∧ ∃ (cur : Int) (first : Bool) (u' : Value) (id' : Nat) (o' done : List Int), ou.t 1 = .int .i64 cur ∧ 0 ≤ cur ∧ cur ≤ x ∧ (first = false → cur < x) ∧ (first = true → cur = x) ∧ (id' = id ∨ n ≤ id') ∧ WC c id' ou.n ou.H v u' o' ∧ inT l x = done ++ (if first = true then inT l cur else tlT (gi l cur) (inT l cur)) ∧ Cut o done o' ∧ o.length ≤ o'.length ∧ (o'.length ≤ o.length ∨ o'.length ≤ wBnd x - 8) ∧ ((gi l cur).k = 5 → 400 < o'.length)) ?_ x.toNat _ _ _ ⟨x, true, u, id, o, [], rfl, by omega, (by intros; first | with_reducible rfl | simp (disch := omega) only [Hp_ne, Hp_same]), by simp [put_at, argsT_at], by simp [put_at, argsT_at], by simp [put_at], h0, by omega, by simp, by simp, .inl rfl, hW.mv (by omega) rfl rfl, by simp, Cut.refl _, by omega, .inl (by omega)⟩) ?_
  · rintro d T H' n' ⟨cur, first, u', id', o', done, hd, hn, s1, e0, e1, e4, c0, c1, c2, c3, hi', hW', heq, hcut, ho1, ho2⟩
    unfold S56L0
    have hv' : Li eNode lo H' v l := hv.mv (Nat.le_refl _) (fun i hi => s1 i (by omega) (by omega) (by omega))
    have g := hv'.nAll (i := cur) c0 (by omega)
    have hc := hW'.hc
    have hcn' := hW'.cn
    have hid' := hW'.idn
    by_cases c5 : (gi l cur).k = 5
    · have hkk := (hp.at c0 (by omega)).pair c5
      by_cases hfull : (400 : Int) < (o'.length : Int)
      · (((repeat (first | (with_reducible apply Wp.step; case h => ((try simp (disch := omega) only [↓reduceIte, ask_true, ↓X0, X1, Nat.reduceEqDiff, Int.reduceEq, Nat.reduceAdd, Nat.reduceSub, X2, Hp_ne, Nat.reduceLeDiff, e0, e1, hc, g, c5, k30 hW', hfull]); with_reducible exact rfl)) | (apply Wp.andS) | (apply Wp.orS) | ((with_reducible first | apply Wp.gs | apply Wp.cs | apply Wp.cselX | apply Wp.askT | apply Wp.iteKT | apply Wp.ikb | apply Wp.askb); case h => ((try simp (disch := omega) only [↓reduceIte, ask_true, ↓X0, X1, Nat.reduceEqDiff, Int.reduceEq, Nat.reduceAdd, Nat.reduceSub, X2, Hp_ne, Nat.reduceLeDiff, e0, e1, hc, g, c5, k30 hW', hfull]); (with_reducible first | done | exact bT | exact bF))) | (with_reducible apply Wp.gu) | (simp only [↓X3]) | (with_reducible apply Wp.assoc))); try simp only [outOf_exit, outOf_ret]); try (with_reducible apply Wp.cargs; case h => ((try simp (disch := omega) only [↓reduceIte, ask_true, ↓X0, X1, Nat.reduceEqDiff, Int.reduceEq, Nat.reduceAdd, Nat.reduceSub, X2, Hp_ne, Nat.reduceLeDiff, e0, e1, hc, g, c5, k30 hW', hfull]); with_reducible exact rfl)))
        exact Wp.pure (Nxt.exit ⟨by simp only; omega, s1, rfl, by simp [put_at, e0], cur, first, u', id', o', done, by simp [put_at, e1], c0, c1, c2, c3, hi', hW'.mv (by simp only; omega) rfl rfl, heq, hcut, ho1, ho2, fun _ => by omega⟩)
      · have hin := inT_pair hp c0 (by omega) c5
        have next : ∀ (sp : List Int) (TT : Tm) (H2 : Hp) (n2 : Nat) (u2 : Value) (id2 : Nat) (o2 : List Int), inT l x = (done ++ sp) ++ inT l cur → n' ≤ n2 → (∀ i, i < n → i ≠ c → i ≠ id → H2 i = H i) → TT 0 = ptr c 0 → TT 1 = .int .i64 (gi l cur).b → TT 4 = .bool false → (id2 = id ∨ n ≤ id2) → WC c id2 n2 H2 v u2 o2 → Cut o ((done ++ sp) ++ txT l (gi l cur).a) o2 → o.length ≤ o2.length → (o2.length ≤ o.length ∨ o2.length ≤ wBnd x - 8) → Wp (some ⟨.normal, TT, H2, n2⟩) (Nxt (fun d T H' n' => ∃ (cur : Int) (first : Bool) (u' : Value) (id' : Nat) (o' done : List Int), cur.toNat = d ∧ n ≤ n' ∧ (∀ i, i < n → i ≠ c → i ≠ id → H' i = H i) ∧ T 0 = ptr c 0 ∧ T 1 = .int .i64 cur ∧ T 4 = .bool first ∧ 0 ≤ cur ∧ cur ≤ x ∧ (first = false → cur < x) ∧ (first = true → cur = x) ∧ (id' = id ∨ n ≤ id') ∧ WC c id' n' H' v u' o' ∧ inT l x = done ++ (if first = true then inT l cur else tlT (gi l cur) (inT l cur)) ∧ Cut o done o' ∧ o.length ≤ o'.length ∧ (o'.length ≤ o.length ∨ o'.length ≤ wBnd x - 8)) d (fun ou => n ≤ ou.n ∧ (∀ i, i < n → i ≠ c → i ≠ id → ou.H i = H i) ∧ ou.e = .exit 0 ∧ ou.t 0 = ptr c 0 ∧ ∃ (cur : Int) (first : Bool) (u' : Value) (id' : Nat) (o' done : List Int), ou.t 1 = .int .i64 cur ∧ 0 ≤ cur ∧ cur ≤ x ∧ (first = false → cur < x) ∧ (first = true → cur = x) ∧ (id' = id ∨ n ≤ id') ∧ WC c id' ou.n ou.H v u' o' ∧ inT l x = done ++ (if first = true then inT l cur else tlT (gi l cur) (inT l cur)) ∧ Cut o done o' ∧ o.length ≤ o'.length ∧ (o'.length ≤ o.length ∨ o'.length ≤ wBnd x - 8) ∧ ((gi l cur).k = 5 → 400 < o'.length))) := by
          intro sp TT H2 n2 u2 id2 o2 z1 z2 z3 z4 z5 z6 z7 z8 z9 z10 z11
          refine Wp.pure (Nxt.go (gi l cur).b.toNat (by omega) ⟨(gi l cur).b, false, u2, id2, o2, (done ++ sp) ++ txT l (gi l cur).a, rfl, by omega, z3, z4, z5, z6, hkk.2.1, by omega, fun _ => by omega, fun h => (by cases h), z7, z8, ?_, z9, z10, z11⟩)
          rw [z1, hin]; simp
        have ihw := ih (gi l cur).a hkk.1.1 (by omega)
        have hb1 : wBnd (gi l cur).a ≤ wBnd x - 8 := by unfold wBnd; omega
        have hb2 : 440 ≤ wBnd x - 8 := by unfold wBnd; have := hkk.1; omega
        cases first with
        | true =>
          have hcx := c3 rfl
          (((repeat (first | (with_reducible apply Wp.step; case h => ((try simp (disch := omega) only [↓reduceIte, ask_true, ↓X0, X1, Nat.reduceEqDiff, Int.reduceEq, Nat.reduceAdd, Nat.reduceSub, X2, Hp_ne, Nat.reduceLeDiff, e0, e1, e4, hc, g, c5, k30 hW', hfull]); with_reducible exact rfl)) | (apply Wp.andS) | (apply Wp.orS) | ((with_reducible first | apply Wp.gs | apply Wp.cs | apply Wp.cselX | apply Wp.askT | apply Wp.iteKT | apply Wp.ikb | apply Wp.askb); case h => ((try simp (disch := omega) only [↓reduceIte, ask_true, ↓X0, X1, Nat.reduceEqDiff, Int.reduceEq, Nat.reduceAdd, Nat.reduceSub, X2, Hp_ne, Nat.reduceLeDiff, e0, e1, e4, hc, g, c5, k30 hW', hfull]); (with_reducible first | done | exact bT | exact bF))) | (with_reducible apply Wp.gu) | (simp only [↓X3]) | (with_reducible apply Wp.assoc))); try simp only [outOf_exit, outOf_ret]); try (with_reducible apply Wp.cargs; case h => ((try simp (disch := omega) only [↓reduceIte, ask_true, ↓X0, X1, Nat.reduceEqDiff, Int.reduceEq, Nat.reduceAdd, Nat.reduceSub, X2, Hp_ne, Nat.reduceLeDiff, e0, e1, e4, hc, g, c5, k30 hW', hfull]); with_reducible exact rfl)))
          refine Wp.rta (ihw c id' _ _ u' o' (hW'.mv (by omega) rfl rfl) hlc (by omega) hv' (by omega)) ?_
          rintro _ H2 n2 q2 s2 ⟨rfl, u2, id2, o2, i1, i2, i3, i4, i5⟩
          have g2 := (hv'.mv (H' := H2) (Nat.le_refl _) (fun i hi => s2 i (by omega) (by omega) (by omega))).nAll (i := cur) c0 (by omega)
          have hc2 := i2.hc
          (((repeat (first | (with_reducible apply Wp.step; case h => ((try simp (disch := omega) only [↓reduceIte, ask_true, ↓X0, X1, Nat.reduceEqDiff, Int.reduceEq, Nat.reduceAdd, Nat.reduceSub, X2, Hp_ne, Nat.reduceLeDiff, e0, e1, hc2, g2]); with_reducible exact rfl)) | (apply Wp.andS) | (apply Wp.orS) | ((with_reducible first | apply Wp.gs | apply Wp.cs | apply Wp.cselX | apply Wp.askT | apply Wp.iteKT | apply Wp.ikb | apply Wp.askb); case h => ((try simp (disch := omega) only [↓reduceIte, ask_true, ↓X0, X1, Nat.reduceEqDiff, Int.reduceEq, Nat.reduceAdd, Nat.reduceSub, X2, Hp_ne, Nat.reduceLeDiff, e0, e1, hc2, g2]); (with_reducible first | done | exact bT | exact bF))) | (with_reducible apply Wp.gu) | (simp only [↓X3]) | (with_reducible apply Wp.assoc))); try simp only [outOf_exit, outOf_ret]); try (with_reducible apply Wp.cargs; case h => ((try simp (disch := omega) only [↓reduceIte, ask_true, ↓X0, X1, Nat.reduceEqDiff, Int.reduceEq, Nat.reduceAdd, Nat.reduceSub, X2, Hp_ne, Nat.reduceLeDiff, e0, e1, hc2, g2]); with_reducible exact rfl)))
          refine next [] _ _ _ u2 id2 o2 ?_ ?_ ?_ ?_ ?_ ?_ ?_ (i2.mv (by omega) rfl rfl) ?_ ?_ ?_
          · rw [heq]; simp
          · omega
          · intro i hi h1 h2
            rw [s2 i (by omega) h1 (by omega)]; exact s1 i hi h1 h2
          · simp [put_at, e0]
          · simp [put_at]
          · simp [put_at]
          · omega
          · rw [List.append_nil]; exact hcut.seq i3
          · omega
          · omega
        | false =>
          (((repeat (first | (with_reducible apply Wp.step; case h => ((try simp (disch := omega) only [↓reduceIte, ask_true, ↓X0, X1, Nat.reduceEqDiff, Int.reduceEq, Nat.reduceAdd, Nat.reduceSub, X2, Hp_ne, Nat.reduceLeDiff, e0, e1, e4, hc, g, c5, k30 hW', hfull]); with_reducible exact rfl)) | (apply Wp.andS) | (apply Wp.orS) | ((with_reducible first | apply Wp.gs | apply Wp.cs | apply Wp.cselX | apply Wp.askT | apply Wp.iteKT | apply Wp.ikb | apply Wp.askb); case h => ((try simp (disch := omega) only [↓reduceIte, ask_true, ↓X0, X1, Nat.reduceEqDiff, Int.reduceEq, Nat.reduceAdd, Nat.reduceSub, X2, Hp_ne, Nat.reduceLeDiff, e0, e1, e4, hc, g, c5, k30 hW', hfull]); (with_reducible first | done | exact bT | exact bF))) | (with_reducible apply Wp.gu) | (simp only [↓X3]) | (with_reducible apply Wp.assoc))); try simp only [outOf_exit, outOf_ret]); try (with_reducible apply Wp.cargs; case h => ((try simp (disch := omega) only [↓reduceIte, ask_true, ↓X0, X1, Nat.reduceEqDiff, Int.reduceEq, Nat.reduceAdd, Nat.reduceSub, X2, Hp_ne, Nat.reduceLeDiff, e0, e1, e4, hc, g, c5, k30 hW', hfull]); with_reducible exact rfl)))
          refine Wp.rta (k55 (hW'.mv (by omega) rfl rfl) ⟨#[32]⟩ (by decide) (by omega)) ?_
          rintro _ H1 n1 q1 s2 ⟨rfl, u1, id1, j1, j2⟩
          have hv1 := hv'.mv (H' := H1) (Nat.le_refl _) (fun i hi => s2 i (by omega) (by omega) (by omega))
          have g1 := hv1.nAll (i := cur) c0 (by omega)
          have hc1 := j2.hc
          have hl1 : (o' ++ numsOf ⟨#[32]⟩).length = o'.length + 1 := by rw [List.length_append, numsOf_length]; rfl
          (((repeat (first | (with_reducible apply Wp.step; case h => ((try simp (disch := omega) only [↓reduceIte, ask_true, ↓X0, X1, Nat.reduceEqDiff, Int.reduceEq, Nat.reduceAdd, Nat.reduceSub, X2, Hp_ne, Nat.reduceLeDiff, e0, e1, hc1, g1]); with_reducible exact rfl)) | (apply Wp.andS) | (apply Wp.orS) | ((with_reducible first | apply Wp.gs | apply Wp.cs | apply Wp.cselX | apply Wp.askT | apply Wp.iteKT | apply Wp.ikb | apply Wp.askb); case h => ((try simp (disch := omega) only [↓reduceIte, ask_true, ↓X0, X1, Nat.reduceEqDiff, Int.reduceEq, Nat.reduceAdd, Nat.reduceSub, X2, Hp_ne, Nat.reduceLeDiff, e0, e1, hc1, g1]); (with_reducible first | done | exact bT | exact bF))) | (with_reducible apply Wp.gu) | (simp only [↓X3]) | (with_reducible apply Wp.assoc))); try simp only [outOf_exit, outOf_ret]); try (with_reducible apply Wp.cargs; case h => ((try simp (disch := omega) only [↓reduceIte, ask_true, ↓X0, X1, Nat.reduceEqDiff, Int.reduceEq, Nat.reduceAdd, Nat.reduceSub, X2, Hp_ne, Nat.reduceLeDiff, e0, e1, hc1, g1]); with_reducible exact rfl)))
          refine Wp.rta (ihw c id1 _ _ u1 (o' ++ numsOf ⟨#[32]⟩) (j2.mv (by omega) rfl rfl) hlc (by omega) hv1 (by omega)) ?_
          rintro _ H2 n2 q2 s3 ⟨rfl, u2, id2, o2, i1, i2, i3, i4, i5⟩
          have hcn1 := j2.cn
          have g2 := (hv1.mv (H' := H2) (Nat.le_refl _) (fun i hi => s3 i (by omega) (by omega) (by omega))).nAll (i := cur) c0 (by omega)
          have hc2 := i2.hc
          (((repeat (first | (with_reducible apply Wp.step; case h => ((try simp (disch := omega) only [↓reduceIte, ask_true, ↓X0, X1, Nat.reduceEqDiff, Int.reduceEq, Nat.reduceAdd, Nat.reduceSub, X2, Hp_ne, Nat.reduceLeDiff, e0, e1, hc2, g2]); with_reducible exact rfl)) | (apply Wp.andS) | (apply Wp.orS) | ((with_reducible first | apply Wp.gs | apply Wp.cs | apply Wp.cselX | apply Wp.askT | apply Wp.iteKT | apply Wp.ikb | apply Wp.askb); case h => ((try simp (disch := omega) only [↓reduceIte, ask_true, ↓X0, X1, Nat.reduceEqDiff, Int.reduceEq, Nat.reduceAdd, Nat.reduceSub, X2, Hp_ne, Nat.reduceLeDiff, e0, e1, hc2, g2]); (with_reducible first | done | exact bT | exact bF))) | (with_reducible apply Wp.gu) | (simp only [↓X3]) | (with_reducible apply Wp.assoc))); try simp only [outOf_exit, outOf_ret]); try (with_reducible apply Wp.cargs; case h => ((try simp (disch := omega) only [↓reduceIte, ask_true, ↓X0, X1, Nat.reduceEqDiff, Int.reduceEq, Nat.reduceAdd, Nat.reduceSub, X2, Hp_ne, Nat.reduceLeDiff, e0, e1, hc2, g2]); with_reducible exact rfl)))
          refine next [32] _ _ _ u2 id2 o2 ?_ ?_ ?_ ?_ ?_ ?_ ?_ (i2.mv (by omega) rfl rfl) ?_ ?_ ?_
          · rw [heq, tlT, if_pos c5]; simp
          · omega
          · intro i hi h1 h2
            rw [s3 i (by omega) h1 (by omega), s2 i (by omega) h1 (by omega)]; exact s1 i hi h1 h2
          · simp [put_at, e0]
          · simp [put_at]
          · simp [put_at]
          · omega
          · exact (hcut.add [32]).seq i3
          · omega
          · omega
    · (((repeat (first | (with_reducible apply Wp.step; case h => ((try simp (disch := omega) only [↓reduceIte, ask_true, ↓X0, X1, Nat.reduceEqDiff, Int.reduceEq, Nat.reduceAdd, Nat.reduceSub, X2, Hp_ne, Nat.reduceLeDiff, e0, e1, hc, g, c5]); with_reducible exact rfl)) | (apply Wp.andS) | (apply Wp.orS) | ((with_reducible first | apply Wp.gs | apply Wp.cs | apply Wp.cselX | apply Wp.askT | apply Wp.iteKT | apply Wp.ikb | apply Wp.askb); case h => ((try simp (disch := omega) only [↓reduceIte, ask_true, ↓X0, X1, Nat.reduceEqDiff, Int.reduceEq, Nat.reduceAdd, Nat.reduceSub, X2, Hp_ne, Nat.reduceLeDiff, e0, e1, hc, g, c5]); (with_reducible first | done | exact bT | exact bF))) | (with_reducible apply Wp.gu) | (simp only [↓X3]) | (with_reducible apply Wp.assoc))); try simp only [outOf_exit, outOf_ret]); try (with_reducible apply Wp.cargs; case h => ((try simp (disch := omega) only [↓reduceIte, ask_true, ↓X0, X1, Nat.reduceEqDiff, Int.reduceEq, Nat.reduceAdd, Nat.reduceSub, X2, Hp_ne, Nat.reduceLeDiff, e0, e1, hc, g, c5]); with_reducible exact rfl)))
      exact Wp.pure (Nxt.exit ⟨by simp only; omega, s1, rfl, by simp [put_at, e0], cur, first, u', id', o', done, by simp [put_at, e1], c0, c1, c2, c3, hi', hW'.mv (by simp only; omega) rfl rfl, heq, hcut, ho1, ho2, fun h => absurd h c5⟩)
  · rintro ⟨oe, ot, oH, on⟩ ⟨f1, s1, rfl, e0, cur, first, u', id', o', done, e1, c0, c1, c2, c3, hi', hW', heq, hcut, ho1, ho2, h5⟩
    simp only at f1 s1 e0 e1 hW'
    have hv' : Li eNode lo oH v l := hv.mv (Nat.le_refl _) (fun i hi => s1 i (by omega) (by omega) (by omega))
    have g := hv'.nAll (i := cur) c0 (by omega)
    have hc := hW'.hc
    have hcn' := hW'.cn
    have hid' := hW'.idn
    by_cases k1 : (gi l cur).k = 1
    · (((repeat (first | (with_reducible apply Wp.step; case h => ((try simp (disch := omega) only [↓reduceIte, ask_true, ↓X0, X1, Nat.reduceEqDiff, Int.reduceEq, Nat.reduceAdd, Nat.reduceSub, X2, Hp_ne, Nat.reduceLeDiff, e0, e1, hc, g, k1]); with_reducible exact rfl)) | (apply Wp.andS) | (apply Wp.orS) | ((with_reducible first | apply Wp.gs | apply Wp.cs | apply Wp.cselX | apply Wp.askT | apply Wp.iteKT | apply Wp.ikb | apply Wp.askb); case h => ((try simp (disch := omega) only [↓reduceIte, ask_true, ↓X0, X1, Nat.reduceEqDiff, Int.reduceEq, Nat.reduceAdd, Nat.reduceSub, X2, Hp_ne, Nat.reduceLeDiff, e0, e1, hc, g, k1]); (with_reducible first | done | exact bT | exact bF))) | (with_reducible apply Wp.gu) | (simp only [↓X3]) | (with_reducible apply Wp.assoc))); try simp only [outOf_exit, outOf_ret]); try (with_reducible apply Wp.cargs; case h => ((try simp (disch := omega) only [↓reduceIte, ask_true, ↓X0, X1, Nat.reduceEqDiff, Int.reduceEq, Nat.reduceAdd, Nat.reduceSub, X2, Hp_ne, Nat.reduceLeDiff, e0, e1, hc, g, k1]); with_reducible exact rfl)))
      refine Wp.pure ⟨by simp only; omega, s1, rfl, u', id', o', hi', hW'.mv (by simp only; omega) rfl rfl, ?_, ho1, by omega⟩
      have : (if first = true then inT l cur else tlT (gi l cur) (inT l cur)) = [] := by
        split
        · rw [inT_leaf (by omega), leafT]; simp [k1]
        · rw [tlT]; simp [k1]
      rw [heq, this, List.append_nil]; exact hcut
    · by_cases k5 : (gi l cur).k = 5
      · have hful := h5 k5
        (((repeat (first | (with_reducible apply Wp.step; case h => ((try simp (disch := omega) only [↓reduceIte, ask_true, ↓X0, X1, Nat.reduceEqDiff, Int.reduceEq, Nat.reduceAdd, Nat.reduceSub, X2, Hp_ne, Nat.reduceLeDiff, e0, e1, hc, g, k1, k5]); with_reducible exact rfl)) | (apply Wp.andS) | (apply Wp.orS) | ((with_reducible first | apply Wp.gs | apply Wp.cs | apply Wp.cselX | apply Wp.askT | apply Wp.iteKT | apply Wp.ikb | apply Wp.askb); case h => ((try simp (disch := omega) only [↓reduceIte, ask_true, ↓X0, X1, Nat.reduceEqDiff, Int.reduceEq, Nat.reduceAdd, Nat.reduceSub, X2, Hp_ne, Nat.reduceLeDiff, e0, e1, hc, g, k1, k5]); (with_reducible first | done | exact bT | exact bF))) | (with_reducible apply Wp.gu) | (simp only [↓X3]) | (with_reducible apply Wp.assoc))); try simp only [outOf_exit, outOf_ret]); try (with_reducible apply Wp.cargs; case h => ((try simp (disch := omega) only [↓reduceIte, ask_true, ↓X0, X1, Nat.reduceEqDiff, Int.reduceEq, Nat.reduceAdd, Nat.reduceSub, X2, Hp_ne, Nat.reduceLeDiff, e0, e1, hc, g, k1, k5]); with_reducible exact rfl)))
        refine Wp.pure ⟨by simp only; omega, s1, rfl, u', id', o', hi', hW'.mv (by simp only; omega) rfl rfl, ?_, ho1, by omega⟩
        rw [heq]
        exact hcut.seq (Cut.full hful (Nat.le_refl _))
      · have hfst : first = false := by
          cases first with
          | false => rfl
          | true => rw [c3 rfl] at k1 k5; omega
        subst hfst
        have hcx := c2 rfl
        (((repeat (first | (with_reducible apply Wp.step; case h => ((try simp (disch := omega) only [↓reduceIte, ask_true, ↓X0, X1, Nat.reduceEqDiff, Int.reduceEq, Nat.reduceAdd, Nat.reduceSub, X2, Hp_ne, Nat.reduceLeDiff, e0, e1, hc, g, k1, k5]); with_reducible exact rfl)) | (apply Wp.andS) | (apply Wp.orS) | ((with_reducible first | apply Wp.gs | apply Wp.cs | apply Wp.cselX | apply Wp.askT | apply Wp.iteKT | apply Wp.ikb | apply Wp.askb); case h => ((try simp (disch := omega) only [↓reduceIte, ask_true, ↓X0, X1, Nat.reduceEqDiff, Int.reduceEq, Nat.reduceAdd, Nat.reduceSub, X2, Hp_ne, Nat.reduceLeDiff, e0, e1, hc, g, k1, k5]); (with_reducible first | done | exact bT | exact bF))) | (with_reducible apply Wp.gu) | (simp only [↓X3]) | (with_reducible apply Wp.assoc))); try simp only [outOf_exit, outOf_ret]); try (with_reducible apply Wp.cargs; case h => ((try simp (disch := omega) only [↓reduceIte, ask_true, ↓X0, X1, Nat.reduceEqDiff, Int.reduceEq, Nat.reduceAdd, Nat.reduceSub, X2, Hp_ne, Nat.reduceLeDiff, e0, e1, hc, g, k1, k5]); with_reducible exact rfl)))
        refine Wp.rta (k55 (hW'.mv (by omega) rfl rfl) ⟨#[32, 46, 32]⟩ (by decide) (by omega)) ?_
        rintro _ H1 n1 q1 s2 ⟨rfl, u1, id1, j1, j2⟩
        have hv1 := hv'.mv (H' := H1) (Nat.le_refl _) (fun i hi => s2 i (by omega) (by omega) (by omega))
        have hl1 : (o' ++ numsOf ⟨#[32, 46, 32]⟩).length = o'.length + 3 := by rw [List.length_append, numsOf_length]; rfl
        have hcn1 := j2.cn
        have hbx : wBnd cur ≤ wBnd x - 8 := by unfold wBnd; omega
        (((repeat (first | (with_reducible apply Wp.step; case h => ((try simp (disch := omega) only [↓reduceIte, ask_true, ↓X0, X1, Nat.reduceEqDiff, Int.reduceEq, Nat.reduceAdd, Nat.reduceSub, X2, Hp_ne, Nat.reduceLeDiff, e0, e1]); with_reducible exact rfl)) | (apply Wp.andS) | (apply Wp.orS) | ((with_reducible first | apply Wp.gs | apply Wp.cs | apply Wp.cselX | apply Wp.askT | apply Wp.iteKT | apply Wp.ikb | apply Wp.askb); case h => ((try simp (disch := omega) only [↓reduceIte, ask_true, ↓X0, X1, Nat.reduceEqDiff, Int.reduceEq, Nat.reduceAdd, Nat.reduceSub, X2, Hp_ne, Nat.reduceLeDiff, e0, e1]); (with_reducible first | done | exact bT | exact bF))) | (with_reducible apply Wp.gu) | (simp only [↓X3]) | (with_reducible apply Wp.assoc))); try simp only [outOf_exit, outOf_ret]); try (with_reducible apply Wp.cargs; case h => ((try simp (disch := omega) only [↓reduceIte, ask_true, ↓X0, X1, Nat.reduceEqDiff, Int.reduceEq, Nat.reduceAdd, Nat.reduceSub, X2, Hp_ne, Nat.reduceLeDiff, e0, e1]); with_reducible exact rfl)))
        refine Wp.rta (ih cur c0 hcx c id1 _ _ u1 (o' ++ numsOf ⟨#[32, 46, 32]⟩) (j2.mv (by omega) rfl rfl) hlc (by omega) hv1 (by omega)) ?_
        rintro _ H2 n2 q2 s3 ⟨rfl, u2, id2, o2, i1, i2, i3, i4, i5⟩
        (((repeat (first | (with_reducible apply Wp.step; case h => ((try simp (disch := omega) only [↓reduceIte, ask_true, ↓X0, X1, Nat.reduceEqDiff, Int.reduceEq, Nat.reduceAdd, Nat.reduceSub]); with_reducible exact rfl)) | (apply Wp.andS) | (apply Wp.orS) | ((with_reducible first | apply Wp.gs | apply Wp.cs | apply Wp.cselX | apply Wp.askT | apply Wp.iteKT | apply Wp.ikb | apply Wp.askb); case h => ((try simp (disch := omega) only [↓reduceIte, ask_true, ↓X0, X1, Nat.reduceEqDiff, Int.reduceEq, Nat.reduceAdd, Nat.reduceSub]); (with_reducible first | done | exact bT | exact bF))) | (with_reducible apply Wp.gu) | (simp only [↓X3]) | (with_reducible apply Wp.assoc))); try simp only [outOf_exit, outOf_ret]); try (with_reducible apply Wp.cargs; case h => ((try simp (disch := omega) only [↓reduceIte, ask_true, ↓X0, X1, Nat.reduceEqDiff, Int.reduceEq, Nat.reduceAdd, Nat.reduceSub]); with_reducible exact rfl)))
        refine Wp.pure ⟨by simp only; omega, ?_, rfl, u2, id2, o2, by omega, i2.mv (by simp only; omega) rfl rfl, ?_, by omega, by omega⟩
        · intro i hi h1 h2
          show H2 i = H i
          rw [s3 i (by omega) h1 (by omega), s2 i (by omega) h1 (by omega)]; exact s1 i hi h1 h2
        · have : (if false = true then inT l cur else tlT (gi l cur) (inT l cur)) = [32, 46, 32] ++ txT l cur := by
            rw [if_neg (by decide), tlT, if_neg k5, if_neg k1, txT, brT, if_neg (by omega)]
          rw [heq, this, ← List.append_assoc]
          exact (hcut.add [32, 46, 32]).seq i3
end Go.Proofs.Ytdnokdgkccnbnaa.Ax
