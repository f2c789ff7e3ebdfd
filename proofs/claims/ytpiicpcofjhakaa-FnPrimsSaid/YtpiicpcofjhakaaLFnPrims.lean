/- FnPrims answers true. -/
import Derived.Test.YtpiicpcofjhakaaK41
import Derived.Test.YtpiicpcofjhakaaK42
set_option linter.unusedVariables false
set_option linter.unusedSimpArgs false
set_option maxHeartbeats 8000000
namespace Go.Proofs.Ytpiicpcofjhakaa.Ax
open Go
theorem primDo_six {l : List Nd} {xs : List Int} (h : (primDo l 6 xs).2.2 = 0) : PdOk l 6 xs ∧ l.length + 1 ≤ 3000 ∧ (primDo l 6 xs).1 = l ++ [⟨5, 0, ⟨#[]⟩, gi xs 0, gi xs 1⟩] ∧ (primDo l 6 xs).2.1 = l.length := by
  obtain ⟨hp, h12, ⟨i, hO, e1, e2⟩ | ⟨x, hO, h3, e1, e2⟩⟩ := primDo_good h
  · have := (primOut_old hO).2; omega
  · have := (primOut_new hO).2.2.2.1
    exact ⟨hp, h3, by rw [e1, this]; rfl, e2⟩
theorem any_single {p : Int → Bool} (a : Int) : [a].any p = p a := by simp
theorem pool_set {l : List Nd} {x : Nd} (h : PoolOk (l ++ [x])) : l.length + 1 ≤ 3000 := by have := h.2; simp at this; omega
theorem gi_new (l : List Nd) (x : Nd) : gi (l ++ [x]) (l.length : Int) = x := gi_last l x
theorem primDo_seven {l : List Nd} {a b : Int} (h : PoolOk (l ++ [⟨5, 0, ⟨#[]⟩, a, b⟩])) : primDo (l ++ [⟨5, 0, ⟨#[]⟩, a, b⟩]) 7 [(l.length : Int)] = (l ++ [⟨5, 0, ⟨#[]⟩, a, b⟩], a, 0) ∧ primDo (l ++ [⟨5, 0, ⟨#[]⟩, a, b⟩]) 8 [(l.length : Int)] = (l ++ [⟨5, 0, ⟨#[]⟩, a, b⟩], b, 0) := by
  have hr : ∀ x ∈ [(l.length : Int)], 0 ≤ x ∧ x < ((l ++ [(⟨5, 0, ⟨#[]⟩, a, b⟩ : Nd)]).length : Int) := by simp; omega
  have hg : gi (l ++ [(⟨5, 0, ⟨#[]⟩, a, b⟩ : Nd)]) (gi [(l.length : Int)] 0) = ⟨5, 0, ⟨#[]⟩, a, b⟩ := gi_new _ _
  have hg' : gi (l ++ [(⟨5, 0, ⟨#[]⟩, a, b⟩ : Nd)]) (l.length : Int) = ⟨5, 0, ⟨#[]⟩, a, b⟩ := gi_new _ _
  have p7 : PdOk (l ++ [⟨5, 0, ⟨#[]⟩, a, b⟩]) 7 [(l.length : Int)] := ⟨h, by omega, rfl, hr⟩
  have p8 : PdOk (l ++ [⟨5, 0, ⟨#[]⟩, a, b⟩]) 8 [(l.length : Int)] := ⟨h, by omega, rfl, hr⟩
  have o7 : primOut (l ++ [⟨5, 0, ⟨#[]⟩, a, b⟩]) 7 [(l.length : Int)] = .old a := by
    unfold primOut
    rw [if_neg (by rw [any_single]; simp [pBad, hg']), if_pos rfl, hg]
  have o8 : primOut (l ++ [⟨5, 0, ⟨#[]⟩, a, b⟩]) 8 [(l.length : Int)] = .old b := by
    unfold primOut
    rw [if_neg (by rw [any_single]; simp [pBad, hg']), if_neg (by decide), if_pos rfl, hg]
  constructor
  · unfold primDo; rw [if_pos p7, if_neg (by decide), o7]
  · unfold primDo; rw [if_pos p8, if_neg (by decide), o8]
theorem primDo_one {l : List Nd} {xs : List Int} (h : (primDo l 1 xs).2.2 = 0) : PdOk l 1 xs ∧ PoolOk (primDo l 1 xs).1 ∧ (primDo l 1 xs).1 = l ++ [nNd ((gi l (gi xs 0)).n + (gi l (gi xs 1)).n)] ∧ (primDo l 1 xs).2.1 = l.length ∧ (gi l (gi xs 0)).k = 3 ∧ (gi l (gi xs 1)).k = 3 ∧ (0 ≤ gi xs 0 ∧ gi xs 0 < (l.length : Int)) ∧ (0 ≤ gi xs 1 ∧ gi xs 1 < (l.length : Int)) ∧ xs.length = 2 := by
  have hpo := (primDo_pool h).1
  obtain ⟨hp, h12, ⟨i, hO, e1, e2⟩ | ⟨x, hO, h3, e1, e2⟩⟩ := primDo_good h
  · have := (primOut_old hO).2; omega
  · obtain ⟨hb, _, _, hx, _⟩ := primOut_new hO
    have hl2 : xs.length = 2 := by have := hp.2.2.1; rw [argsLen (by omega)] at this; simp at this; omega
    rw [any_two hl2] at hb
    simp [pBad] at hb
    have r0 := hp.2.2.2 _ (gi_mem (l := xs) (i := 0) (by omega) (by omega))
    have r1 := hp.2.2.2 _ (gi_mem (l := xs) (i := 1) (by omega) (by omega))
    exact ⟨hp, hpo, by rw [e1, hx]; rfl, e2, hb.1, hb.2, r0, r1, hl2⟩
theorem primDo_two {l : List Nd} {a b : Int} {x : Int} (h : PoolOk (l ++ [nNd (a + b)])) (hx : 0 ≤ x ∧ x < (l.length : Int)) (hk : (gi l x).k = 3) (hn : (gi l x).n = a) (hb : -1000000000 ≤ b ∧ b ≤ 1000000000) : primDo (l ++ [nNd (a + b)]) 2 [(l.length : Int), x] = (l ++ [nNd (a + b)], -1, 5) ∨ primDo (l ++ [nNd (a + b)]) 2 [(l.length : Int), x] = ((l ++ [nNd (a + b)]) ++ [nNd b], ((l ++ [nNd (a + b)]).length : Int), 0) := by
  have hr : ∀ y ∈ [(l.length : Int), x], 0 ≤ y ∧ y < ((l ++ [nNd (a + b)]).length : Int) := by simp; omega
  have p2 : PdOk (l ++ [nNd (a + b)]) 2 [(l.length : Int), x] := ⟨h, by omega, rfl, hr⟩
  have hg : gi (l ++ [nNd (a + b)]) (l.length : Int) = nNd (a + b) := gi_new _ _
  have hgx : gi (l ++ [nNd (a + b)]) x = gi l x := gi_app hx.2 hx.1
  have hpn : pNode (l ++ [nNd (a + b)]) 2 [(l.length : Int), x] = nNd b := by
    show nNd ((gi (l ++ [nNd (a + b)]) (l.length : Int)).n - (gi (l ++ [nNd (a + b)]) x).n) = nNd b
    rw [hg, hgx, hn]; congr 1; show a + b - a = b; omega
  have e1 : (gi (l ++ [nNd (a + b)]) (l.length : Int)).k = 3 := by rw [hg]; rfl
  have e2 : (gi (l ++ [nNd (a + b)]) x).k = 3 := by rw [hgx]; exact hk
  have o2 := primOut_add (l := l ++ [nNd (a + b)]) (k := 2) (xs := [(l.length : Int), x]) (by simp [pBad, e1, e2]) (by decide) (by decide) hpn hb
  unfold primDo
  rw [if_pos p2, if_neg (by decide), o2]
  simp only
  split
  · exact .inl rfl
  · exact .inr rfl
theorem primDo_twelve {l : List Nd} {xs : List Int} (h : (primDo l 12 xs).2.2 = 0) : PoolOk (primDo l 12 xs).1 ∧ (∃ v : Bool, (primDo l 12 xs).1 = l ++ [bNd v]) ∧ (primDo l 12 xs).2.1 = l.length := by
  have hpo := (primDo_pool h).1
  obtain ⟨hp, h12, ⟨i, hO, e1, e2⟩ | ⟨x, hO, h3, e1, e2⟩⟩ := primDo_good h
  · have := (primOut_old hO).2; omega
  · obtain ⟨hb, _, _, hx, _⟩ := primOut_new hO
    exact ⟨hpo, ⟨_, by rw [e1, hx]; rfl⟩, e2⟩
theorem primDo_not {l : List Nd} {v : Bool} (h : PoolOk (l ++ [bNd v])) : primDo (l ++ [bNd v]) 12 [(l.length : Int)] = (l ++ [bNd v], -1, 5) ∨ primDo (l ++ [bNd v]) 12 [(l.length : Int)] = ((l ++ [bNd v]) ++ [bNd (!v)], ((l ++ [bNd v]).length : Int), 0) := by
  have hr : ∀ y ∈ [(l.length : Int)], 0 ≤ y ∧ y < ((l ++ [bNd v]).length : Int) := by simp; omega
  have p2 : PdOk (l ++ [bNd v]) 12 [(l.length : Int)] := ⟨h, by omega, rfl, hr⟩
  have hg : gi (l ++ [bNd v]) (l.length : Int) = bNd v := gi_new _ _
  have hpn : pNode (l ++ [bNd v]) 12 [(l.length : Int)] = bNd (!v) := by
    show bNd (decide ((gi (l ++ [bNd v]) (l.length : Int)).k = 2) && decide ((gi (l ++ [bNd v]) (l.length : Int)).n = 0)) = _
    rw [hg]; cases v <;> rfl
  have o2 := primOut_add (l := l ++ [bNd v]) (k := 12) (xs := [(l.length : Int)]) (bad_none (by decide) (by decide) (by decide)) (by decide) (by decide) hpn (bNd_rng _)
  unfold primDo
  rw [if_pos p2, if_neg (by decide), o2]
  simp only
  split
  · exact .inl rfl
  · exact .inr rfl
theorem bNd_sz (b : Bool) : (bNd b).s.size = 0 := rfl
theorem nNd_sz (b : Int) : (nNd b).s.size = 0 := rfl
theorem pNode_sz (l : List Nd) (k : Int) (xs : List Int) : (pNode l k xs).s.size = 0 := by
  unfold pNode numNode
  repeat' split
  all_goals rfl
theorem primDo_sz {l : List Nd} {k : Int} {xs : List Int} (hz : ∀ x ∈ l, x.s.size ≤ 1048576) (h : (primDo l k xs).2.2 = 0) : ∀ x ∈ (primDo l k xs).1, x.s.size ≤ 1048576 := by
  obtain ⟨hp, h12, ⟨i, hO, e1, e2⟩ | ⟨x, hO, h3, e1, e2⟩⟩ := primDo_good h
  · rw [e1]; exact hz
  · obtain ⟨_, _, _, hx, _⟩ := primOut_new hO
    rw [e1]
    intro y hy
    rcases List.mem_append.1 hy with h | h
    · exact hz y h
    · simp at h; rw [h, hx, pNode_sz]; omega
theorem nNd_n (k : Int) : (nNd k).n = k := rfl
theorem bNd_1 : (bNd true).n = 1 := rfl
theorem bNd_0 : (bNd false).n = 0 := rfl
theorem bNd_n1 : (bNd (!true)).n = 0 := rfl
theorem bNd_n0 : (bNd (!false)).n = 1 := rfl
theorem law4 {v : Value} {code : List Int} {H : Hp} {n : Nat} (hv : Li eByte n H v code) (hb : ∀ x ∈ code, 0 ≤ x ∧ x ≤ 255) : ∃ H' n', Call Try.prog 4 [v] H n = some (.bool true, H', n') := by
  rw [c4]; unfold S4
  apply Wp.val
  by_cases hbig : 1048576 < code.length
  · (((repeat (first | (with_reducible apply Wp.step; case h => ((try simp (disch := omega) only [↓reduceIte, ask_true, ↓X0, X1, Nat.reduceEqDiff, Int.reduceEq, Nat.reduceAdd, Nat.reduceSub, argsT_at, k14 (hv.up (show n ≤ n + 3 by omega)), hbig]); with_reducible exact rfl)) | (apply Wp.andS) | (apply Wp.orS) | ((first | with_reducible apply Wp.gs | with_reducible apply Wp.cs | with_reducible apply Wp.cselX | with_reducible apply Wp.askT | with_reducible apply Wp.iteKT | with_reducible apply Wp.ikb | with_reducible apply Wp.askb); case h => ((try simp (disch := omega) only [↓reduceIte, ask_true, ↓X0, X1, Nat.reduceEqDiff, Int.reduceEq, Nat.reduceAdd, Nat.reduceSub, argsT_at, k14 (hv.up (show n ≤ n + 3 by omega)), hbig]); (first | done | with_reducible exact bT | with_reducible exact bF))) | (with_reducible apply Wp.gu) | (simp only [↓X3]) | (simp (disch := decide) only [asks_nil, asks_in, asks_out, askB_nil, askB_in, askB_out]) | (with_reducible apply Wp.assoc))); try simp only [outOf_exit, outOf_ret]); try (with_reducible apply Wp.cargs; case h => ((try simp (disch := omega) only [↓reduceIte, ask_true, ↓X0, X1, Nat.reduceEqDiff, Int.reduceEq, Nat.reduceAdd, Nat.reduceSub, argsT_at, k14 (hv.up (show n ≤ n + 3 by omega)), hbig]); with_reducible exact rfl)))
    exact Wp.pure rfl
  have hl : code.length ≤ 1048576 := by omega
  (((repeat (first | (with_reducible apply Wp.step; case h => ((try simp (disch := omega) only [↓reduceIte, ask_true, ↓X0, X1, Nat.reduceEqDiff, Int.reduceEq, Nat.reduceAdd, Nat.reduceSub, argsT_at, k14 (hv.up (show n ≤ n + 3 by omega)), hbig]); with_reducible exact rfl)) | (apply Wp.andS) | (apply Wp.orS) | ((first | with_reducible apply Wp.gs | with_reducible apply Wp.cs | with_reducible apply Wp.cselX | with_reducible apply Wp.askT | with_reducible apply Wp.iteKT | with_reducible apply Wp.ikb | with_reducible apply Wp.askb); case h => ((try simp (disch := omega) only [↓reduceIte, ask_true, ↓X0, X1, Nat.reduceEqDiff, Int.reduceEq, Nat.reduceAdd, Nat.reduceSub, argsT_at, k14 (hv.up (show n ≤ n + 3 by omega)), hbig]); (first | done | with_reducible exact bT | with_reducible exact bF))) | (with_reducible apply Wp.gu) | (simp only [↓X3]) | (simp (disch := decide) only [asks_nil, asks_in, asks_out, askB_nil, askB_in, askB_out]) | (with_reducible apply Wp.assoc))); try simp only [outOf_exit, outOf_ret]); try (with_reducible apply Wp.cargs; case h => ((try simp (disch := omega) only [↓reduceIte, ask_true, ↓X0, X1, Nat.reduceEqDiff, Int.reduceEq, Nat.reduceAdd, Nat.reduceSub, argsT_at, k14 (hv.up (show n ≤ n + 3 by omega)), hbig]); with_reducible exact rfl)))
  refine Wp.rtn (k15 (hv.mv (by omega) (by intros; first | with_reducible rfl | simp (disch := omega) only [Hp_ne, Hp_same])) hb hl) ?_
  rintro _ H1 n1 q1 s1 ⟨u, l, k, w, xs, rfl, hsh, hlen, hxl, hkr, ⟨id, i1, i2, i3⟩, jd, j1, j2, j3⟩
  have hz : ∀ x ∈ l, x.s.size ≤ 1048576 := fun x hx => by have := hsh x hx; omega
  have hwt : notTup w = true := by rcases j3 with ⟨h, _⟩ | ⟨h, _⟩ <;> rw [h] <;> rfl
  (((repeat (first | (with_reducible apply Wp.step; case h => ((try simp (disch := omega) only [↓reduceIte, ask_true, ↓X0, X1, Nat.reduceEqDiff, Int.reduceEq, Nat.reduceAdd, Nat.reduceSub, X2, Hp_ne, Nat.reduceLeDiff, s1, hwt]); with_reducible exact rfl)) | (apply Wp.andS) | (apply Wp.orS) | ((first | with_reducible apply Wp.gs | with_reducible apply Wp.cs | with_reducible apply Wp.cselX | with_reducible apply Wp.askT | with_reducible apply Wp.iteKT | with_reducible apply Wp.ikb | with_reducible apply Wp.askb); case h => ((try simp (disch := omega) only [↓reduceIte, ask_true, ↓X0, X1, Nat.reduceEqDiff, Int.reduceEq, Nat.reduceAdd, Nat.reduceSub, X2, Hp_ne, Nat.reduceLeDiff, s1, hwt]); (first | done | with_reducible exact bT | with_reducible exact bF))) | (with_reducible apply Wp.gu) | (simp only [↓X3]) | (simp (disch := decide) only [asks_nil, asks_in, asks_out, askB_nil, askB_in, askB_out]) | (with_reducible apply Wp.assoc))); try simp only [outOf_exit, outOf_ret]); try (with_reducible apply Wp.cargs; case h => ((try simp (disch := omega) only [↓reduceIte, ask_true, ↓X0, X1, Nat.reduceEqDiff, Int.reduceEq, Nat.reduceAdd, Nat.reduceSub, X2, Hp_ne, Nat.reduceLeDiff, s1, hwt]); with_reducible exact rfl)))
  refine Wp.rtn (k16 ((i3.mv (by intros; first | with_reducible rfl | simp (disch := omega) only [Hp_ne, Hp_same])).lst (by omega)) hz (by omega) ((j3.mv (by intros; first | with_reducible rfl | simp (disch := omega) only [Hp_ne, Hp_same])).lst (by omega)) (by omega) k) ?_
  rintro _ H2 n2 q2 s2 ⟨u2, rfl, id2, a2, b2, o2⟩
  (((repeat (first | (with_reducible apply Wp.step; case h => ((try simp (disch := omega) only [↓reduceIte, ask_true, ↓X0, X1, Nat.reduceEqDiff, Int.reduceEq, Nat.reduceAdd, Nat.reduceSub, X2, Hp_ne, Nat.reduceLeDiff, s2, s1, hwt]); with_reducible exact rfl)) | (apply Wp.andS) | (apply Wp.orS) | ((first | with_reducible apply Wp.gs | with_reducible apply Wp.cs | with_reducible apply Wp.cselX | with_reducible apply Wp.askT | with_reducible apply Wp.iteKT | with_reducible apply Wp.ikb | with_reducible apply Wp.askb); case h => ((try simp (disch := omega) only [↓reduceIte, ask_true, ↓X0, X1, Nat.reduceEqDiff, Int.reduceEq, Nat.reduceAdd, Nat.reduceSub, X2, Hp_ne, Nat.reduceLeDiff, s2, s1, hwt]); (first | done | with_reducible exact bT | with_reducible exact bF))) | (with_reducible apply Wp.gu) | (simp only [↓X3]) | (simp (disch := decide) only [asks_nil, asks_in, asks_out, askB_nil, askB_in, askB_out]) | (with_reducible apply Wp.assoc))); try simp only [outOf_exit, outOf_ret]); try (with_reducible apply Wp.cargs; case h => ((try simp (disch := omega) only [↓reduceIte, ask_true, ↓X0, X1, Nat.reduceEqDiff, Int.reduceEq, Nat.reduceAdd, Nat.reduceSub, X2, Hp_ne, Nat.reduceLeDiff, s2, s1, hwt]); with_reducible exact rfl)))
  refine Wp.rtn (k17 ((i3.mv (by intros; first | with_reducible rfl | simp (disch := omega) only [Hp_ne, Hp_same, s2])).lst (by omega)) hz (by omega) ((j3.mv (by intros; first | with_reducible rfl | simp (disch := omega) only [Hp_ne, Hp_same, s2])).lst (by omega)) (by omega) k) ?_
  rintro _ H3 n3 q3 s3 ⟨u3, rfl, id3, a3, b3, o3⟩
  (((repeat (first | (with_reducible apply Wp.step; case h => ((try simp (disch := omega) only [↓reduceIte, ask_true, ↓X0, X1, Nat.reduceEqDiff, Int.reduceEq, Nat.reduceAdd, Nat.reduceSub, X2, Hp_ne, Nat.reduceLeDiff, s3, s2, s1, hwt, eq_self.{1}]); with_reducible exact rfl)) | (apply Wp.andS) | (apply Wp.orS) | ((first | with_reducible apply Wp.gs | with_reducible apply Wp.cs | with_reducible apply Wp.cselX | with_reducible apply Wp.askT | with_reducible apply Wp.iteKT | with_reducible apply Wp.ikb | with_reducible apply Wp.askb); case h => ((try simp (disch := omega) only [↓reduceIte, ask_true, ↓X0, X1, Nat.reduceEqDiff, Int.reduceEq, Nat.reduceAdd, Nat.reduceSub, X2, Hp_ne, Nat.reduceLeDiff, s3, s2, s1, hwt, eq_self.{1}]); (first | done | with_reducible exact bT | with_reducible exact bF))) | (with_reducible apply Wp.gu) | (simp only [↓X3]) | (simp (disch := decide) only [asks_nil, asks_in, asks_out, askB_nil, askB_in, askB_out]) | (with_reducible apply Wp.assoc))); try simp only [outOf_exit, outOf_ret]); try (with_reducible apply Wp.cargs; case h => ((try simp (disch := omega) only [↓reduceIte, ask_true, ↓X0, X1, Nat.reduceEqDiff, Int.reduceEq, Nat.reduceAdd, Nat.reduceSub, X2, Hp_ne, Nat.reduceLeDiff, s3, s2, s1, hwt, eq_self.{1}]); with_reducible exact rfl)))
  have vl : Li eNode n2 H3 u l := (i3.mv (by intros; first | with_reducible rfl | simp (disch := omega) only [Hp_ne, Hp_same, s3, s2])).lst (by omega)
  have v2 : Li eNode n2 H3 u2 (primDo l k xs).1 := (o2.mv (by intros; first | with_reducible rfl | simp (disch := omega) only [Hp_ne, Hp_same, s3])).lst (by omega)
  have vw : Li eInt n2 H3 w xs := (j3.mv (by intros; first | with_reducible rfl | simp (disch := omega) only [Hp_ne, Hp_same, s3, s2])).lst (by omega)
  have b5 : H3 (n + 3 + 5 + 6) = some (.row [u] 0 true) := by simp (disch := omega) only [s3, s2, s1, Hp_ne, Hp_same]
  have b8 : H3 (n1 + 8) = some (.row [u2] 0 true) := by simp (disch := omega) only [s3, s2, s1, Hp_ne, Hp_same]
  by_cases h0 : (primDo l k xs).2.2 = 0
  case neg =>
    obtain ⟨hi, hd⟩ := primDo_bad h0
    have hl2 := v2.len
    rcases hd with hd | hd
    · rw [hd] at hl2
      (((repeat (first | (with_reducible apply Wp.step; case h => ((try simp (disch := omega) only [↓reduceIte, ask_true, ↓X0, X1, Nat.reduceEqDiff, Int.reduceEq, Nat.reduceAdd, Nat.reduceSub, X2, Hp_ne, Nat.reduceLeDiff, h0, hi, b5, b8, vl.len, hl2, eq_self.{1}]); with_reducible exact rfl)) | (apply Wp.andS) | (apply Wp.orS) | ((first | with_reducible apply Wp.gs | with_reducible apply Wp.cs | with_reducible apply Wp.cselX | with_reducible apply Wp.askT | with_reducible apply Wp.iteKT | with_reducible apply Wp.ikb | with_reducible apply Wp.askb); case h => ((try simp (disch := omega) only [↓reduceIte, ask_true, ↓X0, X1, Nat.reduceEqDiff, Int.reduceEq, Nat.reduceAdd, Nat.reduceSub, X2, Hp_ne, Nat.reduceLeDiff, h0, hi, b5, b8, vl.len, hl2, eq_self.{1}]); (first | done | with_reducible exact bT | with_reducible exact bF))) | (with_reducible apply Wp.gu) | (simp only [↓X3]) | (simp (disch := decide) only [asks_nil, asks_in, asks_out, askB_nil, askB_in, askB_out]) | (with_reducible apply Wp.assoc))); try simp only [outOf_exit, outOf_ret]); try (with_reducible apply Wp.cargs; case h => ((try simp (disch := omega) only [↓reduceIte, ask_true, ↓X0, X1, Nat.reduceEqDiff, Int.reduceEq, Nat.reduceAdd, Nat.reduceSub, X2, Hp_ne, Nat.reduceLeDiff, h0, hi, b5, b8, vl.len, hl2, eq_self.{1}]); with_reducible exact rfl)))
      exact Wp.pure rfl
    · rw [hd] at hl2
      have hl2' : lenV false u2 = some (.int .i64 0) := hl2
      by_cases hz0 : (0 : Int) = (l.length : Int)
      · have hz1 : (l.length : Int) = 0 := hz0.symm
        (((repeat (first | (with_reducible apply Wp.step; case h => ((try simp (disch := omega) only [↓reduceIte, ask_true, ↓X0, X1, Nat.reduceEqDiff, Int.reduceEq, Nat.reduceAdd, Nat.reduceSub, X2, Hp_ne, Nat.reduceLeDiff, h0, hi, b5, b8, vl.len, hl2', hz1, eq_self.{1}]); with_reducible exact rfl)) | (apply Wp.andS) | (apply Wp.orS) | ((first | with_reducible apply Wp.gs | with_reducible apply Wp.cs | with_reducible apply Wp.cselX | with_reducible apply Wp.askT | with_reducible apply Wp.iteKT | with_reducible apply Wp.ikb | with_reducible apply Wp.askb); case h => ((try simp (disch := omega) only [↓reduceIte, ask_true, ↓X0, X1, Nat.reduceEqDiff, Int.reduceEq, Nat.reduceAdd, Nat.reduceSub, X2, Hp_ne, Nat.reduceLeDiff, h0, hi, b5, b8, vl.len, hl2', hz1, eq_self.{1}]); (first | done | with_reducible exact bT | with_reducible exact bF))) | (with_reducible apply Wp.gu) | (simp only [↓X3]) | (simp (disch := decide) only [asks_nil, asks_in, asks_out, askB_nil, askB_in, askB_out]) | (with_reducible apply Wp.assoc))); try simp only [outOf_exit, outOf_ret]); try (with_reducible apply Wp.cargs; case h => ((try simp (disch := omega) only [↓reduceIte, ask_true, ↓X0, X1, Nat.reduceEqDiff, Int.reduceEq, Nat.reduceAdd, Nat.reduceSub, X2, Hp_ne, Nat.reduceLeDiff, h0, hi, b5, b8, vl.len, hl2', hz1, eq_self.{1}]); with_reducible exact rfl)))
        exact Wp.pure rfl
      · (((repeat (first | (with_reducible apply Wp.step; case h => ((try simp (disch := omega) only [↓reduceIte, ask_true, ↓X0, X1, Nat.reduceEqDiff, Int.reduceEq, Nat.reduceAdd, Nat.reduceSub, X2, Hp_ne, Nat.reduceLeDiff, h0, hi, b5, b8, vl.len, hl2', hz0, eq_self.{1}]); with_reducible exact rfl)) | (apply Wp.andS) | (apply Wp.orS) | ((first | with_reducible apply Wp.gs | with_reducible apply Wp.cs | with_reducible apply Wp.cselX | with_reducible apply Wp.askT | with_reducible apply Wp.iteKT | with_reducible apply Wp.ikb | with_reducible apply Wp.askb); case h => ((try simp (disch := omega) only [↓reduceIte, ask_true, ↓X0, X1, Nat.reduceEqDiff, Int.reduceEq, Nat.reduceAdd, Nat.reduceSub, X2, Hp_ne, Nat.reduceLeDiff, h0, hi, b5, b8, vl.len, hl2', hz0, eq_self.{1}]); (first | done | with_reducible exact bT | with_reducible exact bF))) | (with_reducible apply Wp.gu) | (simp only [↓X3]) | (simp (disch := decide) only [asks_nil, asks_in, asks_out, askB_nil, askB_in, askB_out]) | (with_reducible apply Wp.assoc))); try simp only [outOf_exit, outOf_ret]); try (with_reducible apply Wp.cargs; case h => ((try simp (disch := omega) only [↓reduceIte, ask_true, ↓X0, X1, Nat.reduceEqDiff, Int.reduceEq, Nat.reduceAdd, Nat.reduceSub, X2, Hp_ne, Nat.reduceLeDiff, h0, hi, b5, b8, vl.len, hl2', hz0, eq_self.{1}]); with_reducible exact rfl)))
        exact Wp.pure rfl
  obtain ⟨hpo, hi0, hi1⟩ := primDo_pool h0
  have hz2 : ∀ x ∈ (primDo l k xs).1, x.s.size ≤ 1048576 := primDo_sz hz h0
  (((repeat (first | (with_reducible apply Wp.step; case h => ((try simp (disch := omega) only [↓reduceIte, ask_true, ↓X0, X1, Nat.reduceEqDiff, Int.reduceEq, Nat.reduceAdd, Nat.reduceSub, X2, Hp_ne, Nat.reduceLeDiff, h0, b5, b8, v2.len, eq_self.{1}, show ¬ (primDo l k xs).2.1 < 0 by omega, show ¬ ((primDo l k xs).1.length : Int) ≤ (primDo l k xs).2.1 by omega]); with_reducible exact rfl)) | (apply Wp.andS) | (apply Wp.orS) | ((first | with_reducible apply Wp.gs | with_reducible apply Wp.cs | with_reducible apply Wp.cselX | with_reducible apply Wp.askT | with_reducible apply Wp.iteKT | with_reducible apply Wp.ikb | with_reducible apply Wp.askb); case h => ((try simp (disch := omega) only [↓reduceIte, ask_true, ↓X0, X1, Nat.reduceEqDiff, Int.reduceEq, Nat.reduceAdd, Nat.reduceSub, X2, Hp_ne, Nat.reduceLeDiff, h0, b5, b8, v2.len, eq_self.{1}, show ¬ (primDo l k xs).2.1 < 0 by omega, show ¬ ((primDo l k xs).1.length : Int) ≤ (primDo l k xs).2.1 by omega]); (first | done | with_reducible exact bT | with_reducible exact bF))) | (with_reducible apply Wp.gu) | (simp only [↓X3]) | (simp (disch := decide) only [asks_nil, asks_in, asks_out, askB_nil, askB_in, askB_out]) | (with_reducible apply Wp.assoc))); try simp only [outOf_exit, outOf_ret]); try (with_reducible apply Wp.cargs; case h => ((try simp (disch := omega) only [↓reduceIte, ask_true, ↓X0, X1, Nat.reduceEqDiff, Int.reduceEq, Nat.reduceAdd, Nat.reduceSub, X2, Hp_ne, Nat.reduceLeDiff, h0, b5, b8, v2.len, eq_self.{1}, show ¬ (primDo l k xs).2.1 < 0 by omega, show ¬ ((primDo l k xs).1.length : Int) ≤ (primDo l k xs).2.1 by omega]); with_reducible exact rfl)))
  refine Wp.rt (k18 (v2.mv (by omega) (by intros; first | with_reducible rfl | simp (disch := omega) only [Hp_ne, Hp_same])) hz2 (by have := hpo.2; omega)) ?_
  intro H4 n4 q4 s4
  have b54 : H4 (n + 3 + 5 + 6) = some (.row [u] 0 true) := by simp (disch := omega) only [s4, Hp_ne, b5]
  have b84 : H4 (n1 + 8) = some (.row [u2] 0 true) := by simp (disch := omega) only [s4, Hp_ne, b8]
  by_cases k6 : k = 6
  · subst k6
    obtain ⟨hPd, h3, e1, e2⟩ := primDo_six h0
    have hpo' := hpo
    rw [e1] at hpo' hz2 v2
    obtain ⟨d7, d8⟩ := primDo_seven hpo'
    have hll := hpo'.2
    have hx2 : xs.length = 2 := by have := hPd.2.2.1; rw [show primArgs 6 = 2 from rfl] at this; omega
    (((repeat (first | (with_reducible apply Wp.step; case h => ((try simp (disch := omega) only [↓reduceIte, ask_true, ↓X0, X1, Nat.reduceEqDiff, Int.reduceEq, Nat.reduceAdd, Nat.reduceSub, X2, Hp_ne, Nat.reduceLeDiff, hpo, e2, b54, b84]); with_reducible exact rfl)) | (apply Wp.andS) | (apply Wp.orS) | ((first | with_reducible apply Wp.gs | with_reducible apply Wp.cs | with_reducible apply Wp.cselX | with_reducible apply Wp.askT | with_reducible apply Wp.iteKT | with_reducible apply Wp.ikb | with_reducible apply Wp.askb); case h => ((try simp (disch := omega) only [↓reduceIte, ask_true, ↓X0, X1, Nat.reduceEqDiff, Int.reduceEq, Nat.reduceAdd, Nat.reduceSub, X2, Hp_ne, Nat.reduceLeDiff, hpo, e2, b54, b84]); (first | done | with_reducible exact bT | with_reducible exact bF))) | (with_reducible apply Wp.gu) | (simp only [↓X3]) | (simp (disch := decide) only [asks_nil, asks_in, asks_out, askB_nil, askB_in, askB_out]) | (with_reducible apply Wp.assoc))); try simp only [outOf_exit, outOf_ret]); try (with_reducible apply Wp.cargs; case h => ((try simp (disch := omega) only [↓reduceIte, ask_true, ↓X0, X1, Nat.reduceEqDiff, Int.reduceEq, Nat.reduceAdd, Nat.reduceSub, X2, Hp_ne, Nat.reduceLeDiff, hpo, e2, b54, b84]); with_reducible exact rfl)))
    refine Wp.bslN eInt [(l.length : Int)] (by decide) rfl rfl ?_
    generalize hH5 : Hp.set _ (n4 + 5) (some (Obj.row (List.flatMap eInt.cells [(l.length : Int)]) eInt.sz true)) = H5
    have s5 : ∀ i, i < n4 + 5 → H5 i = H4 i := by rw [← hH5]; exact (by intros; first | with_reducible rfl | simp (disch := omega) only [Hp_ne, Hp_same])
    have o5 : At eInt (n4 + 5) H5 (sl (n4 + 5) 0 1) [(l.length : Int)] := .inr ⟨rfl, by rw [← hH5]; exact Hp_same _ _ _⟩
    (((repeat (first | (with_reducible apply Wp.step; case h => ((try simp (disch := omega) only [↓reduceIte, ask_true, ↓X0, X1, Nat.reduceEqDiff, Int.reduceEq, Nat.reduceAdd, Nat.reduceSub, List.length_cons.{0}, List.length_nil.{0}]); with_reducible exact rfl)) | (apply Wp.andS) | (apply Wp.orS) | ((first | with_reducible apply Wp.gs | with_reducible apply Wp.cs | with_reducible apply Wp.cselX | with_reducible apply Wp.askT | with_reducible apply Wp.iteKT | with_reducible apply Wp.ikb | with_reducible apply Wp.askb); case h => ((try simp (disch := omega) only [↓reduceIte, ask_true, ↓X0, X1, Nat.reduceEqDiff, Int.reduceEq, Nat.reduceAdd, Nat.reduceSub, List.length_cons.{0}, List.length_nil.{0}]); (first | done | with_reducible exact bT | with_reducible exact bF))) | (with_reducible apply Wp.gu) | (simp only [↓X3]) | (simp (disch := decide) only [asks_nil, asks_in, asks_out, askB_nil, askB_in, askB_out]) | (with_reducible apply Wp.assoc))); try simp only [outOf_exit, outOf_ret]); try (with_reducible apply Wp.cargs; case h => ((try simp (disch := omega) only [↓reduceIte, ask_true, ↓X0, X1, Nat.reduceEqDiff, Int.reduceEq, Nat.reduceAdd, Nat.reduceSub, List.length_cons.{0}, List.length_nil.{0}]); with_reducible exact rfl)))
    have c7 := k16 (n := n4 + 15) (H := H5) (v2.mv (by omega) (by intros; first | with_reducible rfl | simp (disch := omega) only [Hp_ne, Hp_same, s5, s4])) hz2 (by omega) (o5.lst (by omega)) (by simp) 7
    simp only [d7] at c7
    refine Wp.rtn c7 ?_
    rintro _ H6 n6 q6 s6 ⟨u6, rfl, _⟩
    (((repeat (first | (with_reducible apply Wp.step; case h => ((try simp (disch := omega) only [↓reduceIte, ask_true, ↓X0, X1, Nat.reduceEqDiff, Int.reduceEq, Nat.reduceAdd, Nat.reduceSub, X2, Hp_ne, Nat.reduceLeDiff, s6, s5, b84]); with_reducible exact rfl)) | (apply Wp.andS) | (apply Wp.orS) | ((first | with_reducible apply Wp.gs | with_reducible apply Wp.cs | with_reducible apply Wp.cselX | with_reducible apply Wp.askT | with_reducible apply Wp.iteKT | with_reducible apply Wp.ikb | with_reducible apply Wp.askb); case h => ((try simp (disch := omega) only [↓reduceIte, ask_true, ↓X0, X1, Nat.reduceEqDiff, Int.reduceEq, Nat.reduceAdd, Nat.reduceSub, X2, Hp_ne, Nat.reduceLeDiff, s6, s5, b84]); (first | done | with_reducible exact bT | with_reducible exact bF))) | (with_reducible apply Wp.gu) | (simp only [↓X3]) | (simp (disch := decide) only [asks_nil, asks_in, asks_out, askB_nil, askB_in, askB_out]) | (with_reducible apply Wp.assoc))); try simp only [outOf_exit, outOf_ret]); try (with_reducible apply Wp.cargs; case h => ((try simp (disch := omega) only [↓reduceIte, ask_true, ↓X0, X1, Nat.reduceEqDiff, Int.reduceEq, Nat.reduceAdd, Nat.reduceSub, X2, Hp_ne, Nat.reduceLeDiff, s6, s5, b84]); with_reducible exact rfl)))
    refine Wp.bslN eInt [(l.length : Int)] (by decide) rfl rfl ?_
    generalize hH7 : Hp.set _ (n6 + 2) (some (Obj.row (List.flatMap eInt.cells [(l.length : Int)]) eInt.sz true)) = H7
    have s7 : ∀ i, i < n4 + 11 → H7 i = H6 i := by rw [← hH7]; exact (by intros; first | with_reducible rfl | simp (disch := omega) only [Hp_ne, Hp_same])
    have o7 : At eInt (n6 + 2) H7 (sl (n6 + 2) 0 1) [(l.length : Int)] := .inr ⟨rfl, by rw [← hH7]; exact Hp_same _ _ _⟩
    (((repeat (first | (with_reducible apply Wp.step; case h => ((try simp (disch := omega) only [↓reduceIte, ask_true, ↓X0, X1, Nat.reduceEqDiff, Int.reduceEq, Nat.reduceAdd, Nat.reduceSub, List.length_cons.{0}, List.length_nil.{0}]); with_reducible exact rfl)) | (apply Wp.andS) | (apply Wp.orS) | ((first | with_reducible apply Wp.gs | with_reducible apply Wp.cs | with_reducible apply Wp.cselX | with_reducible apply Wp.askT | with_reducible apply Wp.iteKT | with_reducible apply Wp.ikb | with_reducible apply Wp.askb); case h => ((try simp (disch := omega) only [↓reduceIte, ask_true, ↓X0, X1, Nat.reduceEqDiff, Int.reduceEq, Nat.reduceAdd, Nat.reduceSub, List.length_cons.{0}, List.length_nil.{0}]); (first | done | with_reducible exact bT | with_reducible exact bF))) | (with_reducible apply Wp.gu) | (simp only [↓X3]) | (simp (disch := decide) only [asks_nil, asks_in, asks_out, askB_nil, askB_in, askB_out]) | (with_reducible apply Wp.assoc))); try simp only [outOf_exit, outOf_ret]); try (with_reducible apply Wp.cargs; case h => ((try simp (disch := omega) only [↓reduceIte, ask_true, ↓X0, X1, Nat.reduceEqDiff, Int.reduceEq, Nat.reduceAdd, Nat.reduceSub, List.length_cons.{0}, List.length_nil.{0}]); with_reducible exact rfl)))
    have c8 := k16 (n := n6 + 12) (H := H7) (v2.mv (by omega) (by intros; first | with_reducible rfl | simp (disch := omega) only [Hp_ne, Hp_same, s7, s6, s5, s4])) hz2 (by omega) (o7.lst (by omega)) (by simp) 8
    simp only [d8] at c8
    refine Wp.rtn c8 ?_
    rintro _ H8 n8 q8 s8 ⟨u8, rfl, _⟩
    have vw8 := vw.mv (H' := H8.set (n6 + 8) (some (.row [u8] 0 true))) (Nat.le_refl _) (by intros; first | with_reducible rfl | simp (disch := omega) only [Hp_ne, Hp_same, s8, s7, s6, s5, s4])
    have g0 := vw8.iAll (i := 0) (by omega) (by omega)
    have g1 := vw8.iAll (i := 1) (by omega) (by omega)
    (((repeat (first | (with_reducible apply Wp.step; case h => ((try simp (disch := omega) only [↓reduceIte, ask_true, ↓X0, X1, Nat.reduceEqDiff, Int.reduceEq, Nat.reduceAdd, Nat.reduceSub, X2, Hp_ne, Nat.reduceLeDiff, g0, g1, eq_self.{1}]); with_reducible exact rfl)) | (apply Wp.andS) | (apply Wp.orS) | ((first | with_reducible apply Wp.gs | with_reducible apply Wp.cs | with_reducible apply Wp.cselX | with_reducible apply Wp.askT | with_reducible apply Wp.iteKT | with_reducible apply Wp.ikb | with_reducible apply Wp.askb); case h => ((try simp (disch := omega) only [↓reduceIte, ask_true, ↓X0, X1, Nat.reduceEqDiff, Int.reduceEq, Nat.reduceAdd, Nat.reduceSub, X2, Hp_ne, Nat.reduceLeDiff, g0, g1, eq_self.{1}]); (first | done | with_reducible exact bT | with_reducible exact bF))) | (with_reducible apply Wp.gu) | (simp only [↓X3]) | (simp (disch := decide) only [asks_nil, asks_in, asks_out, askB_nil, askB_in, askB_out]) | (with_reducible apply Wp.assoc))); try simp only [outOf_exit, outOf_ret]); try (with_reducible apply Wp.cargs; case h => ((try simp (disch := omega) only [↓reduceIte, ask_true, ↓X0, X1, Nat.reduceEqDiff, Int.reduceEq, Nat.reduceAdd, Nat.reduceSub, X2, Hp_ne, Nat.reduceLeDiff, g0, g1, eq_self.{1}]); with_reducible exact rfl)))
    exact Wp.pure rfl
  by_cases k1 : k = 1
  · subst k1
    obtain ⟨hPd, hpo', e1, e2, hk0, hk1, r0, r1, hx2⟩ := primDo_one h0
    rw [e1] at hpo' hz2 v2
    have hp := hPd.1
    have hll := hpo'.2
    have hbr := (hp.at r1.1 r1.2).num hk1
    have d2 := primDo_two hpo' r0 hk0 rfl hbr
    have vw4 := vw.mv (H' := H4) (Nat.le_refl _) (by intros; first | with_reducible rfl | simp (disch := omega) only [Hp_ne, Hp_same, s4])
    have g0 := vw4.iAll (i := 0) (by omega) (by omega)
    (((repeat (first | (with_reducible apply Wp.step; case h => ((try simp (disch := omega) only [↓reduceIte, ask_true, ↓X0, X1, Nat.reduceEqDiff, Int.reduceEq, Nat.reduceAdd, Nat.reduceSub, X2, Hp_ne, Nat.reduceLeDiff, hpo, e2, b54, b84, g0]); with_reducible exact rfl)) | (apply Wp.andS) | (apply Wp.orS) | ((first | with_reducible apply Wp.gs | with_reducible apply Wp.cs | with_reducible apply Wp.cselX | with_reducible apply Wp.askT | with_reducible apply Wp.iteKT | with_reducible apply Wp.ikb | with_reducible apply Wp.askb); case h => ((try simp (disch := omega) only [↓reduceIte, ask_true, ↓X0, X1, Nat.reduceEqDiff, Int.reduceEq, Nat.reduceAdd, Nat.reduceSub, X2, Hp_ne, Nat.reduceLeDiff, hpo, e2, b54, b84, g0]); (first | done | with_reducible exact bT | with_reducible exact bF))) | (with_reducible apply Wp.gu) | (simp only [↓X3]) | (simp (disch := decide) only [asks_nil, asks_in, asks_out, askB_nil, askB_in, askB_out]) | (with_reducible apply Wp.assoc))); try simp only [outOf_exit, outOf_ret]); try (with_reducible apply Wp.cargs; case h => ((try simp (disch := omega) only [↓reduceIte, ask_true, ↓X0, X1, Nat.reduceEqDiff, Int.reduceEq, Nat.reduceAdd, Nat.reduceSub, X2, Hp_ne, Nat.reduceLeDiff, hpo, e2, b54, b84, g0]); with_reducible exact rfl)))
    refine Wp.bslN eInt [(l.length : Int), gi xs 0] (by simp) rfl rfl ?_
    generalize hH5 : Hp.set _ (n4 + 10) (some (Obj.row (List.flatMap eInt.cells [(l.length : Int), gi xs 0]) eInt.sz true)) = H5
    have s5 : ∀ i, i < n4 + 10 → H5 i = H4 i := by rw [← hH5]; exact (by intros; first | with_reducible rfl | simp (disch := omega) only [Hp_ne, Hp_same])
    have o5 : At eInt (n4 + 10) H5 (sl (n4 + 10) 0 2) [(l.length : Int), gi xs 0] := .inr ⟨rfl, by rw [← hH5]; exact Hp_same _ _ _⟩
    (((repeat (first | (with_reducible apply Wp.step; case h => ((try simp (disch := omega) only [↓reduceIte, ask_true, ↓X0, X1, Nat.reduceEqDiff, Int.reduceEq, Nat.reduceAdd, Nat.reduceSub, List.length_cons.{0}, List.length_nil.{0}]); with_reducible exact rfl)) | (apply Wp.andS) | (apply Wp.orS) | ((first | with_reducible apply Wp.gs | with_reducible apply Wp.cs | with_reducible apply Wp.cselX | with_reducible apply Wp.askT | with_reducible apply Wp.iteKT | with_reducible apply Wp.ikb | with_reducible apply Wp.askb); case h => ((try simp (disch := omega) only [↓reduceIte, ask_true, ↓X0, X1, Nat.reduceEqDiff, Int.reduceEq, Nat.reduceAdd, Nat.reduceSub, List.length_cons.{0}, List.length_nil.{0}]); (first | done | with_reducible exact bT | with_reducible exact bF))) | (with_reducible apply Wp.gu) | (simp only [↓X3]) | (simp (disch := decide) only [asks_nil, asks_in, asks_out, askB_nil, askB_in, askB_out]) | (with_reducible apply Wp.assoc))); try simp only [outOf_exit, outOf_ret]); try (with_reducible apply Wp.cargs; case h => ((try simp (disch := omega) only [↓reduceIte, ask_true, ↓X0, X1, Nat.reduceEqDiff, Int.reduceEq, Nat.reduceAdd, Nat.reduceSub, List.length_cons.{0}, List.length_nil.{0}]); with_reducible exact rfl)))
    have c2 := k16 (n := n4 + 20) (H := H5) (v2.mv (by omega) (by intros; first | with_reducible rfl | simp (disch := omega) only [Hp_ne, Hp_same, s5, s4])) hz2 (by omega) (o5.lst (by omega)) (by simp) 2
    rcases d2 with d2 | d2
    · simp only [d2] at c2
      refine Wp.rtn c2 ?_
      rintro _ H6 n6 q6 s6 ⟨u6, rfl, _⟩
      (((repeat (first | (with_reducible apply Wp.step; case h => ((try simp (disch := omega) only [↓reduceIte, ask_true, ↓X0, X1, Nat.reduceEqDiff, Int.reduceEq, Nat.reduceAdd, Nat.reduceSub, X2, Hp_ne, Nat.reduceLeDiff, eq_self.{1}]); with_reducible exact rfl)) | (apply Wp.andS) | (apply Wp.orS) | ((first | with_reducible apply Wp.gs | with_reducible apply Wp.cs | with_reducible apply Wp.cselX | with_reducible apply Wp.askT | with_reducible apply Wp.iteKT | with_reducible apply Wp.ikb | with_reducible apply Wp.askb); case h => ((try simp (disch := omega) only [↓reduceIte, ask_true, ↓X0, X1, Nat.reduceEqDiff, Int.reduceEq, Nat.reduceAdd, Nat.reduceSub, X2, Hp_ne, Nat.reduceLeDiff, eq_self.{1}]); (first | done | with_reducible exact bT | with_reducible exact bF))) | (with_reducible apply Wp.gu) | (simp only [↓X3]) | (simp (disch := decide) only [asks_nil, asks_in, asks_out, askB_nil, askB_in, askB_out]) | (with_reducible apply Wp.assoc))); try simp only [outOf_exit, outOf_ret]); try (with_reducible apply Wp.cargs; case h => ((try simp (disch := omega) only [↓reduceIte, ask_true, ↓X0, X1, Nat.reduceEqDiff, Int.reduceEq, Nat.reduceAdd, Nat.reduceSub, X2, Hp_ne, Nat.reduceLeDiff, eq_self.{1}]); with_reducible exact rfl)))
      exact Wp.pure rfl
    · simp only [d2] at c2
      refine Wp.rtn c2 ?_
      rintro _ H6 n6 q6 s6 ⟨u6, rfl, id6, t1, t2, t3⟩
      have v6 := (t3.mv (H' := H6.set (n4 + 16) (some (.row [u6] 0 true))) (by intros; first | with_reducible rfl | simp (disch := omega) only [Hp_ne, Hp_same])).lst t2
      have g6 := v6.nAll (i := ((l ++ [nNd ((gi l (gi xs 0)).n + (gi l (gi xs 1)).n)]).length : Int)) (by omega) (by simp)
      rw [gi_new] at g6
      have vw6 := vw.mv (H' := H6.set (n4 + 16) (some (.row [u6] 0 true))) (Nat.le_refl _) (by intros; first | with_reducible rfl | simp (disch := omega) only [Hp_ne, Hp_same, s6, s5, s4])
      have g1 := vw6.iAll (i := 1) (by omega) (by omega)
      have v26 := v2.mv (H' := H6.set (n4 + 16) (some (.row [u6] 0 true))) (Nat.le_refl _) (by intros; first | with_reducible rfl | simp (disch := omega) only [Hp_ne, Hp_same, s6, s5, s4])
      have g2 := v26.nAll (i := gi xs 1) r1.1 (by simp; omega)
      rw [gi_app r1.2 r1.1] at g2
      (((repeat (first | (with_reducible apply Wp.step; case h => ((try simp (disch := omega) only [↓reduceIte, ask_true, ↓X0, X1, Nat.reduceEqDiff, Int.reduceEq, Nat.reduceAdd, Nat.reduceSub, X2, Hp_ne, Nat.reduceLeDiff, g6, g1, g2, s6, s5, b84, nNd_n, eq_self.{1}]); with_reducible exact rfl)) | (apply Wp.andS) | (apply Wp.orS) | ((first | with_reducible apply Wp.gs | with_reducible apply Wp.cs | with_reducible apply Wp.cselX | with_reducible apply Wp.askT | with_reducible apply Wp.iteKT | with_reducible apply Wp.ikb | with_reducible apply Wp.askb); case h => ((try simp (disch := omega) only [↓reduceIte, ask_true, ↓X0, X1, Nat.reduceEqDiff, Int.reduceEq, Nat.reduceAdd, Nat.reduceSub, X2, Hp_ne, Nat.reduceLeDiff, g6, g1, g2, s6, s5, b84, nNd_n, eq_self.{1}]); (first | done | with_reducible exact bT | with_reducible exact bF))) | (with_reducible apply Wp.gu) | (simp only [↓X3]) | (simp (disch := decide) only [asks_nil, asks_in, asks_out, askB_nil, askB_in, askB_out]) | (with_reducible apply Wp.assoc))); try simp only [outOf_exit, outOf_ret]); try (with_reducible apply Wp.cargs; case h => ((try simp (disch := omega) only [↓reduceIte, ask_true, ↓X0, X1, Nat.reduceEqDiff, Int.reduceEq, Nat.reduceAdd, Nat.reduceSub, X2, Hp_ne, Nat.reduceLeDiff, g6, g1, g2, s6, s5, b84, nNd_n, eq_self.{1}]); with_reducible exact rfl)))
      exact Wp.pure rfl
  by_cases k12 : k = 12
  · subst k12
    obtain ⟨hpo', ⟨bv, e1⟩, e2⟩ := primDo_twelve h0
    rw [e1] at hpo' hz2 v2
    have hll := hpo'.2
    have d2 := primDo_not hpo'
    (((repeat (first | (with_reducible apply Wp.step; case h => ((try simp (disch := omega) only [↓reduceIte, ask_true, ↓X0, X1, Nat.reduceEqDiff, Int.reduceEq, Nat.reduceAdd, Nat.reduceSub, X2, Hp_ne, Nat.reduceLeDiff, hpo, e2, b54, b84]); with_reducible exact rfl)) | (apply Wp.andS) | (apply Wp.orS) | ((first | with_reducible apply Wp.gs | with_reducible apply Wp.cs | with_reducible apply Wp.cselX | with_reducible apply Wp.askT | with_reducible apply Wp.iteKT | with_reducible apply Wp.ikb | with_reducible apply Wp.askb); case h => ((try simp (disch := omega) only [↓reduceIte, ask_true, ↓X0, X1, Nat.reduceEqDiff, Int.reduceEq, Nat.reduceAdd, Nat.reduceSub, X2, Hp_ne, Nat.reduceLeDiff, hpo, e2, b54, b84]); (first | done | with_reducible exact bT | with_reducible exact bF))) | (with_reducible apply Wp.gu) | (simp only [↓X3]) | (simp (disch := decide) only [asks_nil, asks_in, asks_out, askB_nil, askB_in, askB_out]) | (with_reducible apply Wp.assoc))); try simp only [outOf_exit, outOf_ret]); try (with_reducible apply Wp.cargs; case h => ((try simp (disch := omega) only [↓reduceIte, ask_true, ↓X0, X1, Nat.reduceEqDiff, Int.reduceEq, Nat.reduceAdd, Nat.reduceSub, X2, Hp_ne, Nat.reduceLeDiff, hpo, e2, b54, b84]); with_reducible exact rfl)))
    refine Wp.bslN eInt [(l.length : Int)] (by decide) rfl rfl ?_
    generalize hH5 : Hp.set _ (n4 + 9) (some (Obj.row (List.flatMap eInt.cells [(l.length : Int)]) eInt.sz true)) = H5
    have s5 : ∀ i, i < n4 + 9 → H5 i = H4 i := by rw [← hH5]; exact (by intros; first | with_reducible rfl | simp (disch := omega) only [Hp_ne, Hp_same])
    have o5 : At eInt (n4 + 9) H5 (sl (n4 + 9) 0 1) [(l.length : Int)] := .inr ⟨rfl, by rw [← hH5]; exact Hp_same _ _ _⟩
    (((repeat (first | (with_reducible apply Wp.step; case h => ((try simp (disch := omega) only [↓reduceIte, ask_true, ↓X0, X1, Nat.reduceEqDiff, Int.reduceEq, Nat.reduceAdd, Nat.reduceSub, List.length_cons.{0}, List.length_nil.{0}]); with_reducible exact rfl)) | (apply Wp.andS) | (apply Wp.orS) | ((first | with_reducible apply Wp.gs | with_reducible apply Wp.cs | with_reducible apply Wp.cselX | with_reducible apply Wp.askT | with_reducible apply Wp.iteKT | with_reducible apply Wp.ikb | with_reducible apply Wp.askb); case h => ((try simp (disch := omega) only [↓reduceIte, ask_true, ↓X0, X1, Nat.reduceEqDiff, Int.reduceEq, Nat.reduceAdd, Nat.reduceSub, List.length_cons.{0}, List.length_nil.{0}]); (first | done | with_reducible exact bT | with_reducible exact bF))) | (with_reducible apply Wp.gu) | (simp only [↓X3]) | (simp (disch := decide) only [asks_nil, asks_in, asks_out, askB_nil, askB_in, askB_out]) | (with_reducible apply Wp.assoc))); try simp only [outOf_exit, outOf_ret]); try (with_reducible apply Wp.cargs; case h => ((try simp (disch := omega) only [↓reduceIte, ask_true, ↓X0, X1, Nat.reduceEqDiff, Int.reduceEq, Nat.reduceAdd, Nat.reduceSub, List.length_cons.{0}, List.length_nil.{0}]); with_reducible exact rfl)))
    have c2 := k16 (n := n4 + 19) (H := H5) (v2.mv (by omega) (by intros; first | with_reducible rfl | simp (disch := omega) only [Hp_ne, Hp_same, s5, s4])) hz2 (by omega) (o5.lst (by omega)) (by simp) 12
    rcases d2 with d2 | d2
    · simp only [d2] at c2
      refine Wp.rtn c2 ?_
      rintro _ H6 n6 q6 s6 ⟨u6, rfl, _⟩
      (((repeat (first | (with_reducible apply Wp.step; case h => ((try simp (disch := omega) only [↓reduceIte, ask_true, ↓X0, X1, Nat.reduceEqDiff, Int.reduceEq, Nat.reduceAdd, Nat.reduceSub, X2, Hp_ne, Nat.reduceLeDiff, eq_self.{1}]); with_reducible exact rfl)) | (apply Wp.andS) | (apply Wp.orS) | ((first | with_reducible apply Wp.gs | with_reducible apply Wp.cs | with_reducible apply Wp.cselX | with_reducible apply Wp.askT | with_reducible apply Wp.iteKT | with_reducible apply Wp.ikb | with_reducible apply Wp.askb); case h => ((try simp (disch := omega) only [↓reduceIte, ask_true, ↓X0, X1, Nat.reduceEqDiff, Int.reduceEq, Nat.reduceAdd, Nat.reduceSub, X2, Hp_ne, Nat.reduceLeDiff, eq_self.{1}]); (first | done | with_reducible exact bT | with_reducible exact bF))) | (with_reducible apply Wp.gu) | (simp only [↓X3]) | (simp (disch := decide) only [asks_nil, asks_in, asks_out, askB_nil, askB_in, askB_out]) | (with_reducible apply Wp.assoc))); try simp only [outOf_exit, outOf_ret]); try (with_reducible apply Wp.cargs; case h => ((try simp (disch := omega) only [↓reduceIte, ask_true, ↓X0, X1, Nat.reduceEqDiff, Int.reduceEq, Nat.reduceAdd, Nat.reduceSub, X2, Hp_ne, Nat.reduceLeDiff, eq_self.{1}]); with_reducible exact rfl)))
      exact Wp.pure rfl
    · simp only [d2] at c2
      refine Wp.rtn c2 ?_
      rintro _ H6 n6 q6 s6 ⟨u6, rfl, id6, t1, t2, t3⟩
      have v6 := (t3.mv (H' := H6.set (n4 + 15) (some (.row [u6] 0 true))) (by intros; first | with_reducible rfl | simp (disch := omega) only [Hp_ne, Hp_same])).lst t2
      have g6 := v6.nAll (i := ((l ++ [bNd bv]).length : Int)) (by omega) (by simp)
      rw [gi_new] at g6
      have v26 := v2.mv (H' := H6.set (n4 + 15) (some (.row [u6] 0 true))) (Nat.le_refl _) (by intros; first | with_reducible rfl | simp (disch := omega) only [Hp_ne, Hp_same, s6, s5, s4])
      have g2 := v26.nAll (i := (l.length : Int)) (by omega) (by simp; omega)
      rw [gi_new] at g2
      cases bv with
      | true =>
        have hw0 : IntKind.i64.wrap (1 - 1) = 0 := by decide
        (((repeat (first | (with_reducible apply Wp.step; case h => ((try simp (disch := omega) only [↓reduceIte, ask_true, ↓X0, X1, Nat.reduceEqDiff, Int.reduceEq, Nat.reduceAdd, Nat.reduceSub, X2, Hp_ne, Nat.reduceLeDiff, g6, g2, s6, s5, b84, bNd_1, bNd_0, bNd_n1, bNd_n0, hw0, eq_self.{1}]); with_reducible exact rfl)) | (apply Wp.andS) | (apply Wp.orS) | ((first | with_reducible apply Wp.gs | with_reducible apply Wp.cs | with_reducible apply Wp.cselX | with_reducible apply Wp.askT | with_reducible apply Wp.iteKT | with_reducible apply Wp.ikb | with_reducible apply Wp.askb); case h => ((try simp (disch := omega) only [↓reduceIte, ask_true, ↓X0, X1, Nat.reduceEqDiff, Int.reduceEq, Nat.reduceAdd, Nat.reduceSub, X2, Hp_ne, Nat.reduceLeDiff, g6, g2, s6, s5, b84, bNd_1, bNd_0, bNd_n1, bNd_n0, hw0, eq_self.{1}]); (first | done | with_reducible exact bT | with_reducible exact bF))) | (with_reducible apply Wp.gu) | (simp only [↓X3]) | (simp (disch := decide) only [asks_nil, asks_in, asks_out, askB_nil, askB_in, askB_out]) | (with_reducible apply Wp.assoc))); try simp only [outOf_exit, outOf_ret]); try (with_reducible apply Wp.cargs; case h => ((try simp (disch := omega) only [↓reduceIte, ask_true, ↓X0, X1, Nat.reduceEqDiff, Int.reduceEq, Nat.reduceAdd, Nat.reduceSub, X2, Hp_ne, Nat.reduceLeDiff, g6, g2, s6, s5, b84, bNd_1, bNd_0, bNd_n1, bNd_n0, hw0, eq_self.{1}]); with_reducible exact rfl)))
        exact Wp.pure rfl
      | false =>
        have hw0 : IntKind.i64.wrap (1 - 0) = 1 := by decide
        (((repeat (first | (with_reducible apply Wp.step; case h => ((try simp (disch := omega) only [↓reduceIte, ask_true, ↓X0, X1, Nat.reduceEqDiff, Int.reduceEq, Nat.reduceAdd, Nat.reduceSub, X2, Hp_ne, Nat.reduceLeDiff, g6, g2, s6, s5, b84, bNd_1, bNd_0, bNd_n1, bNd_n0, hw0, eq_self.{1}]); with_reducible exact rfl)) | (apply Wp.andS) | (apply Wp.orS) | ((first | with_reducible apply Wp.gs | with_reducible apply Wp.cs | with_reducible apply Wp.cselX | with_reducible apply Wp.askT | with_reducible apply Wp.iteKT | with_reducible apply Wp.ikb | with_reducible apply Wp.askb); case h => ((try simp (disch := omega) only [↓reduceIte, ask_true, ↓X0, X1, Nat.reduceEqDiff, Int.reduceEq, Nat.reduceAdd, Nat.reduceSub, X2, Hp_ne, Nat.reduceLeDiff, g6, g2, s6, s5, b84, bNd_1, bNd_0, bNd_n1, bNd_n0, hw0, eq_self.{1}]); (first | done | with_reducible exact bT | with_reducible exact bF))) | (with_reducible apply Wp.gu) | (simp only [↓X3]) | (simp (disch := decide) only [asks_nil, asks_in, asks_out, askB_nil, askB_in, askB_out]) | (with_reducible apply Wp.assoc))); try simp only [outOf_exit, outOf_ret]); try (with_reducible apply Wp.cargs; case h => ((try simp (disch := omega) only [↓reduceIte, ask_true, ↓X0, X1, Nat.reduceEqDiff, Int.reduceEq, Nat.reduceAdd, Nat.reduceSub, X2, Hp_ne, Nat.reduceLeDiff, g6, g2, s6, s5, b84, bNd_1, bNd_0, bNd_n1, bNd_n0, hw0, eq_self.{1}]); with_reducible exact rfl)))
        exact Wp.pure rfl
  (((repeat (first | (with_reducible apply Wp.step; case h => ((try simp (disch := omega) only [↓reduceIte, ask_true, ↓X0, X1, Nat.reduceEqDiff, Int.reduceEq, Nat.reduceAdd, Nat.reduceSub, X2, Hp_ne, Nat.reduceLeDiff, hpo, b54, b84, k6, k1, k12]); with_reducible exact rfl)) | (apply Wp.andS) | (apply Wp.orS) | ((first | with_reducible apply Wp.gs | with_reducible apply Wp.cs | with_reducible apply Wp.cselX | with_reducible apply Wp.askT | with_reducible apply Wp.iteKT | with_reducible apply Wp.ikb | with_reducible apply Wp.askb); case h => ((try simp (disch := omega) only [↓reduceIte, ask_true, ↓X0, X1, Nat.reduceEqDiff, Int.reduceEq, Nat.reduceAdd, Nat.reduceSub, X2, Hp_ne, Nat.reduceLeDiff, hpo, b54, b84, k6, k1, k12]); (first | done | with_reducible exact bT | with_reducible exact bF))) | (with_reducible apply Wp.gu) | (simp only [↓X3]) | (simp (disch := decide) only [asks_nil, asks_in, asks_out, askB_nil, askB_in, askB_out]) | (with_reducible apply Wp.assoc))); try simp only [outOf_exit, outOf_ret]); try (with_reducible apply Wp.cargs; case h => ((try simp (disch := omega) only [↓reduceIte, ask_true, ↓X0, X1, Nat.reduceEqDiff, Int.reduceEq, Nat.reduceAdd, Nat.reduceSub, X2, Hp_ne, Nat.reduceLeDiff, hpo, b54, b84, k6, k1, k12]); with_reducible exact rfl)))
  exact Wp.pure rfl
end Go.Proofs.Ytpiicpcofjhakaa.Ax
