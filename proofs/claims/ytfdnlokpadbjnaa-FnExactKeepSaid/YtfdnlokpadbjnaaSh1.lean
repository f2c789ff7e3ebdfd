/- What the bodies of some functions of the program come to in the abstract machine. -/
import Derived.Test.YtfdnlokpadbjnaaProg
import Derived.Test.YtfdnlokpadbjnaaAx3
set_option linter.unusedVariables false
namespace Go.Proofs.Ytfdnlokpadbjnaa.Ax
open Go
set_option maxRecDepth 100000
/-! 33: impl.Keep -/
noncomputable def S33 (C : Calling) (L : Body → Body) (t : Tm) (H : Hp) (n : Nat) : Option (Value × Hp × Nat) :=
  (vcells (t 0)).bind fun c2 =>
  let H1 := H.set (n) (some (.row c2 0 true))
  let H3 := H1.set (n + 1) (some (.row [nilS] 0 true))
  (ld true 1 (ptr (n) 0) H3).bind fun v4 =>
  (C 73 [v4, t 1] H3 (n + 7)).bind fun q5 =>
  (un .not q5.1).bind fun v6 =>
  csel v6
    ((bld [nilS] []).bind fun v7 =>
     (st true 1 (ptr (n + 1) 0) v7 q5.2.1).bind fun H8 =>
     (ld true 1 (ptr (n + 1) 0) H8).bind fun v9 =>
     iteK ([v9, nilS].all notTup) <|
     some (.tuple ⟨[v9, nilS]⟩, H8, q5.2.2 + 3))
    ((ld true 1 (ptr (n) 0) q5.2.1).bind fun v10 =>
     (C 60 [v10, t 1] q5.2.1 (q5.2.2 + 7)).bind fun q11 =>
     (ext 0 q11.1).bind fun v12 =>
     (ext 1 q11.1).bind fun v13 =>
     (st true 1 (ptr (n + 1) 0) v12 q11.2.1).bind fun H14 =>
     (ld true 1 (ptr (n + 1) 0) H14).bind fun v15 =>
     iteK ([v15, v13].all notTup) <|
     some (.tuple ⟨[v15, v13]⟩, H14, q11.2.2))
theorem s33 (C : Calling) (L : Body → Body) (t : Tm) (H : Hp) (n : Nat) : bodyK Try.prog C L Try.f33 t H n = S33 C L t H n := by kernel_rfl
theorem c33 (args : List Value) (H : Hp) (n : Nat) : Call Try.prog 33 args H n = S33 (Call Try.prog) Loop (argsT args) H n := (Call_body Try.func33 args H n).trans (s33 ..)
/-! 34: laws.eqIntS -/
noncomputable def S34L0 (C : Calling) (L : Body → Body) : Body := fun t H n =>
  (lenV false (t 0)).bind fun v5 =>
  (binK .plain .lss (t 5) v5).bind fun v6 =>
  csel v6
    ((idxA 1 (t 0) (t 5)).bind fun v7 =>
     (ld false 1 v7 H).bind fun v8 =>
     (idxA 1 (t 1) (t 5)).bind fun v9 =>
     (ld false 1 v9 H).bind fun v10 =>
     (binK .plain .neq v8 v10).bind fun v11 =>
     csel v11
       (some ⟨.ret, put (put (put (put (put (put (put (put (put (put (put (put (put (put t 11 (t 5)) 12 (t 0)) 13 v5) 14 v6) 17 (t 0)) 18 (t 5)) 19 v7) 20 v8) 21 (t 1)) 22 (t 5)) 23 v9) 24 v10) 25 v11) 4 (.bool false), H, n + 14⟩)
       ((binK .plain .add (t 5) (.int .i64 1)).bind fun v12 =>
        some ⟨.normal, put (put (put (put (put (put (put (put (put (put (put (put (put (put (put (put t 11 (t 5)) 12 (t 0)) 13 v5) 14 v6) 17 (t 0)) 18 (t 5)) 19 v7) 20 v8) 21 (t 1)) 22 (t 5)) 23 v9) 24 v10) 25 v11) 15 (t 5)) 16 v12) 5 v12, H, n + 16⟩))
    (some ⟨(.exit 0), put (put (put (put t 11 (t 5)) 12 (t 0)) 13 v5) 14 v6, H, n + 4⟩)
noncomputable def S34 (C : Calling) (L : Body → Body) (t : Tm) (H : Hp) (n : Nat) : Option (Value × Hp × Nat) :=
  (lenV false (t 0)).bind fun v1 =>
  (lenV false (t 1)).bind fun v2 =>
  (binK .plain .neq v1 v2).bind fun v3 =>
  csel v3
    (some (.bool false, H, n + 7))
    ((L (S34L0 C L) (put (put (put (put (put (put (put t 4 (.bool false)) 6 (t 0)) 7 v1) 8 (t 1)) 9 v2) 10 v3) 5 (.int .i64 0)) H (n + 7)).bind fun (o4 : Out) =>
     let o13 := outOf 0 o4
     thenK o13
       (some (.bool true, o13.H, o13.n + 1))
       (finE o13.e
          (some (o13.t 4, o13.H, o13.n))))
theorem s34 (C : Calling) (L : Body → Body) (t : Tm) (H : Hp) (n : Nat) : bodyK Try.prog C L Try.f34 t H n = S34 C L t H n := by kernel_rfl
theorem c34 (args : List Value) (H : Hp) (n : Nat) : Call Try.prog 34 args H n = S34 (Call Try.prog) Loop (argsT args) H n := (Call_body Try.func34 args H n).trans (s34 ..)
/-! 35: laws.markIntS -/
noncomputable def S35L0 (C : Calling) (L : Body → Body) : Body := fun t H n =>
  (lenV false (t 0)).bind fun v2 =>
  (binK .plain .lss (t 5) v2).bind fun v3 =>
  csel v3
    ((idxA 1 (t 0) (t 5)).bind fun v4 =>
     (st false 1 v4 (t 1) H).bind fun H5 =>
     (binK .plain .add (t 1) (.int .i64 1)).bind fun v6 =>
     (binK .plain .add (t 5) (.int .i64 1)).bind fun v7 =>
     some ⟨.normal, put (put (put (put (put (put (put (put (put (put (put (put (put (put t 6 (t 5)) 7 (t 0)) 8 v2) 9 v3) 12 (t 0)) 13 (t 5)) 14 (t 1)) 15 v4) 16 (t 1)) 17 v6) 1 v6) 10 (t 5)) 11 v7) 5 v7, H5, n + 15⟩)
    (some ⟨(.exit 0), put (put (put (put t 6 (t 5)) 7 (t 0)) 8 v2) 9 v3, H, n + 4⟩)
noncomputable def S35 (C : Calling) (L : Body → Body) (t : Tm) (H : Hp) (n : Nat) : Option (Value × Hp × Nat) :=
  (L (S35L0 C L) (put (put t 4 (.int .i64 0)) 5 (.int .i64 0)) H (n + 2)).bind fun (o1 : Out) =>
  some (o1.t 1, o1.H, o1.n + 2)
theorem s35 (C : Calling) (L : Body → Body) (t : Tm) (H : Hp) (n : Nat) : bodyK Try.prog C L Try.f35 t H n = S35 C L t H n := by kernel_rfl
theorem c35 (args : List Value) (H : Hp) (n : Nat) : Call Try.prog 35 args H n = S35 (Call Try.prog) Loop (argsT args) H n := (Call_body Try.func35 args H n).trans (s35 ..)
/-! 36: laws.heldIntS -/
noncomputable def S36L0 (C : Calling) (L : Body → Body) : Body := fun t H n =>
  (lenV false (t 0)).bind fun v2 =>
  (binK .plain .lss (t 5) v2).bind fun v3 =>
  csel v3
    ((idxA 1 (t 0) (t 5)).bind fun v4 =>
     (ld false 1 v4 H).bind fun v5 =>
     (binK .plain .neq v5 (t 1)).bind fun v6 =>
     csel v6
       (some ⟨.ret, put (put (put (put (put (put (put (put (put (put (put t 6 (t 5)) 7 (t 0)) 8 v2) 9 v3) 12 (t 0)) 13 (t 5)) 14 v4) 15 v5) 16 (t 1)) 17 v6) 4 (.int .i64 (-1)), H, n + 11⟩)
       ((binK .plain .add (t 1) (.int .i64 1)).bind fun v7 =>
        (binK .plain .add (t 5) (.int .i64 1)).bind fun v8 =>
        some ⟨.normal, put (put (put (put (put (put (put (put (put (put (put (put (put (put (put (put t 6 (t 5)) 7 (t 0)) 8 v2) 9 v3) 12 (t 0)) 13 (t 5)) 14 v4) 15 v5) 16 (t 1)) 17 v6) 18 (t 1)) 19 v7) 1 v7) 10 (t 5)) 11 v8) 5 v8, H, n + 16⟩))
    (some ⟨(.exit 0), put (put (put (put t 6 (t 5)) 7 (t 0)) 8 v2) 9 v3, H, n + 4⟩)
noncomputable def S36 (C : Calling) (L : Body → Body) (t : Tm) (H : Hp) (n : Nat) : Option (Value × Hp × Nat) :=
  (L (S36L0 C L) (put (put t 4 (.int .i64 0)) 5 (.int .i64 0)) H (n + 2)).bind fun (o1 : Out) =>
  let o9 := outOf 0 o1
  thenK o9
    (some (o9.t 1, o9.H, o9.n + 2))
    (finE o9.e
       (some (o9.t 4, o9.H, o9.n)))
theorem s36 (C : Calling) (L : Body → Body) (t : Tm) (H : Hp) (n : Nat) : bodyK Try.prog C L Try.f36 t H n = S36 C L t H n := by kernel_rfl
theorem c36 (args : List Value) (H : Hp) (n : Nat) : Call Try.prog 36 args H n = S36 (Call Try.prog) Loop (argsT args) H n := (Call_body Try.func36 args H n).trans (s36 ..)
/-! 37: spec.DrawCopy -/
noncomputable def S37 (C : Calling) (L : Body → Body) (t : Tm) (H : Hp) (n : Nat) : Option (Value × Hp × Nat) :=
  let H1 := H.set (n) (some (.row [nilS] 0 true))
  let H2 := H1.set (n + 1) (some (.row [nilS] 0 true))
  (C 39 [t 0] H2 (n + 6)).bind fun q3 =>
  (C 40 [q3.1] q3.2.1 (q3.2.2 + 4)).bind fun q4 =>
  let H5 := q4.2.1.set (q3.2.2 + 2) (some (.row [nilS] 0 true))
  (st true 1 (ptr (q3.2.2 + 2) 0) q4.1 H5).bind fun H6 =>
  (C 40 [q3.1] H6 (q4.2.2 + 4)).bind fun q7 =>
  let H8 := q7.2.1.set (q4.2.2 + 2) (some (.row [nilS] 0 true))
  (st true 1 (ptr (q4.2.2 + 2) 0) q7.1 H8).bind fun H9 =>
  (ld true 1 (ptr (q3.2.2 + 2) 0) H9).bind fun v10 =>
  (ld true 1 (ptr (q4.2.2 + 2) 0) H9).bind fun v11 =>
  (ld true 1 (ptr (q4.2.2 + 2) 0) H9).bind fun v12 =>
  (C 42 [q3.1, v12] H9 (q7.2.2 + 8)).bind fun q13 =>
  ask (ld true 1 (ptr (q4.2.2 + 2) 0) q13.2.1 = some v11) <|
  ask (ld true 1 (ptr (q3.2.2 + 2) 0) q13.2.1 = some v10) <|
  (st true 1 (ptr (n) 0) v10 q13.2.1).bind fun H14 =>
  ask (ld true 1 (ptr (q4.2.2 + 2) 0) H14 = some v11) <|
  (st true 1 (ptr (n + 1) 0) v11 H14).bind fun H15 =>
  (ld true 1 (ptr (n) 0) H15).bind fun v16 =>
  (ld true 1 (ptr (n + 1) 0) H15).bind fun v17 =>
  iteK ([v16, v17, q13.1].all notTup) <|
  some (.tuple ⟨[v16, v17, q13.1]⟩, H15, q13.2.2)
theorem s37 (C : Calling) (L : Body → Body) (t : Tm) (H : Hp) (n : Nat) : bodyK Try.prog C L Try.f37 t H n = S37 C L t H n := by kernel_rfl
theorem c37 (args : List Value) (H : Hp) (n : Nat) : Call Try.prog 37 args H n = S37 (Call Try.prog) Loop (argsT args) H n := (Call_body Try.func37 args H n).trans (s37 ..)
/-! 38: impl.PoolOk -/
noncomputable def S38L0 (C : Calling) (L : Body → Body) : Body := fun t H n =>
  (binK .plain .lss (t 8) (t 7)).bind fun v7 =>
  csel v7
    ((idxA 5 (t 6) (t 8)).bind fun v8 =>
     (ld true 5 v8 H).bind fun v9 =>
     let H10 := H.set (n + 4) (some (.row [.int .i64 0, .int .i64 0, .string ⟨#[]⟩, .int .i64 0, .int .i64 0] 0 true))
     (st true 5 (ptr (n + 4) 0) v9 H10).bind fun H11 =>
     (ld true 5 (ptr (n + 4) 0) H11).bind fun v12 =>
     (C 74 [v12, t 8] H11 (n + 11)).bind fun q13 =>
     (un .not q13.1).bind fun v14 =>
     csel v14
       (some ⟨.ret, put (put (put (put (put (put (put (put (put (put (put t 9 v7) 10 (t 8)) 11 v8) 12 v9) 4 (ptr (n + 4) 0)) 3 (t 8)) 13 v12) 14 (t 8)) 15 q13.1) 16 v14) 2 (.bool false), q13.2.1, q13.2.2 + 1⟩)
       ((binK .plain .add (t 8) (.int .i64 1)).bind fun v15 =>
        some ⟨.normal, put (put (put (put (put (put (put (put (put (put (put (put t 9 v7) 10 (t 8)) 11 v8) 12 v9) 4 (ptr (n + 4) 0)) 3 (t 8)) 13 v12) 14 (t 8)) 15 q13.1) 16 v14) 17 v15) 8 v15, q13.2.1, q13.2.2 + 2⟩))
    (some ⟨(.exit 0), put t 9 v7, H, n + 1⟩)
noncomputable def S38 (C : Calling) (L : Body → Body) (t : Tm) (H : Hp) (n : Nat) : Option (Value × Hp × Nat) :=
  (vcells (t 0)).bind fun c2 =>
  let H1 := H.set (n) (some (.row c2 0 true))
  (fieldA 0 (ptr (n) 0)).bind fun v3 =>
  (ld false 1 v3 H1).bind fun v4 =>
  (lenV false v4).bind fun v5 =>
  (L (S38L0 C L) (put (put (put (put (put (put t 1 (ptr (n) 0)) 2 (.bool false)) 5 v3) 6 v4) 7 v5) 8 (.int .i64 0)) H1 (n + 6)).bind fun (o6 : Out) =>
  let o16 := outOf 0 o6
  thenK o16
    ((fieldA 0 (o16.t 1)).bind fun v17 =>
     (ld false 1 v17 o16.H).bind fun v18 =>
     (lenV false v18).bind fun v19 =>
     (binK .plain .leq v19 (.int .i64 3000)).bind fun v20 =>
     some (v20, o16.H, o16.n + 5))
    (finE o16.e
       (some (o16.t 2, o16.H, o16.n)))
theorem s38 (C : Calling) (L : Body → Body) (t : Tm) (H : Hp) (n : Nat) : bodyK Try.prog C L Try.f38 t H n = S38 C L t H n := by kernel_rfl
theorem c38 (args : List Value) (H : Hp) (n : Nat) : Call Try.prog 38 args H n = S38 (Call Try.prog) Loop (argsT args) H n := (Call_body Try.func38 args H n).trans (s38 ..)
/-! 39: spec.l1New -/
noncomputable def S39L0 (C : Calling) (L : Body → Body) : Body := fun t H n =>
  (lenV false (t 0)).bind fun v4 =>
  (binK .plain .lss (t 4) v4).bind fun v5 =>
  let t7 : Tm := put (put (put (put (put t 8 (t 4)) 9 (t 0)) 10 v4) 11 v5) 12 v5
  (gsel v5 true
    ((binK .plain .lss (t7 4) (.int .i64 4000)).bind fun v8 =>
     some (put (put t7 13 (t7 4)) 14 v8, H, n + 8))
    (some (put (put t7 13 (.tuple #[])) 14 (.tuple #[]), H, n + 8))
  ).bind fun (q6 : R3) =>
  (pickV (q6.1 12) (q6.1 14) (.bool false)).bind fun v9 =>
  csel v9
    ((binK .plain .mul (q6.1 3) (.int .i64 131)).bind fun v10 =>
     (idxA 1 (q6.1 0) (q6.1 4)).bind fun v11 =>
     (ld false 1 v11 q6.2.1).bind fun v12 =>
     (conv (.toInt .i64) (q6.2.2 + 6) v12 q6.2.1).bind fun p13 =>
     (binK .plain .add v10 p13.1).bind fun v14 =>
     (binK .plain .add v14 (.int .i64 7)).bind fun v15 =>
     (binK .plain .and v15 (.int .i64 1073741823)).bind fun v16 =>
     (binK .plain .add (q6.1 4) (.int .i64 1)).bind fun v17 =>
     some ⟨.normal, put (put (put (put (put (put (put (put (put (put (put (put (put (put (put q6.1 15 v9) 18 (q6.1 3)) 19 v10) 20 (q6.1 0)) 21 (q6.1 4)) 22 v11) 23 v12) 24 p13.1) 25 v14) 26 v15) 27 v16) 3 v16) 16 (q6.1 4)) 17 v17) 4 v17, p13.2, q6.2.2 + 14⟩)
    (some ⟨(.exit 0), put q6.1 15 v9, q6.2.1, q6.2.2⟩)
noncomputable def S39 (C : Calling) (L : Body → Body) (t : Tm) (H : Hp) (n : Nat) : Option (Value × Hp × Nat) :=
  (lenV false (t 0)).bind fun v1 =>
  (binK .plain .add (.int .i64 17000) v1).bind fun v2 =>
  (L (S39L0 C L) (put (put (put (put (put (put t 2 (.pointer none)) 5 (t 0)) 6 v1) 7 v2) 3 v2) 4 (.int .i64 0)) H (n + 6)).bind fun (o3 : Out) =>
  (bld [nilS, .int .i64 0, .int .i64 0] [(0, 1, o3.t 0), (2, 1, o3.t 3)]).bind fun v18 =>
  (vcells v18).bind fun c20 =>
  let H19 := o3.H.set (o3.n + 3) (some (.row c20 0 true))
  some (ptr (o3.n + 3) 0, H19, o3.n + 5)
theorem s39 (C : Calling) (L : Body → Body) (t : Tm) (H : Hp) (n : Nat) : bodyK Try.prog C L Try.f39 t H n = S39 C L t H n := by kernel_rfl
theorem c39 (args : List Value) (H : Hp) (n : Nat) : Call Try.prog 39 args H n = S39 (Call Try.prog) Loop (argsT args) H n := (Call_body Try.func39 args H n).trans (s39 ..)
/-! 40: spec.l2Draw -/
noncomputable def S40L0 (C : Calling) (L : Body → Body) : Body := fun t H n =>
  (fieldA 0 (t 3)).bind fun v37 =>
  (ld false 1 v37 H).bind fun v38 =>
  (lenV false v38).bind fun v39 =>
  (binK .plain .lss (t 5) v39).bind fun v40 =>
  csel v40
    ((fieldA 0 (t 3)).bind fun v41 =>
     (ld false 1 v41 H).bind fun v42 =>
     (idxA 5 v42 (t 5)).bind fun v43 =>
     (fieldA 0 v43).bind fun v44 =>
     (st false 1 v44 (.int .i64 1) H).bind fun H45 =>
     (binK .plain .add (t 5) (.int .i64 1)).bind fun v46 =>
     some ⟨.normal, put (put (put (put (put (put (put (put (put (put (put (put (put t 39 (t 5)) 40 v37) 41 v38) 42 v39) 43 v40) 46 v41) 47 v42) 48 (t 5)) 49 v43) 50 v44) 44 (t 5)) 45 v46) 5 v46, H45, n + 14⟩)
    (some ⟨(.exit 0), put (put (put (put (put t 39 (t 5)) 40 v37) 41 v38) 42 v39) 43 v40, H, n + 5⟩)
noncomputable def S40 (C : Calling) (L : Body → Body) (t : Tm) (H : Hp) (n : Nat) : Option (Value × Hp × Nat) :=
  let H1 := H.set (n) (some (.row [nilS] 0 true))
  (C 75 [t 0] H1 (n + 5)).bind fun q2 =>
  let H3 := q2.2.1.set (n + 3) (some (.row [nilS] 0 true))
  (st true 1 (ptr (n + 3) 0) q2.1 H3).bind fun H4 =>
  (fieldA 0 (ptr (n + 3) 0)).bind fun v5 =>
  (ld false 1 v5 H4).bind fun v6 =>
  (lenV false v6).bind fun v7 =>
  (binK .plain .gtr v7 (.int .i64 0)).bind fun v8 =>
  let t10 : Tm := put (put (put (put (put (put (put (put (put t 2 (ptr (n) 0)) 6 (t 0)) 7 q2.1) 3 (ptr (n + 3) 0)) 8 v5) 9 v6) 10 v7) 11 v8) 12 v8
  (gsel v8 true
    ((C 54 [t10 0, .int .i64 12] H4 (q2.2.2 + 8)).bind fun q11 =>
     some (put (put t10 13 (t10 0)) 14 q11.1, q11.2.1, q11.2.2))
    (some (put (put t10 13 (.tuple #[])) 14 (.tuple #[]), H4, q2.2.2 + 8))
  ).bind fun (q9 : R3) =>
  (pickV (q9.1 12) (q9.1 14) (.bool false)).bind fun v12 =>
  let t14 : Tm := put q9.1 15 v12
  (csel v12
    ((fieldA 0 (t14 3)).bind fun v15 =>
     (ld false 1 v15 q9.2.1).bind fun v16 =>
     (lenV false v16).bind fun v17 =>
     (C 41 [t14 0, v17] q9.2.1 (q9.2.2 + 6)).bind fun q18 =>
     (fieldA 0 (t14 3)).bind fun v19 =>
     (ld false 1 v19 q18.2.1).bind fun v20 =>
     (fieldA 0 (t14 3)).bind fun v21 =>
     (ld false 1 v21 q18.2.1).bind fun v22 =>
     (idxA 5 v22 q18.1).bind fun v23 =>
     (ld true 5 v23 q18.2.1).bind fun v24 =>
     (C 76 [t14 0, v24] q18.2.1 (q18.2.2 + 12)).bind fun q25 =>
     ask (ld false 1 v19 q25.2.1 = some v20) <|
     (idxA 5 v20 q18.1).bind fun v26 =>
     (st true 5 v26 q25.1 q25.2.1).bind fun H27 =>
     some ⟨.normal, put (put (put (put (put (put (put (put (put (put (put (put (put (put (put (put (put t14 16 (t14 0)) 17 v15) 18 v16) 19 v17) 20 q18.1) 4 q18.1) 21 v19) 22 v20) 23 q18.1) 24 (t14 0)) 25 v21) 26 v22) 27 q18.1) 28 v23) 29 v24) 30 q25.1) 31 v26, H27, q25.2.2⟩)
    (some ⟨.normal, t14, q9.2.1, q9.2.2⟩)
  ).bind fun (o13 : Out) =>
  (C 54 [o13.t 0, .int .i64 60] o13.H (o13.n + 2)).bind fun q28 =>
  let t30 : Tm := put (put o13.t 32 (o13.t 0)) 33 q28.1
  (csel q28.1
    ((C 41 [t30 0, .int .i64 2] q28.2.1 (q28.2.2 + 6)).bind fun q31 =>
     (binK .plain .add (.int .i64 3000) q31.1).bind fun v32 =>
     (mks (q28.2.2 + 3) 5 48 [.int .i64 0, .int .i64 0, .string ⟨#[]⟩, .int .i64 0, .int .i64 0] v32 v32 q31.2.1).bind fun p33 =>
     (fieldA 0 (t30 3)).bind fun v34 =>
     (st false 1 v34 p33.1 p33.2).bind fun H35 =>
     (L (S40L0 C L) (put (put (put (put (put (put t30 34 (t30 0)) 35 q31.1) 36 v32) 37 p33.1) 38 v34) 5 (.int .i64 0)) H35 (q31.2.2 + 1)).bind fun (o36 : Out) =>
     some ⟨.normal, o36.t, o36.H, o36.n⟩)
    (some ⟨.normal, t30, q28.2.1, q28.2.2⟩)
  ).bind fun (o29 : Out) =>
  (ld true 1 (o29.t 3) o29.H).bind fun v47 =>
  (st true 1 (o29.t 2) v47 o29.H).bind fun H48 =>
  (ld true 1 (o29.t 2) H48).bind fun v49 =>
  some (v49, H48, o29.n + 2)
theorem s40 (C : Calling) (L : Body → Body) (t : Tm) (H : Hp) (n : Nat) : bodyK Try.prog C L Try.f40 t H n = S40 C L t H n := by kernel_rfl
theorem c40 (args : List Value) (H : Hp) (n : Nat) : Call Try.prog 40 args H n = S40 (Call Try.prog) Loop (argsT args) H n := (Call_body Try.func40 args H n).trans (s40 ..)
/-! 41: spec.l1Below -/
noncomputable def S41 (C : Calling) (L : Body → Body) (t : Tm) (H : Hp) (n : Nat) : Option (Value × Hp × Nat) :=
  (binK .plain .leq (t 1) (.int .i64 0)).bind fun v1 =>
  csel v1
    (some (.int .i64 0, H, n + 4))
    ((binK .plain .leq (t 1) (.int .i64 256)).bind fun v2 =>
     csel v2
       ((C 77 [t 0] H (n + 10)).bind fun q3 =>
        (binK .plain .rem q3.1 (t 1)).bind fun v4 =>
        some (v4, q3.2.1, q3.2.2))
       ((C 77 [t 0] H (n + 8)).bind fun q5 =>
        (C 77 [t 0] q5.2.1 (q5.2.2 + 3)).bind fun q6 =>
        (C 77 [t 0] q6.2.1 (q6.2.2 + 3)).bind fun q7 =>
        (C 77 [t 0] q7.2.1 (q7.2.2 + 3)).bind fun q8 =>
        (binK .plain .mul q5.1 (.int .i64 16777216)).bind fun v9 =>
        (binK .plain .mul q6.1 (.int .i64 65536)).bind fun v10 =>
        (binK .plain .add v9 v10).bind fun v11 =>
        (binK .plain .mul q7.1 (.int .i64 256)).bind fun v12 =>
        (binK .plain .add v11 v12).bind fun v13 =>
        (binK .plain .add v13 q8.1).bind fun v14 =>
        (binK .plain .rem v14 (t 1)).bind fun v15 =>
        some (v15, q8.2.1, q8.2.2 + 13)))
theorem s41 (C : Calling) (L : Body → Body) (t : Tm) (H : Hp) (n : Nat) : bodyK Try.prog C L Try.f41 t H n = S41 C L t H n := by kernel_rfl
theorem c41 (args : List Value) (H : Hp) (n : Nat) : Call Try.prog 41 args H n = S41 (Call Try.prog) Loop (argsT args) H n := (Call_body Try.func41 args H n).trans (s41 ..)
/-! 42: spec.l2DrawAt -/
noncomputable def S42 (C : Calling) (L : Body → Body) (t : Tm) (H : Hp) (n : Nat) : Option (Value × Hp × Nat) :=
  (vcells (t 1)).bind fun c2 =>
  let H1 := H.set (n) (some (.row c2 0 true))
  (fieldA 0 (ptr (n) 0)).bind fun v3 =>
  (ld false 1 v3 H1).bind fun v4 =>
  (lenV false v4).bind fun v5 =>
  (binK .plain .eql v5 (.int .i64 0)).bind fun v6 =>
  let t8 : Tm := put (put (put (put (put (put (put t 3 (ptr (n) 0)) 4 (.int .i64 0)) 5 v3) 6 v4) 7 v5) 8 v6) 9 v6
  (gsel v6 false
    ((C 54 [t8 0, .int .i64 20] H1 (n + 10)).bind fun q9 =>
     some (put (put t8 10 (t8 0)) 11 q9.1, q9.2.1, q9.2.2))
    (some (put (put t8 10 (.tuple #[])) 11 (.tuple #[]), H1, n + 10))
  ).bind fun (q7 : R3) =>
  (pickV (q7.1 9) (.bool true) (q7.1 11)).bind fun v10 =>
  csel v10
    ((fieldA 0 (q7.1 3)).bind fun v11 =>
     (ld false 1 v11 q7.2.1).bind fun v12 =>
     (lenV false v12).bind fun v13 =>
     (bsl (q7.2.2 + 4) 1 3 [.int .i64 0] [(0, 1, .int .i64 (-1)), (1, 1, .int .i64 0), (2, 1, v13)] q7.2.1).bind fun p14 =>
     (C 78 [q7.1 0, p14.1] p14.2 (q7.2.2 + 7)).bind fun q15 =>
     some (q15.1, q15.2.1, q15.2.2))
    ((fieldA 0 (q7.1 3)).bind fun v16 =>
     (ld false 1 v16 q7.2.1).bind fun v17 =>
     (lenV false v17).bind fun v18 =>
     (binK .plain .sub v18 (.int .i64 1)).bind fun v19 =>
     (fieldA 0 (q7.1 3)).bind fun v20 =>
     (ld false 1 v20 q7.2.1).bind fun v21 =>
     (lenV false v21).bind fun v22 =>
     (C 79 [v22, .int .i64 9] q7.2.1 (q7.2.2 + 12)).bind fun q23 =>
     ask (ld false 1 v16 q23.2.1 = some v17) <|
     (C 41 [q7.1 0, q23.1] q23.2.1 (q23.2.2)).bind fun q24 =>
     ask (ld false 1 v16 q24.2.1 = some v17) <|
     (binK .plain .sub v19 q24.1).bind fun v25 =>
     some (v25, q24.2.1, q24.2.2))
theorem s42 (C : Calling) (L : Body → Body) (t : Tm) (H : Hp) (n : Nat) : bodyK Try.prog C L Try.f42 t H n = S42 C L t H n := by kernel_rfl
theorem c42 (args : List Value) (H : Hp) (n : Nat) : Call Try.prog 42 args H n = S42 (Call Try.prog) Loop (argsT args) H n := (Call_body Try.func42 args H n).trans (s42 ..)
/-! 43: impl.copyPool -/
noncomputable def S43 (C : Calling) (L : Body → Body) (t : Tm) (H : Hp) (n : Nat) : Option (Value × Hp × Nat) :=
  (vcells (t 0)).bind fun c2 =>
  let H1 := H.set (n) (some (.row c2 0 true))
  let H3 := H1.set (n + 1) (some (.row [nilS] 0 true))
  (fieldA 0 (ptr (n) 0)).bind fun v4 =>
  (ld false 1 v4 H3).bind fun v5 =>
  (C 80 [v5] H3 (n + 7)).bind fun q6 =>
  (bld [nilS] [(0, 1, q6.1)]).bind fun v7 =>
  (st true 1 (ptr (n + 1) 0) v7 q6.2.1).bind fun H8 =>
  (ld true 1 (ptr (n + 1) 0) H8).bind fun v9 =>
  some (v9, H8, q6.2.2)
theorem s43 (C : Calling) (L : Body → Body) (t : Tm) (H : Hp) (n : Nat) : bodyK Try.prog C L Try.f43 t H n = S43 C L t H n := by kernel_rfl
theorem c43 (args : List Value) (H : Hp) (n : Nat) : Call Try.prog 43 args H n = S43 (Call Try.prog) Loop (argsT args) H n := (Call_body Try.func43 args H n).trans (s43 ..)
/-! 44: slices.ContainsFunc[[]int,int] -/
noncomputable def S44 (C : Calling) (L : Body → Body) (t : Tm) (H : Hp) (n : Nat) : Option (Value × Hp × Nat) :=
  (C 81 [t 0, t 1] H (n + 6)).bind fun q1 =>
  (binK .plain .geq q1.1 (.int .i64 0)).bind fun v2 =>
  some (v2, q1.2.1, q1.2.2)
theorem s44 (C : Calling) (L : Body → Body) (t : Tm) (H : Hp) (n : Nat) : bodyK Try.prog C L Try.f44 t H n = S44 C L t H n := by kernel_rfl
theorem c44 (args : List Value) (H : Hp) (n : Nat) : Call Try.prog 44 args H n = S44 (Call Try.prog) Loop (argsT args) H n := (Call_body Try.func44 args H n).trans (s44 ..)
/-! 45: impl.MakeList$1 -/
noncomputable def S45 (C : Calling) (L : Body → Body) (t : Tm) (H : Hp) (n : Nat) : Option (Value × Hp × Nat) :=
  (ld true 1 (t 1) H).bind fun v1 =>
  (C 46 [v1, t 0] H (n + 6)).bind fun q2 =>
  (un .not q2.1).bind fun v3 =>
  some (v3, q2.2.1, q2.2.2)
theorem s45 (C : Calling) (L : Body → Body) (t : Tm) (H : Hp) (n : Nat) : bodyK Try.prog C L Try.f45 t H n = S45 C L t H n := by kernel_rfl
theorem c45 (args : List Value) (H : Hp) (n : Nat) : Call Try.prog 45 args H n = S45 (Call Try.prog) Loop (argsT args) H n := (Call_body Try.func45 args H n).trans (s45 ..)
/-! 46: impl.isNode -/
noncomputable def S46 (C : Calling) (L : Body → Body) (t : Tm) (H : Hp) (n : Nat) : Option (Value × Hp × Nat) :=
  (vcells (t 0)).bind fun c2 =>
  let H1 := H.set (n) (some (.row c2 0 true))
  (fieldA 0 (ptr (n) 0)).bind fun v3 =>
  (ld false 1 v3 H1).bind fun v4 =>
  (lenV false v4).bind fun v5 =>
  (binK .plain .sub v5 (.int .i64 1)).bind fun v6 =>
  (C 82 [t 1, .int .i64 0, v6] H1 (n + 9)).bind fun q7 =>
  some (q7.1, q7.2.1, q7.2.2)
theorem s46 (C : Calling) (L : Body → Body) (t : Tm) (H : Hp) (n : Nat) : bodyK Try.prog C L Try.f46 t H n = S46 C L t H n := by kernel_rfl
theorem c46 (args : List Value) (H : Hp) (n : Nat) : Call Try.prog 46 args H n = S46 (Call Try.prog) Loop (argsT args) H n := (Call_body Try.func46 args H n).trans (s46 ..)
/-! 47: impl.Pool).list -/
noncomputable def S47L0 (C : Calling) (L : Body → Body) : Body := fun t H n =>
  (binK .plain .geq (t 6) (.int .i64 0)).bind fun v6 =>
  csel v6
    ((idxA 1 (t 1) (t 6)).bind fun v7 =>
     (ld false 1 v7 H).bind fun v8 =>
     (C 84 [t 0, v8, t 5] H (n + 10)).bind fun q9 =>
     (binK .plain .sub (t 6) (.int .i64 1)).bind fun v10 =>
     some ⟨.normal, put (put (put (put (put (put (put (put (put (put (put (put (put t 13 (t 6)) 14 v6) 17 (t 0)) 18 (t 1)) 19 (t 6)) 20 v7) 21 v8) 22 (t 5)) 23 q9.1) 5 q9.1) 15 (t 6)) 16 v10) 6 v10, q9.2.1, q9.2.2 + 3⟩)
    (some ⟨(.exit 0), put (put t 13 (t 6)) 14 v6, H, n + 2⟩)
noncomputable def S47 (C : Calling) (L : Body → Body) (t : Tm) (H : Hp) (n : Nat) : Option (Value × Hp × Nat) :=
  (bld [.int .i64 0, .int .i64 0, .string ⟨#[]⟩, .int .i64 0, .int .i64 0] [(0, 1, .int .i64 1)]).bind fun v1 =>
  (C 83 [t 0, v1] H (n + 5)).bind fun q2 =>
  (lenV false (t 1)).bind fun v3 =>
  (binK .plain .sub v3 (.int .i64 1)).bind fun v4 =>
  (L (S47L0 C L) (put (put (put (put (put (put (put (put (put t 4 (.int .i64 0)) 7 (t 0)) 8 v1) 9 q2.1) 5 q2.1) 10 (t 1)) 11 v3) 12 v4) 6 v4) q2.2.1 (q2.2.2 + 4)).bind fun (o5 : Out) =>
  some (o5.t 5, o5.H, o5.n + 2)
theorem s47 (C : Calling) (L : Body → Body) (t : Tm) (H : Hp) (n : Nat) : bodyK Try.prog C L Try.f47 t H n = S47 C L t H n := by kernel_rfl
theorem c47 (args : List Value) (H : Hp) (n : Nat) : Call Try.prog 47 args H n = S47 (Call Try.prog) Loop (argsT args) H n := (Call_body Try.func47 args H n).trans (s47 ..)
/-! 48: impl.settled -/
noncomputable def S48 (C : Calling) (L : Body → Body) (t : Tm) (H : Hp) (n : Nat) : Option (Value × Hp × Nat) :=
  (vcells (t 0)).bind fun c2 =>
  let H1 := H.set (n) (some (.row c2 0 true))
  (vcells (t 1)).bind fun c4 =>
  let H3 := H1.set (n + 1) (some (.row c4 0 true))
  let H5 := H3.set (n + 2) (some (.row [nilS] 0 true))
  (ld true 1 (ptr (n + 1) 0) H5).bind fun v6 =>
  (C 38 [v6] H5 (n + 7)).bind fun q7 =>
  (un .not q7.1).bind fun v8 =>
  csel v8
    ((ld true 1 (ptr (n) 0) q7.2.1).bind fun v9 =>
     (C 43 [v9] q7.2.1 (q7.2.2 + 4)).bind fun q10 =>
     (st true 1 (ptr (n + 2) 0) q10.1 q10.2.1).bind fun H11 =>
     (ld true 1 (ptr (n + 2) 0) H11).bind fun v12 =>
     iteK ([v12, .int .i64 (-1)].all notTup) <|
     some (.tuple ⟨[v12, .int .i64 (-1)]⟩, H11, q10.2.2))
    ((ld true 1 (ptr (n + 1) 0) q7.2.1).bind fun v13 =>
     (st true 1 (ptr (n + 2) 0) v13 q7.2.1).bind fun H14 =>
     (ld true 1 (ptr (n + 2) 0) H14).bind fun v15 =>
     iteK ([v15, t 2].all notTup) <|
     some (.tuple ⟨[v15, t 2]⟩, H14, q7.2.2 + 4))
theorem s48 (C : Calling) (L : Body → Body) (t : Tm) (H : Hp) (n : Nat) : bodyK Try.prog C L Try.f48 t H n = S48 C L t H n := by kernel_rfl
theorem c48 (args : List Value) (H : Hp) (n : Nat) : Call Try.prog 48 args H n = S48 (Call Try.prog) Loop (argsT args) H n := (Call_body Try.func48 args H n).trans (s48 ..)
/-! 49: spec.PoolOk -/
noncomputable def S49L0 (C : Calling) (L : Body → Body) : Body := fun t H n =>
  (fieldA 0 (t 1)).bind fun v4 =>
  (ld false 1 v4 H).bind fun v5 =>
  (lenV false v5).bind fun v6 =>
  (binK .plain .lss (t 3) v6).bind fun v7 =>
  csel v7
    ((fieldA 0 (t 1)).bind fun v8 =>
     (ld false 1 v8 H).bind fun v9 =>
     (idxA 5 v9 (t 3)).bind fun v10 =>
     (ld true 5 v10 H).bind fun v11 =>
     (C 85 [v11, t 3] H (n + 13)).bind fun q12 =>
     (un .not q12.1).bind fun v13 =>
     csel v13
       (some ⟨.ret, put (put (put (put (put (put (put (put (put (put (put (put (put (put t 4 (t 3)) 5 v4) 6 v5) 7 v6) 8 v7) 11 v8) 12 v9) 13 (t 3)) 14 v10) 15 v11) 16 (t 3)) 17 q12.1) 18 v13) 2 (.bool false), q12.2.1, q12.2.2 + 1⟩)
       ((binK .plain .add (t 3) (.int .i64 1)).bind fun v14 =>
        some ⟨.normal, put (put (put (put (put (put (put (put (put (put (put (put (put (put (put (put t 4 (t 3)) 5 v4) 6 v5) 7 v6) 8 v7) 11 v8) 12 v9) 13 (t 3)) 14 v10) 15 v11) 16 (t 3)) 17 q12.1) 18 v13) 9 (t 3)) 10 v14) 3 v14, q12.2.1, q12.2.2 + 3⟩))
    (some ⟨(.exit 0), put (put (put (put (put t 4 (t 3)) 5 v4) 6 v5) 7 v6) 8 v7, H, n + 5⟩)
noncomputable def S49 (C : Calling) (L : Body → Body) (t : Tm) (H : Hp) (n : Nat) : Option (Value × Hp × Nat) :=
  (vcells (t 0)).bind fun c2 =>
  let H1 := H.set (n) (some (.row c2 0 true))
  (L (S49L0 C L) (put (put (put t 1 (ptr (n) 0)) 2 (.bool false)) 3 (.int .i64 0)) H1 (n + 3)).bind fun (o3 : Out) =>
  let o15 := outOf 0 o3
  thenK o15
    ((fieldA 0 (o15.t 1)).bind fun v16 =>
     (ld false 1 v16 o15.H).bind fun v17 =>
     (lenV false v17).bind fun v18 =>
     (binK .plain .leq v18 (.int .i64 3000)).bind fun v19 =>
     some (v19, o15.H, o15.n + 5))
    (finE o15.e
       (some (o15.t 2, o15.H, o15.n)))
theorem s49 (C : Calling) (L : Body → Body) (t : Tm) (H : Hp) (n : Nat) : bodyK Try.prog C L Try.f49 t H n = S49 C L t H n := by kernel_rfl
theorem c49 (args : List Value) (H : Hp) (n : Nat) : Call Try.prog 49 args H n = S49 (Call Try.prog) Loop (argsT args) H n := (Call_body Try.func49 args H n).trans (s49 ..)
/-! 50: spec.l2Has -/
noncomputable def S50 (C : Calling) (L : Body → Body) (t : Tm) (H : Hp) (n : Nat) : Option (Value × Hp × Nat) :=
  (vcells (t 0)).bind fun c2 =>
  let H1 := H.set (n) (some (.row c2 0 true))
  (fieldA 0 (ptr (n) 0)).bind fun v3 =>
  (ld false 1 v3 H1).bind fun v4 =>
  (lenV false v4).bind fun v5 =>
  (binK .plain .sub v5 (.int .i64 1)).bind fun v6 =>
  (C 86 [t 1, .int .i64 0, v6] H1 (n + 9)).bind fun q7 =>
  some (q7.1, q7.2.1, q7.2.2)
theorem s50 (C : Calling) (L : Body → Body) (t : Tm) (H : Hp) (n : Nat) : bodyK Try.prog C L Try.f50 t H n = S50 C L t H n := by kernel_rfl
theorem c50 (args : List Value) (H : Hp) (n : Nat) : Call Try.prog 50 args H n = S50 (Call Try.prog) Loop (argsT args) H n := (Call_body Try.func50 args H n).trans (s50 ..)
/-! 51: spec.l2Copy -/
noncomputable def S51 (C : Calling) (L : Body → Body) (t : Tm) (H : Hp) (n : Nat) : Option (Value × Hp × Nat) :=
  (vcells (t 0)).bind fun c2 =>
  let H1 := H.set (n) (some (.row c2 0 true))
  let H3 := H1.set (n + 1) (some (.row [nilS] 0 true))
  (bsl (n + 2) 5 0 [.int .i64 0, .int .i64 0, .string ⟨#[]⟩, .int .i64 0, .int .i64 0] [] H3).bind fun p4 =>
  (fieldA 0 (ptr (n) 0)).bind fun v5 =>
  (ld false 1 v5 p4.2).bind fun v6 =>
  (app (n + 5) 5 48 p4.1 v6 p4.2).bind fun p7 =>
  (bld [nilS] [(0, 1, p7.1)]).bind fun v8 =>
  (st true 1 (ptr (n + 1) 0) v8 p7.2).bind fun H9 =>
  (ld true 1 (ptr (n + 1) 0) H9).bind fun v10 =>
  some (v10, H9, n + 8)
theorem s51 (C : Calling) (L : Body → Body) (t : Tm) (H : Hp) (n : Nat) : bodyK Try.prog C L Try.f51 t H n = S51 C L t H n := by kernel_rfl
theorem c51 (args : List Value) (H : Hp) (n : Nat) : Call Try.prog 51 args H n = S51 (Call Try.prog) Loop (argsT args) H n := (Call_body Try.func51 args H n).trans (s51 ..)
/-! 52: spec.l2List -/
noncomputable def S52L0 (C : Calling) (L : Body → Body) : Body := fun t H n =>
  (binK .plain .geq (t 6) (.int .i64 0)).bind fun v6 =>
  csel v6
    ((idxA 1 (t 1) (t 6)).bind fun v7 =>
     (ld false 1 v7 H).bind fun v8 =>
     (bld [.int .i64 0, .int .i64 0, .string ⟨#[]⟩, .int .i64 0, .int .i64 0] [(0, 1, .int .i64 5), (3, 1, v8), (4, 1, t 5)]).bind fun v9 =>
     (C 63 [t 0, v9] H (n + 11)).bind fun q10 =>
     (binK .plain .sub (t 6) (.int .i64 1)).bind fun v11 =>
     some ⟨.normal, put (put (put (put (put (put (put (put (put (put (put (put (put (put t 13 (t 6)) 14 v6) 17 (t 0)) 18 (t 1)) 19 (t 6)) 20 v7) 21 v8) 22 (t 5)) 23 v9) 24 q10.1) 5 q10.1) 15 (t 6)) 16 v11) 6 v11, q10.2.1, q10.2.2 + 3⟩)
    (some ⟨(.exit 0), put (put t 13 (t 6)) 14 v6, H, n + 2⟩)
noncomputable def S52 (C : Calling) (L : Body → Body) (t : Tm) (H : Hp) (n : Nat) : Option (Value × Hp × Nat) :=
  (bld [.int .i64 0, .int .i64 0, .string ⟨#[]⟩, .int .i64 0, .int .i64 0] [(0, 1, .int .i64 1)]).bind fun v1 =>
  (C 63 [t 0, v1] H (n + 5)).bind fun q2 =>
  (lenV false (t 1)).bind fun v3 =>
  (binK .plain .sub v3 (.int .i64 1)).bind fun v4 =>
  (L (S52L0 C L) (put (put (put (put (put (put (put (put (put t 4 (.int .i64 0)) 7 (t 0)) 8 v1) 9 q2.1) 5 q2.1) 10 (t 1)) 11 v3) 12 v4) 6 v4) q2.2.1 (q2.2.2 + 4)).bind fun (o5 : Out) =>
  some (o5.t 5, o5.H, o5.n + 2)
theorem s52 (C : Calling) (L : Body → Body) (t : Tm) (H : Hp) (n : Nat) : bodyK Try.prog C L Try.f52 t H n = S52 C L t H n := by kernel_rfl
theorem c52 (args : List Value) (H : Hp) (n : Nat) : Call Try.prog 52 args H n = S52 (Call Try.prog) Loop (argsT args) H n := (Call_body Try.func52 args H n).trans (s52 ..)
/-! 53: impl.Pool).listOf -/
noncomputable def S53L0 (C : Calling) (L : Body → Body) : Body := fun t H n =>
  (nilchk (t 0)).bind fun v3 =>
  (fieldA 0 v3).bind fun v4 =>
  (ld false 1 v4 H).bind fun v5 =>
  (idxA 5 v5 (t 1)).bind fun v6 =>
  (fieldA 0 v6).bind fun v7 =>
  (ld false 1 v7 H).bind fun v8 =>
  (binK .plain .eql v8 (.int .i64 5)).bind fun v9 =>
  csel v9
    ((nilchk (t 0)).bind fun v10 =>
     (fieldA 0 v10).bind fun v11 =>
     (ld false 1 v11 H).bind fun v12 =>
     (idxA 5 v12 (t 1)).bind fun v13 =>
     (fieldA 3 v13).bind fun v14 =>
     (ld false 1 v14 H).bind fun v15 =>
     (bsl (n + 18) 1 1 [.int .i64 0] [(0, 1, v15)] H).bind fun p16 =>
     (app (n + 19) 1 8 (t 6) p16.1 p16.2).bind fun p17 =>
     (nilchk (t 0)).bind fun v18 =>
     (fieldA 0 v18).bind fun v19 =>
     (ld false 1 v19 p17.2).bind fun v20 =>
     (idxA 5 v20 (t 1)).bind fun v21 =>
     (fieldA 4 v21).bind fun v22 =>
     (ld false 1 v22 p17.2).bind fun v23 =>
     some ⟨.normal, put (put (put (put (put (put (put (put (put (put (put (put (put (put (put (put (put (put (put (put (put (put (put (put (put (put (put (put (put (put t 8 (t 0)) 9 v3) 10 v4) 11 v5) 12 (t 1)) 13 v6) 14 v7) 15 v8) 16 v9) 17 (t 6)) 18 (t 0)) 19 v10) 20 v11) 21 v12) 22 (t 1)) 23 v13) 24 v14) 25 v15) 26 p16.1) 27 p17.1) 6 p17.1) 28 (t 0)) 29 v18) 30 v19) 31 v20) 32 (t 1)) 33 v21) 34 v22) 35 v23) 1 v23, p17.2, n + 30⟩)
    (some ⟨(.exit 0), put (put (put (put (put (put (put (put (put t 8 (t 0)) 9 v3) 10 v4) 11 v5) 12 (t 1)) 13 v6) 14 v7) 15 v8) 16 v9, H, n + 9⟩)
noncomputable def S53 (C : Calling) (L : Body → Body) (t : Tm) (H : Hp) (n : Nat) : Option (Value × Hp × Nat) :=
  (bsl (n + 2) 1 0 [.int .i64 0] [] H).bind fun p1 =>
  (L (S53L0 C L) (put (put (put (put t 4 nilS) 5 (.bool false)) 7 p1.1) 6 p1.1) p1.2 (n + 4)).bind fun (o2 : Out) =>
  (nilchk (o2.t 0)).bind fun v24 =>
  (fieldA 0 v24).bind fun v25 =>
  (ld false 1 v25 o2.H).bind fun v26 =>
  (idxA 5 v26 (o2.t 1)).bind fun v27 =>
  (fieldA 0 v27).bind fun v28 =>
  (ld false 1 v28 o2.H).bind fun v29 =>
  (binK .plain .eql v29 (.int .i64 1)).bind fun v30 =>
  iteK ([o2.t 6, v30].all notTup) <|
  some (.tuple ⟨[o2.t 6, v30]⟩, o2.H, o2.n + 12)
theorem s53 (C : Calling) (L : Body → Body) (t : Tm) (H : Hp) (n : Nat) : bodyK Try.prog C L Try.f53 t H n = S53 C L t H n := by kernel_rfl
theorem c53 (args : List Value) (H : Hp) (n : Nat) : Call Try.prog 53 args H n = S53 (Call Try.prog) Loop (argsT args) H n := (Call_body Try.func53 args H n).trans (s53 ..)
/-! 54: spec.l1Once -/
noncomputable def S54 (C : Calling) (L : Body → Body) (t : Tm) (H : Hp) (n : Nat) : Option (Value × Hp × Nat) :=
  (C 41 [t 0, t 1] H (n + 6)).bind fun q1 =>
  (binK .plain .eql q1.1 (.int .i64 0)).bind fun v2 =>
  some (v2, q1.2.1, q1.2.2)
theorem s54 (C : Calling) (L : Body → Body) (t : Tm) (H : Hp) (n : Nat) : bodyK Try.prog C L Try.f54 t H n = S54 C L t H n := by kernel_rfl
theorem c54 (args : List Value) (H : Hp) (n : Nat) : Call Try.prog 54 args H n = S54 (Call Try.prog) Loop (argsT args) H n := (Call_body Try.func54 args H n).trans (s54 ..)
/-! 55: spec.l2ListOf -/
noncomputable def S55L0 (C : Calling) (L : Body → Body) : Body := fun t H n =>
  (fieldA 0 (t 2)).bind fun v5 =>
  (ld false 1 v5 H).bind fun v6 =>
  (idxA 5 v6 (t 1)).bind fun v7 =>
  (fieldA 0 v7).bind fun v8 =>
  (ld false 1 v8 H).bind fun v9 =>
  (binK .plain .eql v9 (.int .i64 5)).bind fun v10 =>
  csel v10
    ((fieldA 0 (t 2)).bind fun v11 =>
     (ld false 1 v11 H).bind fun v12 =>
     (idxA 5 v12 (t 1)).bind fun v13 =>
     (fieldA 3 v13).bind fun v14 =>
     (ld false 1 v14 H).bind fun v15 =>
     (bsl (n + 14) 1 1 [.int .i64 0] [(0, 1, v15)] H).bind fun p16 =>
     (app (n + 15) 1 8 (t 6) p16.1 p16.2).bind fun p17 =>
     (fieldA 0 (t 2)).bind fun v18 =>
     (ld false 1 v18 p17.2).bind fun v19 =>
     (idxA 5 v19 (t 1)).bind fun v20 =>
     (fieldA 4 v20).bind fun v21 =>
     (ld false 1 v21 p17.2).bind fun v22 =>
     some ⟨.normal, put (put (put (put (put (put (put (put (put (put (put (put (put (put (put (put (put (put (put (put (put (put (put (put t 8 v5) 9 v6) 10 (t 1)) 11 v7) 12 v8) 13 v9) 14 v10) 15 (t 6)) 16 v11) 17 v12) 18 (t 1)) 19 v13) 20 v14) 21 v15) 22 p16.1) 23 p17.1) 6 p17.1) 24 v18) 25 v19) 26 (t 1)) 27 v20) 28 v21) 29 v22) 1 v22, p17.2, n + 24⟩)
    (some ⟨(.exit 0), put (put (put (put (put (put (put t 8 v5) 9 v6) 10 (t 1)) 11 v7) 12 v8) 13 v9) 14 v10, H, n + 7⟩)
noncomputable def S55 (C : Calling) (L : Body → Body) (t : Tm) (H : Hp) (n : Nat) : Option (Value × Hp × Nat) :=
  (vcells (t 0)).bind fun c2 =>
  let H1 := H.set (n) (some (.row c2 0 true))
  (bsl (n + 3) 1 0 [.int .i64 0] [] H1).bind fun p3 =>
  (L (S55L0 C L) (put (put (put (put (put t 2 (ptr (n) 0)) 4 nilS) 5 (.bool false)) 7 p3.1) 6 p3.1) p3.2 (n + 5)).bind fun (o4 : Out) =>
  (fieldA 0 (o4.t 2)).bind fun v23 =>
  (ld false 1 v23 o4.H).bind fun v24 =>
  (idxA 5 v24 (o4.t 1)).bind fun v25 =>
  (fieldA 0 v25).bind fun v26 =>
  (ld false 1 v26 o4.H).bind fun v27 =>
  (binK .plain .neq v27 (.int .i64 1)).bind fun v28 =>
  csel v28
    ((bsl (o4.n + 7) 1 0 [.int .i64 0] [] o4.H).bind fun p29 =>
     iteK ([p29.1, .bool false].all notTup) <|
     some (.tuple ⟨[p29.1, .bool false]⟩, p29.2, o4.n + 10))
    (iteK ([o4.t 6, .bool true].all notTup) <|
     some (.tuple ⟨[o4.t 6, .bool true]⟩, o4.H, o4.n + 10))
theorem s55 (C : Calling) (L : Body → Body) (t : Tm) (H : Hp) (n : Nat) : bodyK Try.prog C L Try.f55 t H n = S55 C L t H n := by kernel_rfl
theorem c55 (args : List Value) (H : Hp) (n : Nat) : Call Try.prog 55 args H n = S55 (Call Try.prog) Loop (argsT args) H n := (Call_body Try.func55 args H n).trans (s55 ..)
/-! 56: laws.szNodeS -/
noncomputable def S56L0 (C : Calling) (L : Body → Body) : Body := fun t H n =>
  (lenV false (t 0)).bind fun v5 =>
  (binK .plain .lss (t 5) v5).bind fun v6 =>
  csel v6
    ((idxA 5 (t 0) (t 5)).bind fun v7 =>
     (ld true 5 v7 H).bind fun v8 =>
     (C 87 [v8, t 1] H (n + 11)).bind fun q9 =>
     (binK .plain .lss q9.1 (.int .i64 0)).bind fun v10 =>
     csel v10
       (some ⟨.ret, put (put (put (put (put (put (put (put (put (put (put (put (put (put t 12 (t 5)) 13 (t 0)) 14 v5) 15 v6) 18 (t 0)) 19 (t 5)) 20 v7) 21 v8) 22 (t 1)) 23 q9.1) 1 q9.1) 24 q9.1) 25 v10) 4 (.int .i64 (-1)), q9.2.1, q9.2.2 + 3⟩)
       ((binK .plain .add (t 5) (.int .i64 1)).bind fun v11 =>
        some ⟨.normal, put (put (put (put (put (put (put (put (put (put (put (put (put (put (put (put t 12 (t 5)) 13 (t 0)) 14 v5) 15 v6) 18 (t 0)) 19 (t 5)) 20 v7) 21 v8) 22 (t 1)) 23 q9.1) 1 q9.1) 24 q9.1) 25 v10) 16 (t 5)) 17 v11) 5 v11, q9.2.1, q9.2.2 + 5⟩))
    (some ⟨(.exit 0), put (put (put (put t 12 (t 5)) 13 (t 0)) 14 v5) 15 v6, H, n + 4⟩)
noncomputable def S56 (C : Calling) (L : Body → Body) (t : Tm) (H : Hp) (n : Nat) : Option (Value × Hp × Nat) :=
  (lenV false (t 0)).bind fun v1 =>
  (binK .plain .sub (t 1) v1).bind fun v2 =>
  (binK .plain .lss v2 (.int .i64 0)).bind fun v3 =>
  csel v3
    (some (.int .i64 (-1), H, n + 9))
    ((L (S56L0 C L) (put (put (put (put (put (put (put (put (put t 4 (.int .i64 0)) 6 (t 1)) 7 (t 0)) 8 v1) 9 v2) 1 v2) 10 v2) 11 v3) 5 (.int .i64 0)) H (n + 9)).bind fun (o4 : Out) =>
     let o12 := outOf 0 o4
     thenK o12
       (some (o12.t 1, o12.H, o12.n + 2))
       (finE o12.e
          (some (o12.t 4, o12.H, o12.n))))
theorem s56 (C : Calling) (L : Body → Body) (t : Tm) (H : Hp) (n : Nat) : bodyK Try.prog C L Try.f56 t H n = S56 C L t H n := by kernel_rfl
theorem c56 (args : List Value) (H : Hp) (n : Nat) : Call Try.prog 56 args H n = S56 (Call Try.prog) Loop (argsT args) H n := (Call_body Try.func56 args H n).trans (s56 ..)
/-! 57: spec.l7Keep -/
noncomputable def S57L0 (C : Calling) (L : Body → Body) : Body := fun t H n =>
  (lenV false (t 1)).bind fun v13 =>
  (binK .plain .lss (t 9) v13).bind fun v14 =>
  csel v14
    ((idxA 1 (t 1) (t 9)).bind fun v15 =>
     (ld false 1 v15 H).bind fun v16 =>
     (idxA 1 (t 7) v16).bind fun v17 =>
     (ld false 1 v17 H).bind fun v18 =>
     (bsl (n + 12) 1 1 [.int .i64 0] [(0, 1, v18)] H).bind fun p19 =>
     (app (n + 13) 1 8 (t 8) p19.1 p19.2).bind fun p20 =>
     (binK .plain .add (t 9) (.int .i64 1)).bind fun v21 =>
     some ⟨.normal, put (put (put (put (put (put (put (put (put (put (put (put (put (put (put (put (put (put t 17 (t 9)) 18 (t 1)) 19 v13) 20 v14) 23 (t 8)) 24 (t 7)) 25 (t 1)) 26 (t 9)) 27 v15) 28 v16) 29 v17) 30 v18) 31 p19.1) 32 p20.1) 8 p20.1) 21 (t 9)) 22 v21) 9 v21, p20.2, n + 18⟩)
    (some ⟨(.exit 0), put (put (put (put t 17 (t 9)) 18 (t 1)) 19 v13) 20 v14, H, n + 4⟩)
noncomputable def S57 (C : Calling) (L : Body → Body) (t : Tm) (H : Hp) (n : Nat) : Option (Value × Hp × Nat) :=
  (vcells (t 0)).bind fun c2 =>
  let H1 := H.set (n) (some (.row c2 0 true))
  let H3 := H1.set (n + 1) (some (.row [nilS] 0 true))
  (bld [nilS] []).bind fun v4 =>
  let H5 := H3.set (n + 4) (some (.row [nilS] 0 true))
  (st true 1 (ptr (n + 4) 0) v4 H5).bind fun H6 =>
  (ld true 1 (ptr (n) 0) H6).bind fun v7 =>
  (ld true 1 (ptr (n) 0) H6).bind fun v8 =>
  (C 89 [v8, t 1] H6 (n + 12)).bind fun q9 =>
  ask (ld true 1 (ptr (n) 0) q9.2.1 = some v7) <|
  (C 88 [ptr (n + 4) 0, v7, q9.1] q9.2.1 (q9.2.2)).bind fun q10 =>
  (bsl (q10.2.2) 1 0 [.int .i64 0] [] q10.2.1).bind fun p11 =>
  (L (S57L0 C L) (put (put (put (put (put (put (put (put (put (put (put (put (put (put t 2 (ptr (n) 0)) 4 (ptr (n + 1) 0)) 5 nilS) 10 v4) 6 (ptr (n + 4) 0)) 11 v7) 12 v8) 13 (t 1)) 14 q9.1) 15 q10.1) 7 q10.1) 16 p11.1) 8 p11.1) 9 (.int .i64 0)) p11.2 (q10.2.2 + 3)).bind fun (o12 : Out) =>
  (ld true 1 (o12.t 6) o12.H).bind fun v22 =>
  (st true 1 (o12.t 4) v22 o12.H).bind fun H23 =>
  (ld true 1 (o12.t 4) H23).bind fun v24 =>
  iteK ([v24, o12.t 8].all notTup) <|
  some (.tuple ⟨[v24, o12.t 8]⟩, H23, o12.n + 4)
theorem s57 (C : Calling) (L : Body → Body) (t : Tm) (H : Hp) (n : Nat) : bodyK Try.prog C L Try.f57 t H n = S57 C L t H n := by kernel_rfl
theorem c57 (args : List Value) (H : Hp) (n : Nat) : Call Try.prog 57 args H n = S57 (Call Try.prog) Loop (argsT args) H n := (Call_body Try.func57 args H n).trans (s57 ..)
/-! 58: spec.l8Nodes -/
noncomputable def S58L0 (C : Calling) (L : Body → Body) : Body := fun t H n =>
  (fieldA 0 (t 1)).bind fun v8 =>
  (ld false 1 v8 H).bind fun v9 =>
  (lenV false v9).bind fun v10 =>
  (binK .plain .lss (t 4) v10).bind fun v11 =>
  csel v11
    ((fieldA 0 (t 1)).bind fun v12 =>
     (ld false 1 v12 H).bind fun v13 =>
     (idxA 5 v13 (t 4)).bind fun v14 =>
     (ld true 5 v14 H).bind fun v15 =>
     let H16 := H.set (n + 10) (some (.row [.int .i64 0, .int .i64 0, .string ⟨#[]⟩, .int .i64 0, .int .i64 0] 0 true))
     (st true 5 (ptr (n + 10) 0) v15 H16).bind fun H17 =>
     (fieldA 0 (ptr (n + 10) 0)).bind fun v18 =>
     (ld false 1 v18 H17).bind fun v19 =>
     (C 90 [v19] H17 (n + 18)).bind fun q20 =>
     (app (n + 16) 1 1 (t 3) q20.1 q20.2.1).bind fun p21 =>
     (fieldA 0 (ptr (n + 10) 0)).bind fun v22 =>
     (ld false 1 v22 p21.2).bind fun v23 =>
     (binK .plain .eql v23 (.int .i64 2)).bind fun v24 =>
     let t26 : Tm := put (put (put (put (put (put (put (put (put (put (put (put (put (put (put (put (put (put (put (put (put t 10 (t 4)) 11 v8) 12 v9) 13 v10) 14 v11) 17 v12) 18 v13) 19 (t 4)) 20 v14) 21 v15) 5 (ptr (n + 10) 0)) 22 (t 3)) 23 v18) 24 v19) 25 q20.1) 26 p21.1) 3 p21.1) 27 v22) 28 v23) 30 v24) 29 v24
     (csel v24
       (some ⟨.normal, t26, p21.2, q20.2.2 + 4⟩)
       ((binK .plain .eql v23 (.int .i64 8)).bind fun v27 =>
        let t29 : Tm := put (put t26 31 v27) 29 v27
        (csel v27
          (some ⟨.normal, t29, p21.2, q20.2.2 + 6⟩)
          ((binK .plain .eql v23 (.int .i64 9)).bind fun v30 =>
           some ⟨.normal, put (put t29 32 v30) 29 v30, p21.2, q20.2.2 + 8⟩)
        ).bind fun (o28 : Out) =>
        some ⟨.normal, o28.t, o28.H, o28.n⟩)
     ).bind fun (o25 : Out) =>
     (csel (o25.t 29)
       ((fieldA 1 (o25.t 5)).bind fun v33 =>
        (ld false 1 v33 o25.H).bind fun v34 =>
        (C 90 [v34] o25.H (o25.n + 6)).bind fun q35 =>
        (app (o25.n + 4) 1 1 (o25.t 3) q35.1 q35.2.1).bind fun p36 =>
        some ⟨.normal, put (put (put (put (put (put o25.t 33 (o25.t 3)) 34 v33) 35 v34) 36 q35.1) 37 p36.1) 3 p36.1, p36.2, q35.2.2⟩)
       ((binK .plain .eql (o25.t 28) (.int .i64 3)).bind fun v37 =>
        let t39 : Tm := put (put o25.t 39 v37) 38 v37
        (csel v37
          ((fieldA 1 (t39 5)).bind fun v40 =>
           (ld false 1 v40 o25.H).bind fun v41 =>
           (binK .plain .add v41 (.int .i64 1000000000)).bind fun v42 =>
           (C 90 [v42] o25.H (o25.n + 9)).bind fun q43 =>
           (app (o25.n + 7) 1 1 (t39 3) q43.1 q43.2.1).bind fun p44 =>
           some ⟨.normal, put (put (put (put (put (put (put t39 40 (t39 3)) 41 v40) 42 v41) 43 v42) 44 q43.1) 45 p44.1) 3 p44.1, p44.2, q43.2.2⟩)
          ((binK .plain .eql (t39 28) (.int .i64 4)).bind fun v45 =>
           let t47 : Tm := put (put t39 47 v45) 46 v45
           (csel v45
             ((fieldA 2 (t47 5)).bind fun v48 =>
              (ld false 1 v48 o25.H).bind fun v49 =>
              (C 91 [v49] o25.H (o25.n + 10)).bind fun q50 =>
              (app (o25.n + 8) 1 1 (t47 3) q50.1 q50.2.1).bind fun p51 =>
              some ⟨.normal, put (put (put (put (put (put t47 48 (t47 3)) 49 v48) 50 v49) 51 q50.1) 52 p51.1) 3 p51.1, p51.2, q50.2.2⟩)
             ((binK .plain .eql (t47 28) (.int .i64 5)).bind fun v52 =>
              let t54 : Tm := put (put t47 54 v52) 53 v52
              (csel v52
                ((fieldA 3 (t54 5)).bind fun v55 =>
                 (ld false 1 v55 o25.H).bind fun v56 =>
                 (C 90 [v56] o25.H (o25.n + 16)).bind fun q57 =>
                 (app (o25.n + 10) 1 1 (t54 3) q57.1 q57.2.1).bind fun p58 =>
                 (fieldA 4 (t54 5)).bind fun v59 =>
                 (ld false 1 v59 p58.2).bind fun v60 =>
                 ask (ld false 1 v59 q57.2.1 = some v60) <|
                 ask (ld false 1 v59 o25.H = some v60) <|
                 (C 90 [v60] p58.2 (q57.2.2)).bind fun q61 =>
                 (app (o25.n + 14) 1 1 p58.1 q61.1 q61.2.1).bind fun p62 =>
                 some ⟨.normal, put (put (put (put (put (put (put (put (put (put t54 55 (t54 3)) 56 v55) 57 v56) 58 q57.1) 59 p58.1) 60 v59) 61 v60) 62 q61.1) 63 p62.1) 3 p62.1, p62.2, q61.2.2⟩)
                ((binK .plain .eql (t54 28) (.int .i64 6)).bind fun v63 =>
                 let t65 : Tm := put (put t54 65 v63) 64 v63
                 (csel v63
                   ((fieldA 1 (t65 5)).bind fun v66 =>
                    (ld false 1 v66 o25.H).bind fun v67 =>
                    (C 90 [v67] o25.H (o25.n + 18)).bind fun q68 =>
                    (app (o25.n + 12) 1 1 (t65 3) q68.1 q68.2.1).bind fun p69 =>
                    (fieldA 3 (t65 5)).bind fun v70 =>
                    (ld false 1 v70 p69.2).bind fun v71 =>
                    ask (ld false 1 v70 q68.2.1 = some v71) <|
                    ask (ld false 1 v70 o25.H = some v71) <|
                    (C 90 [v71] p69.2 (q68.2.2)).bind fun q72 =>
                    (app (o25.n + 16) 1 1 p69.1 q72.1 q72.2.1).bind fun p73 =>
                    some ⟨.normal, put (put (put (put (put (put (put (put (put (put t65 66 (t65 3)) 67 v66) 68 v67) 69 q68.1) 70 p69.1) 71 v70) 72 v71) 73 q72.1) 74 p73.1) 3 p73.1, p73.2, q72.2.2⟩)
                   ((binK .plain .eql (t65 28) (.int .i64 7)).bind fun v74 =>
                    let t76 : Tm := put (put t65 76 v74) 75 v74
                    (csel v74
                      ((fieldA 3 (t76 5)).bind fun v77 =>
                       (ld false 1 v77 o25.H).bind fun v78 =>
                       (C 90 [v78] o25.H (o25.n + 16)).bind fun q79 =>
                       (app (o25.n + 14) 1 1 (t76 3) q79.1 q79.2.1).bind fun p80 =>
                       some ⟨.normal, put (put (put (put (put (put t76 77 (t76 3)) 78 v77) 79 v78) 80 q79.1) 81 p80.1) 3 p80.1, p80.2, q79.2.2⟩)
                      (some ⟨.normal, t76, o25.H, o25.n + 10⟩)
                    ).bind fun (o75 : Out) =>
                    some ⟨.normal, o75.t, o75.H, o75.n⟩)
                 ).bind fun (o64 : Out) =>
                 some ⟨.normal, o64.t, o64.H, o64.n⟩)
              ).bind fun (o53 : Out) =>
              some ⟨.normal, o53.t, o53.H, o53.n⟩)
           ).bind fun (o46 : Out) =>
           some ⟨.normal, o46.t, o46.H, o46.n⟩)
        ).bind fun (o38 : Out) =>
        some ⟨.normal, o38.t, o38.H, o38.n⟩)
     ).bind fun (o31 : Out) =>
     (binK .plain .add (o31.t 4) (.int .i64 1)).bind fun v81 =>
     some ⟨.normal, put (put (put o31.t 15 (o31.t 4)) 16 v81) 4 v81, o31.H, o31.n + 3⟩)
    (some ⟨(.exit 0), put (put (put (put (put t 10 (t 4)) 11 v8) 12 v9) 13 v10) 14 v11, H, n + 5⟩)
noncomputable def S58 (C : Calling) (L : Body → Body) (t : Tm) (H : Hp) (n : Nat) : Option (Value × Hp × Nat) :=
  (vcells (t 0)).bind fun c2 =>
  let H1 := H.set (n) (some (.row c2 0 true))
  (fieldA 0 (ptr (n) 0)).bind fun v3 =>
  (ld false 1 v3 H1).bind fun v4 =>
  (lenV false v4).bind fun v5 =>
  (C 90 [v5] H1 (n + 7)).bind fun q6 =>
  (L (S58L0 C L) (put (put (put (put (put (put (put (put t 1 (ptr (n) 0)) 2 nilS) 6 v3) 7 v4) 8 v5) 9 q6.1) 3 q6.1) 4 (.int .i64 0)) q6.2.1 (q6.2.2 + 1)).bind fun (o7 : Out) =>
  some (o7.t 3, o7.H, o7.n + 2)
theorem s58 (C : Calling) (L : Body → Body) (t : Tm) (H : Hp) (n : Nat) : bodyK Try.prog C L Try.f58 t H n = S58 C L t H n := by kernel_rfl
theorem c58 (args : List Value) (H : Hp) (n : Nat) : Call Try.prog 58 args H n = S58 (Call Try.prog) Loop (argsT args) H n := (Call_body Try.func58 args H n).trans (s58 ..)
/-! 59: laws.toNodeS -/
noncomputable def S59L0 (C : Calling) (L : Body → Body) : Body := fun t H n =>
  (lenV false (t 0)).bind fun v4 =>
  (binK .plain .lss (t 4) v4).bind fun v5 =>
  csel v5
    ((idxA 5 (t 0) (t 4)).bind fun v6 =>
     (ld true 5 v6 H).bind fun v7 =>
     (C 92 [v7] H (n + 13)).bind fun q8 =>
     (idxA 5 (t 3) (t 4)).bind fun v9 =>
     (st true 5 v9 q8.1 q8.2.1).bind fun H10 =>
     (binK .plain .add (t 4) (.int .i64 1)).bind fun v11 =>
     some ⟨.normal, put (put (put (put (put (put (put (put (put (put (put (put (put (put (put t 8 (t 4)) 9 (t 0)) 10 v4) 11 v5) 14 (t 3)) 15 (t 4)) 16 (t 0)) 17 (t 4)) 18 v6) 19 v7) 20 q8.1) 21 v9) 12 (t 4)) 13 v11) 4 v11, H10, q8.2.2 + 3⟩)
    (some ⟨(.exit 0), put (put (put (put t 8 (t 4)) 9 (t 0)) 10 v4) 11 v5, H, n + 4⟩)
noncomputable def S59 (C : Calling) (L : Body → Body) (t : Tm) (H : Hp) (n : Nat) : Option (Value × Hp × Nat) :=
  (lenV false (t 0)).bind fun v1 =>
  (mks (n + 3) 5 48 [.int .i64 0, .int .i64 0, .string ⟨#[]⟩, .int .i64 0, .int .i64 0] v1 v1 H).bind fun p2 =>
  (L (S59L0 C L) (put (put (put (put (put (put t 2 nilS) 5 (t 0)) 6 v1) 7 p2.1) 3 p2.1) 4 (.int .i64 0)) p2.2 (n + 6)).bind fun (o3 : Out) =>
  some (o3.t 3, o3.H, o3.n + 2)
theorem s59 (C : Calling) (L : Body → Body) (t : Tm) (H : Hp) (n : Nat) : bodyK Try.prog C L Try.f59 t H n = S59 C L t H n := by kernel_rfl
theorem c59 (args : List Value) (H : Hp) (n : Nat) : Call Try.prog 59 args H n = S59 (Call Try.prog) Loop (argsT args) H n := (Call_body Try.func59 args H n).trans (s59 ..)
/-! 60: impl.keep -/
noncomputable def S60L0 (C : Calling) (L : Body → Body) : Body := fun t H n =>
  (binK .plain .lss (t 18) (t 17)).bind fun v12 =>
  csel v12
    ((idxA 1 (t 16) (t 18)).bind fun v13 =>
     (ld false 1 v13 H).bind fun v14 =>
     (idxA 1 (t 7) v14).bind fun v15 =>
     (ld false 1 v15 H).bind fun v16 =>
     (bsl (n + 9) 1 1 [.int .i64 0] [(0, 1, v16)] H).bind fun p17 =>
     (app (n + 10) 1 8 (t 8) p17.1 p17.2).bind fun p18 =>
     (binK .plain .add (t 18) (.int .i64 1)).bind fun v19 =>
     some ⟨.normal, put (put (put (put (put (put (put (put (put (put (put (put (put (put t 19 v12) 20 v13) 21 v14) 10 v14) 22 (t 8)) 23 (t 7)) 24 v14) 25 v15) 26 v16) 27 p17.1) 28 p18.1) 8 p18.1) 29 v19) 18 v19, p18.2, n + 14⟩)
    (some ⟨(.exit 0), put t 19 v12, H, n + 1⟩)
noncomputable def S60 (C : Calling) (L : Body → Body) (t : Tm) (H : Hp) (n : Nat) : Option (Value × Hp × Nat) :=
  (vcells (t 0)).bind fun c2 =>
  let H1 := H.set (n) (some (.row c2 0 true))
  let H3 := H1.set (n + 1) (some (.row [nilS] 0 true))
  (bld [nilS] []).bind fun v4 =>
  let H5 := H3.set (n + 4) (some (.row [nilS] 0 true))
  (st true 1 (ptr (n + 4) 0) v4 H5).bind fun H6 =>
  (ld true 1 (ptr (n) 0) H6).bind fun v7 =>
  (C 93 [ptr (n + 4) 0, v7, t 1] H6 (n + 10)).bind fun q8 =>
  (bsl (q8.2.2) 1 0 [.int .i64 0] [] q8.2.1).bind fun p9 =>
  (lenV false (t 1)).bind fun v10 =>
  (L (S60L0 C L) (put (put (put (put (put (put (put (put (put (put (put (put (put (put t 2 (ptr (n) 0)) 4 (ptr (n + 1) 0)) 5 nilS) 11 v4) 6 (ptr (n + 4) 0)) 12 v7) 13 (t 1)) 14 q8.1) 7 q8.1) 15 p9.1) 8 p9.1) 16 (t 1)) 17 v10) 18 (.int .i64 0)) p9.2 (q8.2.2 + 5)).bind fun (o11 : Out) =>
  (ld true 1 (o11.t 6) o11.H).bind fun v20 =>
  (st true 1 (o11.t 4) v20 o11.H).bind fun H21 =>
  (ld true 1 (o11.t 4) H21).bind fun v22 =>
  iteK ([v22, o11.t 8].all notTup) <|
  some (.tuple ⟨[v22, o11.t 8]⟩, H21, o11.n + 4)
theorem s60 (C : Calling) (L : Body → Body) (t : Tm) (H : Hp) (n : Nat) : bodyK Try.prog C L Try.f60 t H n = S60 C L t H n := by kernel_rfl
theorem c60 (args : List Value) (H : Hp) (n : Nat) : Call Try.prog 60 args H n = S60 (Call Try.prog) Loop (argsT args) H n := (Call_body Try.func60 args H n).trans (s60 ..)
/-! 61: impl.packNodes -/
noncomputable def S61L0 (C : Calling) (L : Body → Body) : Body := fun t H n =>
  (binK .plain .lss (t 13) (t 12)).bind fun v11 =>
  csel v11
    ((idxA 5 (t 11) (t 13)).bind fun v12 =>
     (ld true 5 v12 H).bind fun v13 =>
     let H14 := H.set (n + 3) (some (.row [.int .i64 0, .int .i64 0, .string ⟨#[]⟩, .int .i64 0, .int .i64 0] 0 true))
     (st true 5 (ptr (n + 3) 0) v13 H14).bind fun H15 =>
     (fieldA 0 (ptr (n + 3) 0)).bind fun v16 =>
     (ld false 1 v16 H15).bind fun v17 =>
     (C 94 [v17] H15 (n + 11)).bind fun q18 =>
     (app (n + 9) 1 1 (t 3) q18.1 q18.2.1).bind fun p19 =>
     (fieldA 0 (ptr (n + 3) 0)).bind fun v20 =>
     (ld false 1 v20 p19.2).bind fun v21 =>
     (binK .plain .eql v21 (.int .i64 2)).bind fun v22 =>
     let t24 : Tm := put (put (put (put (put (put (put (put (put (put (put (put (put (put t 14 v11) 15 v12) 16 v13) 5 (ptr (n + 3) 0)) 17 (t 3)) 18 v16) 19 v17) 20 q18.1) 21 p19.1) 3 p19.1) 22 v20) 23 v21) 25 v22) 24 v22
     (csel v22
       (some ⟨.normal, t24, p19.2, q18.2.2 + 4⟩)
       ((binK .plain .eql v21 (.int .i64 8)).bind fun v25 =>
        let t27 : Tm := put (put t24 26 v25) 24 v25
        (csel v25
          (some ⟨.normal, t27, p19.2, q18.2.2 + 6⟩)
          ((binK .plain .eql v21 (.int .i64 9)).bind fun v28 =>
           some ⟨.normal, put (put t27 27 v28) 24 v28, p19.2, q18.2.2 + 8⟩)
        ).bind fun (o26 : Out) =>
        some ⟨.normal, o26.t, o26.H, o26.n⟩)
     ).bind fun (o23 : Out) =>
     (csel (o23.t 24)
       ((fieldA 1 (o23.t 5)).bind fun v31 =>
        (ld false 1 v31 o23.H).bind fun v32 =>
        (C 94 [v32] o23.H (o23.n + 6)).bind fun q33 =>
        (app (o23.n + 4) 1 1 (o23.t 3) q33.1 q33.2.1).bind fun p34 =>
        some ⟨.normal, put (put (put (put (put (put o23.t 28 (o23.t 3)) 29 v31) 30 v32) 31 q33.1) 32 p34.1) 3 p34.1, p34.2, q33.2.2⟩)
       ((binK .plain .eql (o23.t 23) (.int .i64 3)).bind fun v35 =>
        let t37 : Tm := put (put o23.t 34 v35) 33 v35
        (csel v35
          ((fieldA 1 (t37 5)).bind fun v38 =>
           (ld false 1 v38 o23.H).bind fun v39 =>
           (binK .plain .add v39 (.int .i64 1000000000)).bind fun v40 =>
           (C 94 [v40] o23.H (o23.n + 9)).bind fun q41 =>
           (app (o23.n + 7) 1 1 (t37 3) q41.1 q41.2.1).bind fun p42 =>
           some ⟨.normal, put (put (put (put (put (put (put t37 35 (t37 3)) 36 v38) 37 v39) 38 v40) 39 q41.1) 40 p42.1) 3 p42.1, p42.2, q41.2.2⟩)
          ((binK .plain .eql (t37 23) (.int .i64 4)).bind fun v43 =>
           let t45 : Tm := put (put t37 42 v43) 41 v43
           (csel v43
             ((fieldA 2 (t45 5)).bind fun v46 =>
              (ld false 1 v46 o23.H).bind fun v47 =>
              (C 95 [v47] o23.H (o23.n + 10)).bind fun q48 =>
              (app (o23.n + 8) 1 1 (t45 3) q48.1 q48.2.1).bind fun p49 =>
              some ⟨.normal, put (put (put (put (put (put t45 43 (t45 3)) 44 v46) 45 v47) 46 q48.1) 47 p49.1) 3 p49.1, p49.2, q48.2.2⟩)
             ((binK .plain .eql (t45 23) (.int .i64 5)).bind fun v50 =>
              let t52 : Tm := put (put t45 49 v50) 48 v50
              (csel v50
                ((fieldA 3 (t52 5)).bind fun v53 =>
                 (ld false 1 v53 o23.H).bind fun v54 =>
                 (C 94 [v54] o23.H (o23.n + 12)).bind fun q55 =>
                 (app (o23.n + 10) 1 1 (t52 3) q55.1 q55.2.1).bind fun p56 =>
                 (fieldA 4 (t52 5)).bind fun v57 =>
                 (ld false 1 v57 p56.2).bind fun v58 =>
                 (C 94 [v58] p56.2 (q55.2.2 + 6)).bind fun q59 =>
                 (app (q55.2.2 + 4) 1 1 p56.1 q59.1 q59.2.1).bind fun p60 =>
                 some ⟨.normal, put (put (put (put (put (put (put (put (put (put (put (put t52 50 (t52 3)) 51 v53) 52 v54) 53 q55.1) 54 p56.1) 3 p56.1) 55 p56.1) 56 v57) 57 v58) 58 q59.1) 59 p60.1) 3 p60.1, p60.2, q59.2.2⟩)
                ((binK .plain .eql (t52 23) (.int .i64 6)).bind fun v61 =>
                 let t63 : Tm := put (put t52 61 v61) 60 v61
                 (csel v61
                   ((fieldA 1 (t63 5)).bind fun v64 =>
                    (ld false 1 v64 o23.H).bind fun v65 =>
                    (C 94 [v65] o23.H (o23.n + 14)).bind fun q66 =>
                    (app (o23.n + 12) 1 1 (t63 3) q66.1 q66.2.1).bind fun p67 =>
                    (fieldA 3 (t63 5)).bind fun v68 =>
                    (ld false 1 v68 p67.2).bind fun v69 =>
                    (C 94 [v69] p67.2 (q66.2.2 + 6)).bind fun q70 =>
                    (app (q66.2.2 + 4) 1 1 p67.1 q70.1 q70.2.1).bind fun p71 =>
                    some ⟨.normal, put (put (put (put (put (put (put (put (put (put (put (put t63 62 (t63 3)) 63 v64) 64 v65) 65 q66.1) 66 p67.1) 3 p67.1) 67 p67.1) 68 v68) 69 v69) 70 q70.1) 71 p71.1) 3 p71.1, p71.2, q70.2.2⟩)
                   ((binK .plain .eql (t63 23) (.int .i64 7)).bind fun v72 =>
                    let t74 : Tm := put (put t63 73 v72) 72 v72
                    (csel v72
                      ((fieldA 3 (t74 5)).bind fun v75 =>
                       (ld false 1 v75 o23.H).bind fun v76 =>
                       (C 94 [v76] o23.H (o23.n + 16)).bind fun q77 =>
                       (app (o23.n + 14) 1 1 (t74 3) q77.1 q77.2.1).bind fun p78 =>
                       some ⟨.normal, put (put (put (put (put (put t74 74 (t74 3)) 75 v75) 76 v76) 77 q77.1) 78 p78.1) 3 p78.1, p78.2, q77.2.2⟩)
                      (some ⟨.normal, t74, o23.H, o23.n + 10⟩)
                    ).bind fun (o73 : Out) =>
                    some ⟨.normal, o73.t, o73.H, o73.n⟩)
                 ).bind fun (o62 : Out) =>
                 some ⟨.normal, o62.t, o62.H, o62.n⟩)
              ).bind fun (o51 : Out) =>
              some ⟨.normal, o51.t, o51.H, o51.n⟩)
           ).bind fun (o44 : Out) =>
           some ⟨.normal, o44.t, o44.H, o44.n⟩)
        ).bind fun (o36 : Out) =>
        some ⟨.normal, o36.t, o36.H, o36.n⟩)
     ).bind fun (o29 : Out) =>
     (binK .plain .add (o29.t 13) (.int .i64 1)).bind fun v79 =>
     some ⟨.normal, put (put o29.t 79 v79) 13 v79, o29.H, o29.n + 2⟩)
    (some ⟨(.exit 0), put t 14 v11, H, n + 1⟩)
noncomputable def S61 (C : Calling) (L : Body → Body) (t : Tm) (H : Hp) (n : Nat) : Option (Value × Hp × Nat) :=
  (vcells (t 0)).bind fun c2 =>
  let H1 := H.set (n) (some (.row c2 0 true))
  (fieldA 0 (ptr (n) 0)).bind fun v3 =>
  (ld false 1 v3 H1).bind fun v4 =>
  (lenV false v4).bind fun v5 =>
  (C 94 [v5] H1 (n + 7)).bind fun q6 =>
  (fieldA 0 (ptr (n) 0)).bind fun v7 =>
  (ld false 1 v7 q6.2.1).bind fun v8 =>
  (lenV false v8).bind fun v9 =>
  (L (S61L0 C L) (put (put (put (put (put (put (put (put (put (put (put t 1 (ptr (n) 0)) 2 nilS) 6 v3) 7 v4) 8 v5) 9 q6.1) 3 q6.1) 10 v7) 11 v8) 12 v9) 13 (.int .i64 0)) q6.2.1 (q6.2.2 + 4)).bind fun (o10 : Out) =>
  some (o10.t 3, o10.H, o10.n + 2)
theorem s61 (C : Calling) (L : Body → Body) (t : Tm) (H : Hp) (n : Nat) : bodyK Try.prog C L Try.f61 t H n = S61 C L t H n := by kernel_rfl
theorem c61 (args : List Value) (H : Hp) (n : Nat) : Call Try.prog 61 args H n = S61 (Call Try.prog) Loop (argsT args) H n := (Call_body Try.func61 args H n).trans (s61 ..)
/-! 62: laws.eqNodeS -/
noncomputable def S62L0 (C : Calling) (L : Body → Body) : Body := fun t H n =>
  (lenV false (t 0)).bind fun v5 =>
  (binK .plain .lss (t 5) v5).bind fun v6 =>
  csel v6
    ((idxA 5 (t 0) (t 5)).bind fun v7 =>
     (ld true 5 v7 H).bind fun v8 =>
     (idxA 5 (t 1) (t 5)).bind fun v9 =>
     (ld true 5 v9 H).bind fun v10 =>
     (C 96 [v8, v10] H (n + 14)).bind fun q11 =>
     (un .not q11.1).bind fun v12 =>
     csel v12
       (some ⟨.ret, put (put (put (put (put (put (put (put (put (put (put (put (put (put (put t 11 (t 5)) 12 (t 0)) 13 v5) 14 v6) 17 (t 0)) 18 (t 5)) 19 v7) 20 v8) 21 (t 1)) 22 (t 5)) 23 v9) 24 v10) 25 q11.1) 26 v12) 4 (.bool false), q11.2.1, q11.2.2 + 1⟩)
       ((binK .plain .add (t 5) (.int .i64 1)).bind fun v13 =>
        some ⟨.normal, put (put (put (put (put (put (put (put (put (put (put (put (put (put (put (put (put t 11 (t 5)) 12 (t 0)) 13 v5) 14 v6) 17 (t 0)) 18 (t 5)) 19 v7) 20 v8) 21 (t 1)) 22 (t 5)) 23 v9) 24 v10) 25 q11.1) 26 v12) 15 (t 5)) 16 v13) 5 v13, q11.2.1, q11.2.2 + 3⟩))
    (some ⟨(.exit 0), put (put (put (put t 11 (t 5)) 12 (t 0)) 13 v5) 14 v6, H, n + 4⟩)
noncomputable def S62 (C : Calling) (L : Body → Body) (t : Tm) (H : Hp) (n : Nat) : Option (Value × Hp × Nat) :=
  (lenV false (t 0)).bind fun v1 =>
  (lenV false (t 1)).bind fun v2 =>
  (binK .plain .neq v1 v2).bind fun v3 =>
  csel v3
    (some (.bool false, H, n + 7))
    ((L (S62L0 C L) (put (put (put (put (put (put (put t 4 (.bool false)) 6 (t 0)) 7 v1) 8 (t 1)) 9 v2) 10 v3) 5 (.int .i64 0)) H (n + 7)).bind fun (o4 : Out) =>
     let o14 := outOf 0 o4
     thenK o14
       (some (.bool true, o14.H, o14.n + 1))
       (finE o14.e
          (some (o14.t 4, o14.H, o14.n))))
theorem s62 (C : Calling) (L : Body → Body) (t : Tm) (H : Hp) (n : Nat) : bodyK Try.prog C L Try.f62 t H n = S62 C L t H n := by kernel_rfl
theorem c62 (args : List Value) (H : Hp) (n : Nat) : Call Try.prog 62 args H n = S62 (Call Try.prog) Loop (argsT args) H n := (Call_body Try.func62 args H n).trans (s62 ..)
end Go.Proofs.Ytfdnlokpadbjnaa.Ax
