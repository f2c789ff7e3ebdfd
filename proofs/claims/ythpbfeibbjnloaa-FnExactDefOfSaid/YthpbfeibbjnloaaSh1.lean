/- What the bodies of some functions of the program come to in the abstract machine. -/
import Derived.Test.YthpbfeibbjnloaaProg
import Derived.Test.YthpbfeibbjnloaaAx3
set_option linter.unusedVariables false
namespace Go.Proofs.Ythpbfeibbjnloaa.Ax
open Go
set_option maxRecDepth 100000
/-! 33: laws.toNodeS -/
noncomputable def S33L0 (C : Calling) (L : Body → Body) : Body := fun t H n =>
  (lenV false (t 0)).bind fun v4 =>
  (binK .plain .lss (t 4) v4).bind fun v5 =>
  csel v5
    ((idxA 5 (t 0) (t 4)).bind fun v6 =>
     (ld true 5 v6 H).bind fun v7 =>
     (C 60 [v7] H (n + 13)).bind fun q8 =>
     (idxA 5 (t 3) (t 4)).bind fun v9 =>
     (st true 5 v9 q8.1 q8.2.1).bind fun H10 =>
     (binK .plain .add (t 4) (.int .i64 1)).bind fun v11 =>
     some ⟨.normal, put (put (put (put (put (put (put (put (put (put (put (put (put (put (put t 8 (t 4)) 9 (t 0)) 10 v4) 11 v5) 14 (t 3)) 15 (t 4)) 16 (t 0)) 17 (t 4)) 18 v6) 19 v7) 20 q8.1) 21 v9) 12 (t 4)) 13 v11) 4 v11, H10, q8.2.2 + 3⟩)
    (some ⟨(.exit 0), put (put (put (put t 8 (t 4)) 9 (t 0)) 10 v4) 11 v5, H, n + 4⟩)
noncomputable def S33 (C : Calling) (L : Body → Body) (t : Tm) (H : Hp) (n : Nat) : Option (Value × Hp × Nat) :=
  (lenV false (t 0)).bind fun v1 =>
  (mks (n + 3) 5 48 [.int .i64 0, .int .i64 0, .string ⟨#[]⟩, .int .i64 0, .int .i64 0] v1 v1 H).bind fun p2 =>
  (L (S33L0 C L) (put (put (put (put (put (put t 2 nilS) 5 (t 0)) 6 v1) 7 p2.1) 3 p2.1) 4 (.int .i64 0)) p2.2 (n + 6)).bind fun (o3 : Out) =>
  some (o3.t 3, o3.H, o3.n + 2)
theorem s33 (C : Calling) (L : Body → Body) (t : Tm) (H : Hp) (n : Nat) : bodyK Try.prog C L Try.f33 t H n = S33 C L t H n := by kernel_rfl
theorem c33 (args : List Value) (H : Hp) (n : Nat) : Call Try.prog 33 args H n = S33 (Call Try.prog) Loop (argsT args) H n := (Call_body Try.func33 args H n).trans (s33 ..)
/-! 34: impl.nodeOk -/
noncomputable def S34 (C : Calling) (L : Body → Body) (t : Tm) (H : Hp) (n : Nat) : Option (Value × Hp × Nat) :=
  (vcells (t 0)).bind fun c2 =>
  let H1 := H.set (n) (some (.row c2 0 true))
  (fieldA 2 (ptr (n) 0)).bind fun v3 =>
  (ld false 1 v3 H1).bind fun v4 =>
  (binK .plain .eql v4 (.string ⟨#[]⟩)).bind fun v5 =>
  (fieldA 3 (ptr (n) 0)).bind fun v6 =>
  (ld false 1 v6 H1).bind fun v7 =>
  (binK .plain .eql v7 (.int .i64 0)).bind fun v8 =>
  (fieldA 4 (ptr (n) 0)).bind fun v9 =>
  (ld false 1 v9 H1).bind fun v10 =>
  (binK .plain .eql v10 (.int .i64 0)).bind fun v11 =>
  (fieldA 0 (ptr (n) 0)).bind fun v12 =>
  (ld false 1 v12 H1).bind fun v13 =>
  (binK .plain .eql v13 (.int .i64 1)).bind fun v14 =>
  let t16 : Tm := put (put (put (put (put (put (put (put (put (put (put (put (put (put (put (put (put (put (put (put t 2 (ptr (n) 0)) 4 (.bool false)) 10 v3) 11 v4) 12 v5) 5 (.int .i64 0)) 6 (.int .i64 0)) 7 v5) 13 v6) 14 v7) 15 v8) 16 v9) 17 v10) 18 v11) 8 v8) 9 v11) 19 v12) 20 v13) 22 v14) 21 v14
  (csel v14
    (some ⟨.normal, t16, H1, n + 20⟩)
    ((binK .plain .eql v13 (.int .i64 2)).bind fun v17 =>
     let t19 : Tm := put (put t16 24 v17) 23 v17
     (csel v17
       (some ⟨.normal, put t19 6 (.int .i64 1), H1, n + 23⟩)
       ((binK .plain .eql v13 (.int .i64 3)).bind fun v20 =>
        let t22 : Tm := put (put t19 26 v20) 25 v20
        (csel v20
          (some ⟨.normal, put (put t22 5 (.int .i64 (-1000000000))) 6 (.int .i64 1000000000), H1, n + 26⟩)
          ((binK .plain .eql v13 (.int .i64 4)).bind fun v23 =>
           let t25 : Tm := put (put t22 28 v23) 27 v23
           (csel v23
             ((fieldA 2 (ptr (n) 0)).bind fun v26 =>
              (ld false 1 v26 H1).bind fun v27 =>
              (C 61 [v27] H1 (n + 30)).bind fun q28 =>
              some ⟨.normal, put (put (put (put t25 29 v26) 30 v27) 31 q28.1) 7 q28.1, q28.2.1, q28.2.2⟩)
             ((binK .plain .eql v13 (.int .i64 5)).bind fun v29 =>
              let t31 : Tm := put (put t25 33 v29) 32 v29
              (csel v29
                ((fieldA 3 (ptr (n) 0)).bind fun v32 =>
                 (ld false 1 v32 H1).bind fun v33 =>
                 (binK .plain .sub (t31 1) (.int .i64 1)).bind fun v34 =>
                 (C 62 [v33, .int .i64 0, v34] H1 (n + 40)).bind fun q35 =>
                 (fieldA 4 (ptr (n) 0)).bind fun v36 =>
                 (ld false 1 v36 q35.2.1).bind fun v37 =>
                 ask (ld false 1 v36 H1 = some v37) <|
                 (binK .plain .sub (t31 1) (.int .i64 1)).bind fun v38 =>
                 (C 62 [v37, .int .i64 0, v38] q35.2.1 (q35.2.2)).bind fun q39 =>
                 some ⟨.normal, put (put (put (put (put (put (put (put (put (put (put (put t31 34 v32) 35 v33) 36 (t31 1)) 37 v34) 38 q35.1) 39 v36) 40 v37) 41 (t31 1)) 42 v38) 43 q39.1) 8 q35.1) 9 q39.1, q39.2.1, q39.2.2⟩)
                ((binK .plain .eql v13 (.int .i64 6)).bind fun v40 =>
                 let t42 : Tm := put (put t31 45 v40) 44 v40
                 (csel v40
                   ((fieldA 3 (ptr (n) 0)).bind fun v43 =>
                    (ld false 1 v43 H1).bind fun v44 =>
                    (binK .plain .sub (t42 1) (.int .i64 1)).bind fun v45 =>
                    (C 62 [v44, .int .i64 0, v45] H1 (n + 37)).bind fun q46 =>
                    some ⟨.normal, put (put (put (put (put (put (put t42 46 v43) 47 v44) 48 (t42 1)) 49 v45) 50 q46.1) 6 (.int .i64 1000000000)) 8 q46.1, q46.2.1, q46.2.2⟩)
                   ((binK .plain .eql v13 (.int .i64 7)).bind fun v47 =>
                    let t49 : Tm := put (put t42 52 v47) 51 v47
                    (csel v47
                      ((fieldA 3 (ptr (n) 0)).bind fun v50 =>
                       (ld false 1 v50 H1).bind fun v51 =>
                       (binK .plain .sub (t49 1) (.int .i64 1)).bind fun v52 =>
                       (C 62 [v51, .int .i64 0, v52] H1 (n + 38)).bind fun q53 =>
                       some ⟨.normal, put (put (put (put (put (put t49 53 v50) 54 v51) 55 (t49 1)) 56 v52) 57 q53.1) 8 q53.1, q53.2.1, q53.2.2⟩)
                      ((binK .plain .eql v13 (.int .i64 8)).bind fun v54 =>
                       let t56 : Tm := put (put t49 59 v54) 58 v54
                       (csel v54
                         (some ⟨.normal, put t56 6 (.int .i64 99), H1, n + 35⟩)
                         ((binK .plain .eql v13 (.int .i64 9)).bind fun v57 =>
                          csel v57
                            (some ⟨.normal, put (put (put t56 61 v57) 60 v57) 6 (.int .i64 1000000000), H1, n + 37⟩)
                            (some ⟨.ret, put (put (put t56 61 v57) 60 v57) 4 (.bool false), H1, n + 37⟩))
                       ).bind fun (o55 : Out) =>
                       some o55)
                    ).bind fun (o48 : Out) =>
                    some o48)
                 ).bind fun (o41 : Out) =>
                 some o41)
              ).bind fun (o30 : Out) =>
              some o30)
           ).bind fun (o24 : Out) =>
           some o24)
        ).bind fun (o21 : Out) =>
        some o21)
     ).bind fun (o18 : Out) =>
     some o18)
  ).bind fun (o15 : Out) =>
  let o58 := outOf 0 o15
  thenK o58
    ((fieldA 1 (o58.t 2)).bind fun v59 =>
     (ld false 1 v59 o58.H).bind fun v60 =>
     (C 62 [v60, o58.t 5, o58.t 6] o58.H (o58.n + 15)).bind fun q61 =>
     (pickV q61.1 (gsel q61.1 true (o58.t 7) (.tuple #[])) (.bool false)).bind fun v62 =>
     (pickV v62 (gsel v62 true (o58.t 8) (.tuple #[])) (.bool false)).bind fun v63 =>
     (pickV v63 (gsel v63 true (o58.t 9) (.tuple #[])) (.bool false)).bind fun v64 =>
     some (v64, q61.2.1, q61.2.2))
    (finE o58.e
       (some (o58.t 4, o58.H, o58.n)))
theorem s34 (C : Calling) (L : Body → Body) (t : Tm) (H : Hp) (n : Nat) : bodyK Try.prog C L Try.f34 t H n = S34 C L t H n := by kernel_rfl
theorem c34 (args : List Value) (H : Hp) (n : Nat) : Call Try.prog 34 args H n = S34 (Call Try.prog) Loop (argsT args) H n := (Call_body Try.func34 args H n).trans (s34 ..)
/-! 35: laws.eqNodeS -/
noncomputable def S35L0 (C : Calling) (L : Body → Body) : Body := fun t H n =>
  (lenV false (t 0)).bind fun v5 =>
  (binK .plain .lss (t 5) v5).bind fun v6 =>
  csel v6
    ((idxA 5 (t 0) (t 5)).bind fun v7 =>
     (ld true 5 v7 H).bind fun v8 =>
     (idxA 5 (t 1) (t 5)).bind fun v9 =>
     (ld true 5 v9 H).bind fun v10 =>
     (C 63 [v8, v10] H (n + 14)).bind fun q11 =>
     (un .not q11.1).bind fun v12 =>
     csel v12
       (some ⟨.ret, put (put (put (put (put (put (put (put (put (put (put (put (put (put (put t 11 (t 5)) 12 (t 0)) 13 v5) 14 v6) 17 (t 0)) 18 (t 5)) 19 v7) 20 v8) 21 (t 1)) 22 (t 5)) 23 v9) 24 v10) 25 q11.1) 26 v12) 4 (.bool false), q11.2.1, q11.2.2 + 1⟩)
       ((binK .plain .add (t 5) (.int .i64 1)).bind fun v13 =>
        some ⟨.normal, put (put (put (put (put (put (put (put (put (put (put (put (put (put (put (put (put t 11 (t 5)) 12 (t 0)) 13 v5) 14 v6) 17 (t 0)) 18 (t 5)) 19 v7) 20 v8) 21 (t 1)) 22 (t 5)) 23 v9) 24 v10) 25 q11.1) 26 v12) 15 (t 5)) 16 v13) 5 v13, q11.2.1, q11.2.2 + 3⟩))
    (some ⟨(.exit 0), put (put (put (put t 11 (t 5)) 12 (t 0)) 13 v5) 14 v6, H, n + 4⟩)
noncomputable def S35 (C : Calling) (L : Body → Body) (t : Tm) (H : Hp) (n : Nat) : Option (Value × Hp × Nat) :=
  (lenV false (t 0)).bind fun v1 =>
  (lenV false (t 1)).bind fun v2 =>
  (binK .plain .neq v1 v2).bind fun v3 =>
  csel v3
    (some (.bool false, H, n + 7))
    ((L (S35L0 C L) (put (put (put (put (put (put (put t 4 (.bool false)) 6 (t 0)) 7 v1) 8 (t 1)) 9 v2) 10 v3) 5 (.int .i64 0)) H (n + 7)).bind fun (o4 : Out) =>
     let o14 := outOf 0 o4
     thenK o14
       (some (.bool true, o14.H, o14.n + 1))
       (finE o14.e
          (some (o14.t 4, o14.H, o14.n))))
theorem s35 (C : Calling) (L : Body → Body) (t : Tm) (H : Hp) (n : Nat) : bodyK Try.prog C L Try.f35 t H n = S35 C L t H n := by kernel_rfl
theorem c35 (args : List Value) (H : Hp) (n : Nat) : Call Try.prog 35 args H n = S35 (Call Try.prog) Loop (argsT args) H n := (Call_body Try.func35 args H n).trans (s35 ..)
/-! 36: spec.l2Has -/
noncomputable def S36 (C : Calling) (L : Body → Body) (t : Tm) (H : Hp) (n : Nat) : Option (Value × Hp × Nat) :=
  (vcells (t 0)).bind fun c2 =>
  let H1 := H.set (n) (some (.row c2 0 true))
  (fieldA 0 (ptr (n) 0)).bind fun v3 =>
  (ld false 1 v3 H1).bind fun v4 =>
  (lenV false v4).bind fun v5 =>
  (binK .plain .sub v5 (.int .i64 1)).bind fun v6 =>
  (C 58 [t 1, .int .i64 0, v6] H1 (n + 9)).bind fun q7 =>
  some (q7.1, q7.2.1, q7.2.2)
theorem s36 (C : Calling) (L : Body → Body) (t : Tm) (H : Hp) (n : Nat) : bodyK Try.prog C L Try.f36 t H n = S36 C L t H n := by kernel_rfl
theorem c36 (args : List Value) (H : Hp) (n : Nat) : Call Try.prog 36 args H n = S36 (Call Try.prog) Loop (argsT args) H n := (Call_body Try.func36 args H n).trans (s36 ..)
/-! 37: spec.l1Min -/
noncomputable def S37 (C : Calling) (L : Body → Body) (t : Tm) (H : Hp) (n : Nat) : Option (Value × Hp × Nat) :=
  (binK .plain .lss (t 0) (t 1)).bind fun v1 =>
  csel v1
    (some (t 0, H, n + 6))
    (some (t 1, H, n + 6))
theorem s37 (C : Calling) (L : Body → Body) (t : Tm) (H : Hp) (n : Nat) : bodyK Try.prog C L Try.f37 t H n = S37 C L t H n := by kernel_rfl
theorem c37 (args : List Value) (H : Hp) (n : Nat) : Call Try.prog 37 args H n = S37 (Call Try.prog) Loop (argsT args) H n := (Call_body Try.func37 args H n).trans (s37 ..)
/-! 38: impl.isNode -/
noncomputable def S38 (C : Calling) (L : Body → Body) (t : Tm) (H : Hp) (n : Nat) : Option (Value × Hp × Nat) :=
  (vcells (t 0)).bind fun c2 =>
  let H1 := H.set (n) (some (.row c2 0 true))
  (fieldA 0 (ptr (n) 0)).bind fun v3 =>
  (ld false 1 v3 H1).bind fun v4 =>
  (lenV false v4).bind fun v5 =>
  (binK .plain .sub v5 (.int .i64 1)).bind fun v6 =>
  (C 62 [t 1, .int .i64 0, v6] H1 (n + 9)).bind fun q7 =>
  some (q7.1, q7.2.1, q7.2.2)
theorem s38 (C : Calling) (L : Body → Body) (t : Tm) (H : Hp) (n : Nat) : bodyK Try.prog C L Try.f38 t H n = S38 C L t H n := by kernel_rfl
theorem c38 (args : List Value) (H : Hp) (n : Nat) : Call Try.prog 38 args H n = S38 (Call Try.prog) Loop (argsT args) H n := (Call_body Try.func38 args H n).trans (s38 ..)
/-! 39: spec.l2Classes -/
noncomputable def S39L1 (C : Calling) (L : Body → Body) : Body := fun t H n =>
  (binK .plain .lss (t 8) (t 5)).bind fun v46 =>
  csel v46
    ((idxA 5 (t 4) (t 8)).bind fun v47 =>
     (ld true 5 v47 H).bind fun v48 =>
     (ld true 5 (t 6) H).bind fun v49 =>
     (binK (.agg [(0, (.int .i64)), (1, (.int .i64)), (2, .string), (3, (.int .i64)), (4, (.int .i64))]) .eql v48 v49).bind fun v50 =>
     csel v50
       (some ⟨(.exit 3), put (put (put (put (put (put (put (put (put (put (put t 49 (t 8)) 50 (t 5)) 51 v46) 54 (t 4)) 55 (t 8)) 56 v47) 57 v48) 58 v49) 59 v50) 60 (t 8)) 7 (t 8), H, n + 11⟩)
       ((binK .plain .add (t 8) (.int .i64 1)).bind fun v51 =>
        some ⟨.normal, put (put (put (put (put (put (put (put (put (put (put (put t 49 (t 8)) 50 (t 5)) 51 v46) 54 (t 4)) 55 (t 8)) 56 v47) 57 v48) 58 v49) 59 v50) 52 (t 8)) 53 v51) 8 v51, H, n + 12⟩))
    (some ⟨(.exit 3), put (put (put t 49 (t 8)) 50 (t 5)) 51 v46, H, n + 3⟩)
noncomputable def S39L0 (C : Calling) (L : Body → Body) : Body := fun t H n =>
  (fieldA 0 (t 1)).bind fun v6 =>
  (ld false 1 v6 H).bind fun v7 =>
  (lenV false v7).bind fun v8 =>
  (binK .plain .lss (t 5) v8).bind fun v9 =>
  csel v9
    ((fieldA 0 (t 1)).bind fun v10 =>
     (ld false 1 v10 H).bind fun v11 =>
     (idxA 5 v11 (t 5)).bind fun v12 =>
     (ld true 5 v12 H).bind fun v13 =>
     let H14 := H.set (n + 10) (some (.row [.int .i64 0, .int .i64 0, .string ⟨#[]⟩, .int .i64 0, .int .i64 0] 0 true))
     (st true 5 (ptr (n + 10) 0) v13 H14).bind fun H15 =>
     (fieldA 0 (ptr (n + 10) 0)).bind fun v16 =>
     (ld false 1 v16 H15).bind fun v17 =>
     (binK .plain .eql v17 (.int .i64 5)).bind fun v18 =>
     let t20 : Tm := put (put (put (put (put (put (put (put (put (put (put (put (put (put (put t 11 (t 5)) 12 v6) 13 v7) 14 v8) 15 v9) 18 v10) 19 v11) 20 (t 5)) 21 v12) 22 v13) 6 (ptr (n + 10) 0)) 23 v16) 24 v17) 26 v18) 25 v18
     (csel v18
       ((fieldA 3 (ptr (n + 10) 0)).bind fun v21 =>
        (ld false 1 v21 H15).bind fun v22 =>
        (idxA 1 (t20 3) v22).bind fun v23 =>
        (ld false 1 v23 H15).bind fun v24 =>
        (fieldA 3 (ptr (n + 10) 0)).bind fun v25 =>
        (st false 1 v25 v24 H15).bind fun H26 =>
        (fieldA 4 (ptr (n + 10) 0)).bind fun v27 =>
        (ld false 1 v27 H26).bind fun v28 =>
        (idxA 1 (t20 3) v28).bind fun v29 =>
        (ld false 1 v29 H26).bind fun v30 =>
        (fieldA 4 (ptr (n + 10) 0)).bind fun v31 =>
        (st false 1 v31 v30 H26).bind fun H32 =>
        some ⟨.normal, put (put (put (put (put (put (put (put (put (put (put (put t20 27 (t20 3)) 28 v21) 29 v22) 30 v23) 31 v24) 32 v25) 33 (t20 3)) 34 v27) 35 v28) 36 v29) 37 v30) 38 v31, H32, n + 30⟩)
       ((binK .plain .eql v17 (.int .i64 6)).bind fun v33 =>
        let t35 : Tm := put (put t20 40 v33) 39 v33
        (csel v33
          (some ⟨.normal, t35, H15, n + 18⟩)
          ((binK .plain .eql v17 (.int .i64 7)).bind fun v36 =>
           some ⟨.normal, put (put t35 41 v36) 39 v36, H15, n + 20⟩)
        ).bind fun (o34 : Out) =>
        (csel (o34.t 39)
          ((fieldA 3 (o34.t 6)).bind fun v39 =>
           (ld false 1 v39 o34.H).bind fun v40 =>
           (idxA 1 (o34.t 3) v40).bind fun v41 =>
           (ld false 1 v41 o34.H).bind fun v42 =>
           (fieldA 3 (o34.t 6)).bind fun v43 =>
           (st false 1 v43 v42 o34.H).bind fun H44 =>
           some ⟨.normal, put (put (put (put (put (put o34.t 42 (o34.t 3)) 43 v39) 44 v40) 45 v41) 46 v42) 47 v43, H44, o34.n + 7⟩)
          (some ⟨.normal, o34.t, o34.H, o34.n⟩)
        ).bind fun (o37 : Out) =>
        some ⟨.normal, o37.t, o37.H, o37.n⟩)
     ).bind fun (o19 : Out) =>
     (L (S39L1 C L) (put (put (put o19.t 48 (o19.t 5)) 7 (o19.t 5)) 8 (.int .i64 0)) o19.H (o19.n + 3)).bind fun (o45 : Out) =>
     (ld true 5 (o45.t 6) o45.H).bind fun v52 =>
     (bsl (o45.n + 2) 5 1 [.int .i64 0, .int .i64 0, .string ⟨#[]⟩, .int .i64 0, .int .i64 0] [(0, 5, v52)] o45.H).bind fun p53 =>
     (app (o45.n + 3) 5 48 (o45.t 4) p53.1 p53.2).bind fun p54 =>
     (bsl (o45.n + 7) 1 1 [.int .i64 0] [(0, 1, o45.t 7)] p54.2).bind fun p55 =>
     (app (o45.n + 8) 1 8 (o45.t 3) p55.1 p55.2).bind fun p56 =>
     (binK .plain .add (o45.t 5) (.int .i64 1)).bind fun v57 =>
     some ⟨.normal, put (put (put (put (put (put (put (put (put (put (put (put (put o45.t 61 (o45.t 4)) 62 v52) 63 p53.1) 64 p54.1) 4 p54.1) 65 (o45.t 3)) 66 (o45.t 7)) 67 p55.1) 68 p56.1) 3 p56.1) 16 (o45.t 5)) 17 v57) 5 v57, p56.2, o45.n + 13⟩)
    (some ⟨(.exit 0), put (put (put (put (put t 11 (t 5)) 12 v6) 13 v7) 14 v8) 15 v9, H, n + 5⟩)
noncomputable def S39 (C : Calling) (L : Body → Body) (t : Tm) (H : Hp) (n : Nat) : Option (Value × Hp × Nat) :=
  (vcells (t 0)).bind fun c2 =>
  let H1 := H.set (n) (some (.row c2 0 true))
  (bsl (n + 2) 1 0 [.int .i64 0] [] H1).bind fun p3 =>
  (bsl (n + 4) 5 0 [.int .i64 0, .int .i64 0, .string ⟨#[]⟩, .int .i64 0, .int .i64 0] [] p3.2).bind fun p4 =>
  (L (S39L0 C L) (put (put (put (put (put (put (put t 1 (ptr (n) 0)) 2 nilS) 9 p3.1) 3 p3.1) 10 p4.1) 4 p4.1) 5 (.int .i64 0)) p4.2 (n + 7)).bind fun (o5 : Out) =>
  some (o5.t 3, o5.H, o5.n + 2)
theorem s39 (C : Calling) (L : Body → Body) (t : Tm) (H : Hp) (n : Nat) : bodyK Try.prog C L Try.f39 t H n = S39 C L t H n := by kernel_rfl
theorem c39 (args : List Value) (H : Hp) (n : Nat) : Call Try.prog 39 args H n = S39 (Call Try.prog) Loop (argsT args) H n := (Call_body Try.func39 args H n).trans (s39 ..)
/-! 40: impl.classes -/
noncomputable def S40L0 (C : Calling) (L : Body → Body) : Body := fun t H n =>
  (binK .plain .lss (t 14) (t 13)).bind fun v9 =>
  csel v9
    ((idxA 5 (t 12) (t 14)).bind fun v10 =>
     (ld true 5 v10 H).bind fun v11 =>
     let H12 := H.set (n + 4) (some (.row [.int .i64 0, .int .i64 0, .string ⟨#[]⟩, .int .i64 0, .int .i64 0] 0 true))
     (st true 5 (ptr (n + 4) 0) v11 H12).bind fun H13 =>
     (fieldA 0 (ptr (n + 4) 0)).bind fun v14 =>
     (ld false 1 v14 H13).bind fun v15 =>
     (binK .plain .eql v15 (.int .i64 5)).bind fun v16 =>
     let t18 : Tm := put (put (put (put (put (put (put (put (put (put t 15 v9) 16 (t 14)) 17 v10) 18 v11) 6 (ptr (n + 4) 0)) 5 (t 14)) 19 v14) 20 v15) 22 v16) 21 v16
     (csel v16
       ((fieldA 3 (ptr (n + 4) 0)).bind fun v19 =>
        (ld false 1 v19 H13).bind fun v20 =>
        (idxA 1 (t18 4) v20).bind fun v21 =>
        (ld false 1 v21 H13).bind fun v22 =>
        (fieldA 4 (ptr (n + 4) 0)).bind fun v23 =>
        (ld false 1 v23 H13).bind fun v24 =>
        (idxA 1 (t18 4) v24).bind fun v25 =>
        (ld false 1 v25 H13).bind fun v26 =>
        (fieldA 3 (ptr (n + 4) 0)).bind fun v27 =>
        (st false 1 v27 v22 H13).bind fun H28 =>
        ask (ld false 1 v25 H28 = some v26) <|
        (fieldA 4 (ptr (n + 4) 0)).bind fun v29 =>
        (st false 1 v29 v26 H28).bind fun H30 =>
        some ⟨.normal, put (put (put (put (put (put (put (put (put (put (put (put t18 23 (t18 4)) 24 v19) 25 v20) 26 v21) 27 v22) 28 (t18 4)) 29 v23) 30 v24) 31 v25) 32 v26) 33 v27) 34 v29, H30, n + 25⟩)
       ((binK .plain .eql v15 (.int .i64 6)).bind fun v31 =>
        let t33 : Tm := put (put t18 36 v31) 35 v31
        (csel v31
          (some ⟨.normal, t33, H13, n + 13⟩)
          ((binK .plain .eql v15 (.int .i64 7)).bind fun v34 =>
           some ⟨.normal, put (put t33 37 v34) 35 v34, H13, n + 15⟩)
        ).bind fun (o32 : Out) =>
        (csel (o32.t 35)
          ((fieldA 3 (o32.t 6)).bind fun v37 =>
           (ld false 1 v37 o32.H).bind fun v38 =>
           (idxA 1 (o32.t 4) v38).bind fun v39 =>
           (ld false 1 v39 o32.H).bind fun v40 =>
           (fieldA 3 (o32.t 6)).bind fun v41 =>
           (st false 1 v41 v40 o32.H).bind fun H42 =>
           some ⟨.normal, put (put (put (put (put (put o32.t 38 (o32.t 4)) 39 v37) 40 v38) 41 v39) 42 v40) 43 v41, H42, o32.n + 7⟩)
          (some ⟨.normal, o32.t, o32.H, o32.n⟩)
        ).bind fun (o35 : Out) =>
        some ⟨.normal, o35.t, o35.H, o35.n⟩)
     ).bind fun (o17 : Out) =>
     (ld true 5 (o17.t 6) o17.H).bind fun v43 =>
     (lookV [(0, (.int .i64)), (1, (.int .i64)), (2, .string), (3, (.int .i64)), (4, (.int .i64))] (.int .i64 0) true (o17.t 3) v43 o17.H).bind fun v44 =>
     (ext 0 v44).bind fun v45 =>
     (ext 1 v44).bind fun v46 =>
     (un .not v46).bind fun v47 =>
     let t49 : Tm := put (put (put (put (put (put (put (put (put (put o17.t 45 (o17.t 3)) 46 v43) 47 v44) 44 v44) 48 v45) 49 v46) 7 v45) 8 v46) 50 v46) 51 v47
     (csel v47
       ((ld true 5 (t49 6) o17.H).bind fun v50 =>
        (updV [(0, (.int .i64)), (1, (.int .i64)), (2, .string), (3, (.int .i64)), (4, (.int .i64))] (t49 3) v50 (t49 5) o17.H).bind fun H51 =>
        some ⟨.normal, put (put (put (put (put t49 52 (t49 5)) 7 (t49 5)) 53 (t49 3)) 54 v50) 55 (t49 5), H51, o17.n + 16⟩)
       (some ⟨.normal, t49, o17.H, o17.n + 10⟩)
     ).bind fun (o48 : Out) =>
     (bsl (o48.n + 2) 1 1 [.int .i64 0] [(0, 1, o48.t 7)] o48.H).bind fun p52 =>
     (app (o48.n + 3) 1 8 (o48.t 4) p52.1 p52.2).bind fun p53 =>
     (binK .plain .add (o48.t 14) (.int .i64 1)).bind fun v54 =>
     some ⟨.normal, put (put (put (put (put (put (put o48.t 56 (o48.t 4)) 57 (o48.t 7)) 58 p52.1) 59 p53.1) 4 p53.1) 60 v54) 14 v54, p53.2, o48.n + 7⟩)
    (some ⟨(.exit 0), put t 15 v9, H, n + 1⟩)
noncomputable def S40 (C : Calling) (L : Body → Body) (t : Tm) (H : Hp) (n : Nat) : Option (Value × Hp × Nat) :=
  (vcells (t 0)).bind fun c2 =>
  let H1 := H.set (n) (some (.row c2 0 true))
  let H3 := H1.set (n + 2) (some (.map []))
  (bsl (n + 4) 1 0 [.int .i64 0] [] H3).bind fun p4 =>
  (fieldA 0 (ptr (n) 0)).bind fun v5 =>
  (ld false 1 v5 p4.2).bind fun v6 =>
  (lenV false v6).bind fun v7 =>
  (L (S40L0 C L) (put (put (put (put (put (put (put (put (put (put t 1 (ptr (n) 0)) 2 nilS) 9 (.map (some (n + 2)))) 3 (.map (some (n + 2)))) 10 p4.1) 4 p4.1) 11 v5) 12 v6) 13 v7) 14 (.int .i64 0)) p4.2 (n + 10)).bind fun (o8 : Out) =>
  some (o8.t 4, o8.H, o8.n + 2)
theorem s40 (C : Calling) (L : Body → Body) (t : Tm) (H : Hp) (n : Nat) : bodyK Try.prog C L Try.f40 t H n = S40 C L t H n := by kernel_rfl
theorem c40 (args : List Value) (H : Hp) (n : Nat) : Call Try.prog 40 args H n = S40 (Call Try.prog) Loop (argsT args) H n := (Call_body Try.func40 args H n).trans (s40 ..)
/-! 41: laws.szInstrS -/
noncomputable def S41L0 (C : Calling) (L : Body → Body) : Body := fun t H n =>
  (lenV false (t 0)).bind fun v5 =>
  (binK .plain .lss (t 5) v5).bind fun v6 =>
  csel v6
    ((idxA 4 (t 0) (t 5)).bind fun v7 =>
     (ld true 4 v7 H).bind fun v8 =>
     (C 64 [v8, t 1] H (n + 11)).bind fun q9 =>
     (binK .plain .lss q9.1 (.int .i64 0)).bind fun v10 =>
     csel v10
       (some ⟨.ret, put (put (put (put (put (put (put (put (put (put (put (put (put (put t 12 (t 5)) 13 (t 0)) 14 v5) 15 v6) 18 (t 0)) 19 (t 5)) 20 v7) 21 v8) 22 (t 1)) 23 q9.1) 1 q9.1) 24 q9.1) 25 v10) 4 (.int .i64 (-1)), q9.2.1, q9.2.2 + 3⟩)
       ((binK .plain .add (t 5) (.int .i64 1)).bind fun v11 =>
        some ⟨.normal, put (put (put (put (put (put (put (put (put (put (put (put (put (put (put (put t 12 (t 5)) 13 (t 0)) 14 v5) 15 v6) 18 (t 0)) 19 (t 5)) 20 v7) 21 v8) 22 (t 1)) 23 q9.1) 1 q9.1) 24 q9.1) 25 v10) 16 (t 5)) 17 v11) 5 v11, q9.2.1, q9.2.2 + 5⟩))
    (some ⟨(.exit 0), put (put (put (put t 12 (t 5)) 13 (t 0)) 14 v5) 15 v6, H, n + 4⟩)
noncomputable def S41 (C : Calling) (L : Body → Body) (t : Tm) (H : Hp) (n : Nat) : Option (Value × Hp × Nat) :=
  (lenV false (t 0)).bind fun v1 =>
  (binK .plain .sub (t 1) v1).bind fun v2 =>
  (binK .plain .lss v2 (.int .i64 0)).bind fun v3 =>
  csel v3
    (some (.int .i64 (-1), H, n + 9))
    ((L (S41L0 C L) (put (put (put (put (put (put (put (put (put t 4 (.int .i64 0)) 6 (t 1)) 7 (t 0)) 8 v1) 9 v2) 1 v2) 10 v2) 11 v3) 5 (.int .i64 0)) H (n + 9)).bind fun (o4 : Out) =>
     let o12 := outOf 0 o4
     thenK o12
       (some (o12.t 1, o12.H, o12.n + 2))
       (finE o12.e
          (some (o12.t 4, o12.H, o12.n))))
theorem s41 (C : Calling) (L : Body → Body) (t : Tm) (H : Hp) (n : Nat) : bodyK Try.prog C L Try.f41 t H n = S41 C L t H n := by kernel_rfl
theorem c41 (args : List Value) (H : Hp) (n : Nat) : Call Try.prog 41 args H n = S41 (Call Try.prog) Loop (argsT args) H n := (Call_body Try.func41 args H n).trans (s41 ..)
/-! 42: laws.szDefS -/
noncomputable def S42L0 (C : Calling) (L : Body → Body) : Body := fun t H n =>
  (lenV false (t 0)).bind fun v5 =>
  (binK .plain .lss (t 5) v5).bind fun v6 =>
  csel v6
    ((idxA 3 (t 0) (t 5)).bind fun v7 =>
     (ld true 3 v7 H).bind fun v8 =>
     (C 65 [v8, t 1] H (n + 11)).bind fun q9 =>
     (binK .plain .lss q9.1 (.int .i64 0)).bind fun v10 =>
     csel v10
       (some ⟨.ret, put (put (put (put (put (put (put (put (put (put (put (put (put (put t 12 (t 5)) 13 (t 0)) 14 v5) 15 v6) 18 (t 0)) 19 (t 5)) 20 v7) 21 v8) 22 (t 1)) 23 q9.1) 1 q9.1) 24 q9.1) 25 v10) 4 (.int .i64 (-1)), q9.2.1, q9.2.2 + 3⟩)
       ((binK .plain .add (t 5) (.int .i64 1)).bind fun v11 =>
        some ⟨.normal, put (put (put (put (put (put (put (put (put (put (put (put (put (put (put (put t 12 (t 5)) 13 (t 0)) 14 v5) 15 v6) 18 (t 0)) 19 (t 5)) 20 v7) 21 v8) 22 (t 1)) 23 q9.1) 1 q9.1) 24 q9.1) 25 v10) 16 (t 5)) 17 v11) 5 v11, q9.2.1, q9.2.2 + 5⟩))
    (some ⟨(.exit 0), put (put (put (put t 12 (t 5)) 13 (t 0)) 14 v5) 15 v6, H, n + 4⟩)
noncomputable def S42 (C : Calling) (L : Body → Body) (t : Tm) (H : Hp) (n : Nat) : Option (Value × Hp × Nat) :=
  (lenV false (t 0)).bind fun v1 =>
  (binK .plain .sub (t 1) v1).bind fun v2 =>
  (binK .plain .lss v2 (.int .i64 0)).bind fun v3 =>
  csel v3
    (some (.int .i64 (-1), H, n + 9))
    ((L (S42L0 C L) (put (put (put (put (put (put (put (put (put t 4 (.int .i64 0)) 6 (t 1)) 7 (t 0)) 8 v1) 9 v2) 1 v2) 10 v2) 11 v3) 5 (.int .i64 0)) H (n + 9)).bind fun (o4 : Out) =>
     let o12 := outOf 0 o4
     thenK o12
       (some (o12.t 1, o12.H, o12.n + 2))
       (finE o12.e
          (some (o12.t 4, o12.H, o12.n))))
theorem s42 (C : Calling) (L : Body → Body) (t : Tm) (H : Hp) (n : Nat) : bodyK Try.prog C L Try.f42 t H n = S42 C L t H n := by kernel_rfl
theorem c42 (args : List Value) (H : Hp) (n : Nat) : Call Try.prog 42 args H n = S42 (Call Try.prog) Loop (argsT args) H n := (Call_body Try.func42 args H n).trans (s42 ..)
/-! 43: laws.toInstrS -/
noncomputable def S43L0 (C : Calling) (L : Body → Body) : Body := fun t H n =>
  (lenV false (t 0)).bind fun v4 =>
  (binK .plain .lss (t 4) v4).bind fun v5 =>
  csel v5
    ((idxA 4 (t 0) (t 4)).bind fun v6 =>
     (ld true 4 v6 H).bind fun v7 =>
     (C 66 [v7] H (n + 13)).bind fun q8 =>
     (idxA 4 (t 3) (t 4)).bind fun v9 =>
     (st true 4 v9 q8.1 q8.2.1).bind fun H10 =>
     (binK .plain .add (t 4) (.int .i64 1)).bind fun v11 =>
     some ⟨.normal, put (put (put (put (put (put (put (put (put (put (put (put (put (put (put t 8 (t 4)) 9 (t 0)) 10 v4) 11 v5) 14 (t 3)) 15 (t 4)) 16 (t 0)) 17 (t 4)) 18 v6) 19 v7) 20 q8.1) 21 v9) 12 (t 4)) 13 v11) 4 v11, H10, q8.2.2 + 3⟩)
    (some ⟨(.exit 0), put (put (put (put t 8 (t 4)) 9 (t 0)) 10 v4) 11 v5, H, n + 4⟩)
noncomputable def S43 (C : Calling) (L : Body → Body) (t : Tm) (H : Hp) (n : Nat) : Option (Value × Hp × Nat) :=
  (lenV false (t 0)).bind fun v1 =>
  (mks (n + 3) 4 40 [.int .i64 0, .int .i64 0, .int .i64 0, .string ⟨#[]⟩] v1 v1 H).bind fun p2 =>
  (L (S43L0 C L) (put (put (put (put (put (put t 2 nilS) 5 (t 0)) 6 v1) 7 p2.1) 3 p2.1) 4 (.int .i64 0)) p2.2 (n + 6)).bind fun (o3 : Out) =>
  some (o3.t 3, o3.H, o3.n + 2)
theorem s43 (C : Calling) (L : Body → Body) (t : Tm) (H : Hp) (n : Nat) : bodyK Try.prog C L Try.f43 t H n = S43 C L t H n := by kernel_rfl
theorem c43 (args : List Value) (H : Hp) (n : Nat) : Call Try.prog 43 args H n = S43 (Call Try.prog) Loop (argsT args) H n := (Call_body Try.func43 args H n).trans (s43 ..)
/-! 44: laws.toDefS -/
noncomputable def S44L0 (C : Calling) (L : Body → Body) : Body := fun t H n =>
  (lenV false (t 0)).bind fun v4 =>
  (binK .plain .lss (t 4) v4).bind fun v5 =>
  csel v5
    ((idxA 3 (t 0) (t 4)).bind fun v6 =>
     (ld true 3 v6 H).bind fun v7 =>
     (C 67 [v7] H (n + 13)).bind fun q8 =>
     (idxA 3 (t 3) (t 4)).bind fun v9 =>
     (st true 3 v9 q8.1 q8.2.1).bind fun H10 =>
     (binK .plain .add (t 4) (.int .i64 1)).bind fun v11 =>
     some ⟨.normal, put (put (put (put (put (put (put (put (put (put (put (put (put (put (put t 8 (t 4)) 9 (t 0)) 10 v4) 11 v5) 14 (t 3)) 15 (t 4)) 16 (t 0)) 17 (t 4)) 18 v6) 19 v7) 20 q8.1) 21 v9) 12 (t 4)) 13 v11) 4 v11, H10, q8.2.2 + 3⟩)
    (some ⟨(.exit 0), put (put (put (put t 8 (t 4)) 9 (t 0)) 10 v4) 11 v5, H, n + 4⟩)
noncomputable def S44 (C : Calling) (L : Body → Body) (t : Tm) (H : Hp) (n : Nat) : Option (Value × Hp × Nat) :=
  (lenV false (t 0)).bind fun v1 =>
  (mks (n + 3) 3 32 [.string ⟨#[]⟩, .int .i64 0, .int .i64 0] v1 v1 H).bind fun p2 =>
  (L (S44L0 C L) (put (put (put (put (put (put t 2 nilS) 5 (t 0)) 6 v1) 7 p2.1) 3 p2.1) 4 (.int .i64 0)) p2.2 (n + 6)).bind fun (o3 : Out) =>
  some (o3.t 3, o3.H, o3.n + 2)
theorem s44 (C : Calling) (L : Body → Body) (t : Tm) (H : Hp) (n : Nat) : bodyK Try.prog C L Try.f44 t H n = S44 C L t H n := by kernel_rfl
theorem c44 (args : List Value) (H : Hp) (n : Nat) : Call Try.prog 44 args H n = S44 (Call Try.prog) Loop (argsT args) H n := (Call_body Try.func44 args H n).trans (s44 ..)
/-! 45: impl.Def] -/
noncomputable def S45L0 (C : Calling) (L : Body → Body) : Body := fun t H n =>
  (binK .plain .lss (t 8) (t 7)).bind fun v3 =>
  csel v3
    ((idxA 3 (t 0) (t 8)).bind fun v4 =>
     (ld true 3 v4 H).bind fun v5 =>
     (calleeP (t 1) [v5]).bind fun c7 =>
     (C c7.1 c7.2 H (n + 9)).bind fun q6 =>
     csel q6.1
       (some ⟨.ret, put (put (put (put (put (put (put (put (put (put (put t 9 v3) 10 (t 8)) 5 (t 8)) 11 (t 1)) 12 (t 0)) 13 (t 8)) 14 v4) 15 v5) 16 q6.1) 17 (t 8)) 4 (t 8), q6.2.1, q6.2.2 + 2⟩)
       ((binK .plain .add (t 8) (.int .i64 1)).bind fun v8 =>
        some ⟨.normal, put (put (put (put (put (put (put (put (put (put (put t 9 v3) 10 (t 8)) 5 (t 8)) 11 (t 1)) 12 (t 0)) 13 (t 8)) 14 v4) 15 v5) 16 q6.1) 18 v8) 8 v8, q6.2.1, q6.2.2 + 2⟩))
    (some ⟨(.exit 0), put t 9 v3, H, n + 1⟩)
noncomputable def S45 (C : Calling) (L : Body → Body) (t : Tm) (H : Hp) (n : Nat) : Option (Value × Hp × Nat) :=
  (lenV false (t 0)).bind fun v1 =>
  (L (S45L0 C L) (put (put (put (put t 4 (.int .i64 0)) 6 (t 0)) 7 v1) 8 (.int .i64 0)) H (n + 4)).bind fun (o2 : Out) =>
  let o9 := outOf 0 o2
  thenK o9
    (some (.int .i64 (-1), o9.H, o9.n + 1))
    (finE o9.e
       (some (o9.t 4, o9.H, o9.n)))
theorem s45 (C : Calling) (L : Body → Body) (t : Tm) (H : Hp) (n : Nat) : bodyK Try.prog C L Try.f45 t H n = S45 C L t H n := by kernel_rfl
theorem c45 (args : List Value) (H : Hp) (n : Nat) : Call Try.prog 45 args H n = S45 (Call Try.prog) Loop (argsT args) H n := (Call_body Try.func45 args H n).trans (s45 ..)
/-! 46: impl.DefOf$1 -/
noncomputable def S46 (C : Calling) (L : Body → Body) (t : Tm) (H : Hp) (n : Nat) : Option (Value × Hp × Nat) :=
  (vcells (t 0)).bind fun c2 =>
  let H1 := H.set (n) (some (.row c2 0 true))
  (fieldA 0 (ptr (n) 0)).bind fun v3 =>
  (ld false 1 v3 H1).bind fun v4 =>
  (ld false 1 (t 1) H1).bind fun v5 =>
  (binK .plain .eql v4 v5).bind fun v6 =>
  some (v6, H1, n + 7)
theorem s46 (C : Calling) (L : Body → Body) (t : Tm) (H : Hp) (n : Nat) : bodyK Try.prog C L Try.f46 t H n = S46 C L t H n := by kernel_rfl
theorem c46 (args : List Value) (H : Hp) (n : Nat) : Call Try.prog 46 args H n = S46 (Call Try.prog) Loop (argsT args) H n := (Call_body Try.func46 args H n).trans (s46 ..)
/-! 47: laws.eqInstrS -/
noncomputable def S47L0 (C : Calling) (L : Body → Body) : Body := fun t H n =>
  (lenV false (t 0)).bind fun v5 =>
  (binK .plain .lss (t 5) v5).bind fun v6 =>
  csel v6
    ((idxA 4 (t 0) (t 5)).bind fun v7 =>
     (ld true 4 v7 H).bind fun v8 =>
     (idxA 4 (t 1) (t 5)).bind fun v9 =>
     (ld true 4 v9 H).bind fun v10 =>
     (C 68 [v8, v10] H (n + 14)).bind fun q11 =>
     (un .not q11.1).bind fun v12 =>
     csel v12
       (some ⟨.ret, put (put (put (put (put (put (put (put (put (put (put (put (put (put (put t 11 (t 5)) 12 (t 0)) 13 v5) 14 v6) 17 (t 0)) 18 (t 5)) 19 v7) 20 v8) 21 (t 1)) 22 (t 5)) 23 v9) 24 v10) 25 q11.1) 26 v12) 4 (.bool false), q11.2.1, q11.2.2 + 1⟩)
       ((binK .plain .add (t 5) (.int .i64 1)).bind fun v13 =>
        some ⟨.normal, put (put (put (put (put (put (put (put (put (put (put (put (put (put (put (put (put t 11 (t 5)) 12 (t 0)) 13 v5) 14 v6) 17 (t 0)) 18 (t 5)) 19 v7) 20 v8) 21 (t 1)) 22 (t 5)) 23 v9) 24 v10) 25 q11.1) 26 v12) 15 (t 5)) 16 v13) 5 v13, q11.2.1, q11.2.2 + 3⟩))
    (some ⟨(.exit 0), put (put (put (put t 11 (t 5)) 12 (t 0)) 13 v5) 14 v6, H, n + 4⟩)
noncomputable def S47 (C : Calling) (L : Body → Body) (t : Tm) (H : Hp) (n : Nat) : Option (Value × Hp × Nat) :=
  (lenV false (t 0)).bind fun v1 =>
  (lenV false (t 1)).bind fun v2 =>
  (binK .plain .neq v1 v2).bind fun v3 =>
  csel v3
    (some (.bool false, H, n + 7))
    ((L (S47L0 C L) (put (put (put (put (put (put (put t 4 (.bool false)) 6 (t 0)) 7 v1) 8 (t 1)) 9 v2) 10 v3) 5 (.int .i64 0)) H (n + 7)).bind fun (o4 : Out) =>
     let o14 := outOf 0 o4
     thenK o14
       (some (.bool true, o14.H, o14.n + 1))
       (finE o14.e
          (some (o14.t 4, o14.H, o14.n))))
theorem s47 (C : Calling) (L : Body → Body) (t : Tm) (H : Hp) (n : Nat) : bodyK Try.prog C L Try.f47 t H n = S47 C L t H n := by kernel_rfl
theorem c47 (args : List Value) (H : Hp) (n : Nat) : Call Try.prog 47 args H n = S47 (Call Try.prog) Loop (argsT args) H n := (Call_body Try.func47 args H n).trans (s47 ..)
/-! 48: laws.eqDefS -/
noncomputable def S48L0 (C : Calling) (L : Body → Body) : Body := fun t H n =>
  (lenV false (t 0)).bind fun v5 =>
  (binK .plain .lss (t 5) v5).bind fun v6 =>
  csel v6
    ((idxA 3 (t 0) (t 5)).bind fun v7 =>
     (ld true 3 v7 H).bind fun v8 =>
     (idxA 3 (t 1) (t 5)).bind fun v9 =>
     (ld true 3 v9 H).bind fun v10 =>
     (C 69 [v8, v10] H (n + 14)).bind fun q11 =>
     (un .not q11.1).bind fun v12 =>
     csel v12
       (some ⟨.ret, put (put (put (put (put (put (put (put (put (put (put (put (put (put (put t 11 (t 5)) 12 (t 0)) 13 v5) 14 v6) 17 (t 0)) 18 (t 5)) 19 v7) 20 v8) 21 (t 1)) 22 (t 5)) 23 v9) 24 v10) 25 q11.1) 26 v12) 4 (.bool false), q11.2.1, q11.2.2 + 1⟩)
       ((binK .plain .add (t 5) (.int .i64 1)).bind fun v13 =>
        some ⟨.normal, put (put (put (put (put (put (put (put (put (put (put (put (put (put (put (put (put t 11 (t 5)) 12 (t 0)) 13 v5) 14 v6) 17 (t 0)) 18 (t 5)) 19 v7) 20 v8) 21 (t 1)) 22 (t 5)) 23 v9) 24 v10) 25 q11.1) 26 v12) 15 (t 5)) 16 v13) 5 v13, q11.2.1, q11.2.2 + 3⟩))
    (some ⟨(.exit 0), put (put (put (put t 11 (t 5)) 12 (t 0)) 13 v5) 14 v6, H, n + 4⟩)
noncomputable def S48 (C : Calling) (L : Body → Body) (t : Tm) (H : Hp) (n : Nat) : Option (Value × Hp × Nat) :=
  (lenV false (t 0)).bind fun v1 =>
  (lenV false (t 1)).bind fun v2 =>
  (binK .plain .neq v1 v2).bind fun v3 =>
  csel v3
    (some (.bool false, H, n + 7))
    ((L (S48L0 C L) (put (put (put (put (put (put (put t 4 (.bool false)) 6 (t 0)) 7 v1) 8 (t 1)) 9 v2) 10 v3) 5 (.int .i64 0)) H (n + 7)).bind fun (o4 : Out) =>
     let o14 := outOf 0 o4
     thenK o14
       (some (.bool true, o14.H, o14.n + 1))
       (finE o14.e
          (some (o14.t 4, o14.H, o14.n))))
theorem s48 (C : Calling) (L : Body → Body) (t : Tm) (H : Hp) (n : Nat) : bodyK Try.prog C L Try.f48 t H n = S48 C L t H n := by kernel_rfl
theorem c48 (args : List Value) (H : Hp) (n : Nat) : Call Try.prog 48 args H n = S48 (Call Try.prog) Loop (argsT args) H n := (Call_body Try.func48 args H n).trans (s48 ..)
/-! 49: spec.l1New -/
noncomputable def S49L0 (C : Calling) (L : Body → Body) : Body := fun t H n =>
  (lenV false (t 0)).bind fun v4 =>
  (binK .plain .lss (t 4) v4).bind fun v5 =>
  let t7 : Tm := put (put (put (put (put t 8 (t 4)) 9 (t 0)) 10 v4) 11 v5) 12 v5
  (gsel v5 true
    ((binK .plain .lss (t7 4) (.int .i64 4000)).bind fun v8 =>
     some (put (put t7 13 (t7 4)) 14 v8, H, n + 8))
    (some (put (put t7 13 (.tuple #[])) 14 (.tuple #[]), H, n + 8))
  ).bind fun (q6 : R3) =>
  (pickV (q6.1 12) (q6.1 14) (.bool false)).bind fun v9 =>
  csel v9
    ((binK .plain .mul (q6.1 3) (.int .i64 131)).bind fun v10 =>
     (idxA 1 (q6.1 0) (q6.1 4)).bind fun v11 =>
     (ld false 1 v11 q6.2.1).bind fun v12 =>
     (conv (.toInt .i64) (q6.2.2 + 6) v12 q6.2.1).bind fun p13 =>
     (binK .plain .add v10 p13.1).bind fun v14 =>
     (binK .plain .add v14 (.int .i64 7)).bind fun v15 =>
     (binK .plain .and v15 (.int .i64 1073741823)).bind fun v16 =>
     (binK .plain .add (q6.1 4) (.int .i64 1)).bind fun v17 =>
     some ⟨.normal, put (put (put (put (put (put (put (put (put (put (put (put (put (put (put q6.1 15 v9) 18 (q6.1 3)) 19 v10) 20 (q6.1 0)) 21 (q6.1 4)) 22 v11) 23 v12) 24 p13.1) 25 v14) 26 v15) 27 v16) 3 v16) 16 (q6.1 4)) 17 v17) 4 v17, p13.2, q6.2.2 + 14⟩)
    (some ⟨(.exit 0), put q6.1 15 v9, q6.2.1, q6.2.2⟩)
noncomputable def S49 (C : Calling) (L : Body → Body) (t : Tm) (H : Hp) (n : Nat) : Option (Value × Hp × Nat) :=
  (lenV false (t 0)).bind fun v1 =>
  (binK .plain .add (.int .i64 17000) v1).bind fun v2 =>
  (L (S49L0 C L) (put (put (put (put (put (put t 2 (.pointer none)) 5 (t 0)) 6 v1) 7 v2) 3 v2) 4 (.int .i64 0)) H (n + 6)).bind fun (o3 : Out) =>
  (bld [nilS, .int .i64 0, .int .i64 0] [(0, 1, o3.t 0), (2, 1, o3.t 3)]).bind fun v18 =>
  (vcells v18).bind fun c20 =>
  let H19 := o3.H.set (o3.n + 3) (some (.row c20 0 true))
  some (ptr (o3.n + 3) 0, H19, o3.n + 5)
theorem s49 (C : Calling) (L : Body → Body) (t : Tm) (H : Hp) (n : Nat) : bodyK Try.prog C L Try.f49 t H n = S49 C L t H n := by kernel_rfl
theorem c49 (args : List Value) (H : Hp) (n : Nat) : Call Try.prog 49 args H n = S49 (Call Try.prog) Loop (argsT args) H n := (Call_body Try.func49 args H n).trans (s49 ..)
/-! 50: spec.l2Draw -/
noncomputable def S50L0 (C : Calling) (L : Body → Body) : Body := fun t H n =>
  (fieldA 0 (t 3)).bind fun v37 =>
  (ld false 1 v37 H).bind fun v38 =>
  (lenV false v38).bind fun v39 =>
  (binK .plain .lss (t 5) v39).bind fun v40 =>
  csel v40
    ((fieldA 0 (t 3)).bind fun v41 =>
     (ld false 1 v41 H).bind fun v42 =>
     (idxA 5 v42 (t 5)).bind fun v43 =>
     (fieldA 0 v43).bind fun v44 =>
     (st false 1 v44 (.int .i64 1) H).bind fun H45 =>
     (binK .plain .add (t 5) (.int .i64 1)).bind fun v46 =>
     some ⟨.normal, put (put (put (put (put (put (put (put (put (put (put (put (put t 39 (t 5)) 40 v37) 41 v38) 42 v39) 43 v40) 46 v41) 47 v42) 48 (t 5)) 49 v43) 50 v44) 44 (t 5)) 45 v46) 5 v46, H45, n + 14⟩)
    (some ⟨(.exit 0), put (put (put (put (put t 39 (t 5)) 40 v37) 41 v38) 42 v39) 43 v40, H, n + 5⟩)
noncomputable def S50 (C : Calling) (L : Body → Body) (t : Tm) (H : Hp) (n : Nat) : Option (Value × Hp × Nat) :=
  let H1 := H.set (n) (some (.row [nilS] 0 true))
  (C 70 [t 0] H1 (n + 5)).bind fun q2 =>
  let H3 := q2.2.1.set (n + 3) (some (.row [nilS] 0 true))
  (st true 1 (ptr (n + 3) 0) q2.1 H3).bind fun H4 =>
  (fieldA 0 (ptr (n + 3) 0)).bind fun v5 =>
  (ld false 1 v5 H4).bind fun v6 =>
  (lenV false v6).bind fun v7 =>
  (binK .plain .gtr v7 (.int .i64 0)).bind fun v8 =>
  let t10 : Tm := put (put (put (put (put (put (put (put (put t 2 (ptr (n) 0)) 6 (t 0)) 7 q2.1) 3 (ptr (n + 3) 0)) 8 v5) 9 v6) 10 v7) 11 v8) 12 v8
  (gsel v8 true
    ((C 51 [t10 0, .int .i64 12] H4 (q2.2.2 + 8)).bind fun q11 =>
     some (put (put t10 13 (t10 0)) 14 q11.1, q11.2.1, q11.2.2))
    (some (put (put t10 13 (.tuple #[])) 14 (.tuple #[]), H4, q2.2.2 + 8))
  ).bind fun (q9 : R3) =>
  (pickV (q9.1 12) (q9.1 14) (.bool false)).bind fun v12 =>
  let t14 : Tm := put q9.1 15 v12
  (csel v12
    ((fieldA 0 (t14 3)).bind fun v15 =>
     (ld false 1 v15 q9.2.1).bind fun v16 =>
     (lenV false v16).bind fun v17 =>
     (C 71 [t14 0, v17] q9.2.1 (q9.2.2 + 6)).bind fun q18 =>
     (fieldA 0 (t14 3)).bind fun v19 =>
     (ld false 1 v19 q18.2.1).bind fun v20 =>
     (fieldA 0 (t14 3)).bind fun v21 =>
     (ld false 1 v21 q18.2.1).bind fun v22 =>
     (idxA 5 v22 q18.1).bind fun v23 =>
     (ld true 5 v23 q18.2.1).bind fun v24 =>
     (C 72 [t14 0, v24] q18.2.1 (q18.2.2 + 12)).bind fun q25 =>
     ask (ld false 1 v19 q25.2.1 = some v20) <|
     (idxA 5 v20 q18.1).bind fun v26 =>
     (st true 5 v26 q25.1 q25.2.1).bind fun H27 =>
     some ⟨.normal, put (put (put (put (put (put (put (put (put (put (put (put (put (put (put (put (put t14 16 (t14 0)) 17 v15) 18 v16) 19 v17) 20 q18.1) 4 q18.1) 21 v19) 22 v20) 23 q18.1) 24 (t14 0)) 25 v21) 26 v22) 27 q18.1) 28 v23) 29 v24) 30 q25.1) 31 v26, H27, q25.2.2⟩)
    (some ⟨.normal, t14, q9.2.1, q9.2.2⟩)
  ).bind fun (o13 : Out) =>
  (C 51 [o13.t 0, .int .i64 60] o13.H (o13.n + 2)).bind fun q28 =>
  let t30 : Tm := put (put o13.t 32 (o13.t 0)) 33 q28.1
  (csel q28.1
    ((C 71 [t30 0, .int .i64 2] q28.2.1 (q28.2.2 + 6)).bind fun q31 =>
     (binK .plain .add (.int .i64 3000) q31.1).bind fun v32 =>
     (mks (q28.2.2 + 3) 5 48 [.int .i64 0, .int .i64 0, .string ⟨#[]⟩, .int .i64 0, .int .i64 0] v32 v32 q31.2.1).bind fun p33 =>
     (fieldA 0 (t30 3)).bind fun v34 =>
     (st false 1 v34 p33.1 p33.2).bind fun H35 =>
     (L (S50L0 C L) (put (put (put (put (put (put t30 34 (t30 0)) 35 q31.1) 36 v32) 37 p33.1) 38 v34) 5 (.int .i64 0)) H35 (q31.2.2 + 1)).bind fun (o36 : Out) =>
     some ⟨.normal, o36.t, o36.H, o36.n⟩)
    (some ⟨.normal, t30, q28.2.1, q28.2.2⟩)
  ).bind fun (o29 : Out) =>
  (ld true 1 (o29.t 3) o29.H).bind fun v47 =>
  (st true 1 (o29.t 2) v47 o29.H).bind fun H48 =>
  (ld true 1 (o29.t 2) H48).bind fun v49 =>
  some (v49, H48, o29.n + 2)
theorem s50 (C : Calling) (L : Body → Body) (t : Tm) (H : Hp) (n : Nat) : bodyK Try.prog C L Try.f50 t H n = S50 C L t H n := by kernel_rfl
theorem c50 (args : List Value) (H : Hp) (n : Nat) : Call Try.prog 50 args H n = S50 (Call Try.prog) Loop (argsT args) H n := (Call_body Try.func50 args H n).trans (s50 ..)
/-! 51: spec.l1Once -/
noncomputable def S51 (C : Calling) (L : Body → Body) (t : Tm) (H : Hp) (n : Nat) : Option (Value × Hp × Nat) :=
  (C 71 [t 0, t 1] H (n + 6)).bind fun q1 =>
  (binK .plain .eql q1.1 (.int .i64 0)).bind fun v2 =>
  some (v2, q1.2.1, q1.2.2)
theorem s51 (C : Calling) (L : Body → Body) (t : Tm) (H : Hp) (n : Nat) : bodyK Try.prog C L Try.f51 t H n = S51 C L t H n := by kernel_rfl
theorem c51 (args : List Value) (H : Hp) (n : Nat) : Call Try.prog 51 args H n = S51 (Call Try.prog) Loop (argsT args) H n := (Call_body Try.func51 args H n).trans (s51 ..)
/-! 52: spec.l2Add -/
noncomputable def S52 (C : Calling) (L : Body → Body) (t : Tm) (H : Hp) (n : Nat) : Option (Value × Hp × Nat) :=
  (vcells (t 1)).bind fun c2 =>
  let H1 := H.set (n) (some (.row c2 0 true))
  (nilchk (t 0)).bind fun v3 =>
  (fieldA 0 v3).bind fun v4 =>
  (ld false 1 v4 H1).bind fun v5 =>
  (ld true 5 (ptr (n) 0) H1).bind fun v6 =>
  (bsl (n + 8) 5 1 [.int .i64 0, .int .i64 0, .string ⟨#[]⟩, .int .i64 0, .int .i64 0] [(0, 5, v6)] H1).bind fun p7 =>
  (app (n + 9) 5 48 v5 p7.1 p7.2).bind fun p8 =>
  (nilchk (t 0)).bind fun v9 =>
  (fieldA 0 v9).bind fun v10 =>
  (st false 1 v10 p8.1 p8.2).bind fun H11 =>
  (nilchk (t 0)).bind fun v12 =>
  (fieldA 0 v12).bind fun v13 =>
  (ld false 1 v13 H11).bind fun v14 =>
  (lenV false v14).bind fun v15 =>
  (binK .plain .sub v15 (.int .i64 1)).bind fun v16 =>
  some (v16, H11, n + 20)
theorem s52 (C : Calling) (L : Body → Body) (t : Tm) (H : Hp) (n : Nat) : bodyK Try.prog C L Try.f52 t H n = S52 C L t H n := by kernel_rfl
theorem c52 (args : List Value) (H : Hp) (n : Nat) : Call Try.prog 52 args H n = S52 (Call Try.prog) Loop (argsT args) H n := (Call_body Try.func52 args H n).trans (s52 ..)
/-! 53: spec.l2DrawAt -/
noncomputable def S53 (C : Calling) (L : Body → Body) (t : Tm) (H : Hp) (n : Nat) : Option (Value × Hp × Nat) :=
  (vcells (t 1)).bind fun c2 =>
  let H1 := H.set (n) (some (.row c2 0 true))
  (fieldA 0 (ptr (n) 0)).bind fun v3 =>
  (ld false 1 v3 H1).bind fun v4 =>
  (lenV false v4).bind fun v5 =>
  (binK .plain .eql v5 (.int .i64 0)).bind fun v6 =>
  let t8 : Tm := put (put (put (put (put (put (put t 3 (ptr (n) 0)) 4 (.int .i64 0)) 5 v3) 6 v4) 7 v5) 8 v6) 9 v6
  (gsel v6 false
    ((C 51 [t8 0, .int .i64 20] H1 (n + 10)).bind fun q9 =>
     some (put (put t8 10 (t8 0)) 11 q9.1, q9.2.1, q9.2.2))
    (some (put (put t8 10 (.tuple #[])) 11 (.tuple #[]), H1, n + 10))
  ).bind fun (q7 : R3) =>
  (pickV (q7.1 9) (.bool true) (q7.1 11)).bind fun v10 =>
  csel v10
    ((fieldA 0 (q7.1 3)).bind fun v11 =>
     (ld false 1 v11 q7.2.1).bind fun v12 =>
     (lenV false v12).bind fun v13 =>
     (bsl (q7.2.2 + 4) 1 3 [.int .i64 0] [(0, 1, .int .i64 (-1)), (1, 1, .int .i64 0), (2, 1, v13)] q7.2.1).bind fun p14 =>
     (C 73 [q7.1 0, p14.1] p14.2 (q7.2.2 + 7)).bind fun q15 =>
     some (q15.1, q15.2.1, q15.2.2))
    ((fieldA 0 (q7.1 3)).bind fun v16 =>
     (ld false 1 v16 q7.2.1).bind fun v17 =>
     (lenV false v17).bind fun v18 =>
     (binK .plain .sub v18 (.int .i64 1)).bind fun v19 =>
     (fieldA 0 (q7.1 3)).bind fun v20 =>
     (ld false 1 v20 q7.2.1).bind fun v21 =>
     (lenV false v21).bind fun v22 =>
     (C 37 [v22, .int .i64 9] q7.2.1 (q7.2.2 + 12)).bind fun q23 =>
     ask (ld false 1 v16 q23.2.1 = some v17) <|
     (C 71 [q7.1 0, q23.1] q23.2.1 (q23.2.2)).bind fun q24 =>
     ask (ld false 1 v16 q24.2.1 = some v17) <|
     (binK .plain .sub v19 q24.1).bind fun v25 =>
     some (v25, q24.2.1, q24.2.2))
theorem s53 (C : Calling) (L : Body → Body) (t : Tm) (H : Hp) (n : Nat) : bodyK Try.prog C L Try.f53 t H n = S53 C L t H n := by kernel_rfl
theorem c53 (args : List Value) (H : Hp) (n : Nat) : Call Try.prog 53 args H n = S53 (Call Try.prog) Loop (argsT args) H n := (Call_body Try.func53 args H n).trans (s53 ..)
/-! 54: spec.l2ListOf -/
noncomputable def S54L0 (C : Calling) (L : Body → Body) : Body := fun t H n =>
  (fieldA 0 (t 2)).bind fun v5 =>
  (ld false 1 v5 H).bind fun v6 =>
  (idxA 5 v6 (t 1)).bind fun v7 =>
  (fieldA 0 v7).bind fun v8 =>
  (ld false 1 v8 H).bind fun v9 =>
  (binK .plain .eql v9 (.int .i64 5)).bind fun v10 =>
  csel v10
    ((fieldA 0 (t 2)).bind fun v11 =>
     (ld false 1 v11 H).bind fun v12 =>
     (idxA 5 v12 (t 1)).bind fun v13 =>
     (fieldA 3 v13).bind fun v14 =>
     (ld false 1 v14 H).bind fun v15 =>
     (bsl (n + 14) 1 1 [.int .i64 0] [(0, 1, v15)] H).bind fun p16 =>
     (app (n + 15) 1 8 (t 6) p16.1 p16.2).bind fun p17 =>
     (fieldA 0 (t 2)).bind fun v18 =>
     (ld false 1 v18 p17.2).bind fun v19 =>
     (idxA 5 v19 (t 1)).bind fun v20 =>
     (fieldA 4 v20).bind fun v21 =>
     (ld false 1 v21 p17.2).bind fun v22 =>
     some ⟨.normal, put (put (put (put (put (put (put (put (put (put (put (put (put (put (put (put (put (put (put (put (put (put (put (put t 8 v5) 9 v6) 10 (t 1)) 11 v7) 12 v8) 13 v9) 14 v10) 15 (t 6)) 16 v11) 17 v12) 18 (t 1)) 19 v13) 20 v14) 21 v15) 22 p16.1) 23 p17.1) 6 p17.1) 24 v18) 25 v19) 26 (t 1)) 27 v20) 28 v21) 29 v22) 1 v22, p17.2, n + 24⟩)
    (some ⟨(.exit 0), put (put (put (put (put (put (put t 8 v5) 9 v6) 10 (t 1)) 11 v7) 12 v8) 13 v9) 14 v10, H, n + 7⟩)
noncomputable def S54 (C : Calling) (L : Body → Body) (t : Tm) (H : Hp) (n : Nat) : Option (Value × Hp × Nat) :=
  (vcells (t 0)).bind fun c2 =>
  let H1 := H.set (n) (some (.row c2 0 true))
  (bsl (n + 3) 1 0 [.int .i64 0] [] H1).bind fun p3 =>
  (L (S54L0 C L) (put (put (put (put (put t 2 (ptr (n) 0)) 4 nilS) 5 (.bool false)) 7 p3.1) 6 p3.1) p3.2 (n + 5)).bind fun (o4 : Out) =>
  (fieldA 0 (o4.t 2)).bind fun v23 =>
  (ld false 1 v23 o4.H).bind fun v24 =>
  (idxA 5 v24 (o4.t 1)).bind fun v25 =>
  (fieldA 0 v25).bind fun v26 =>
  (ld false 1 v26 o4.H).bind fun v27 =>
  (binK .plain .neq v27 (.int .i64 1)).bind fun v28 =>
  csel v28
    ((bsl (o4.n + 7) 1 0 [.int .i64 0] [] o4.H).bind fun p29 =>
     iteK ([p29.1, .bool false].all notTup) <|
     some (.tuple ⟨[p29.1, .bool false]⟩, p29.2, o4.n + 10))
    (iteK ([o4.t 6, .bool true].all notTup) <|
     some (.tuple ⟨[o4.t 6, .bool true]⟩, o4.H, o4.n + 10))
theorem s54 (C : Calling) (L : Body → Body) (t : Tm) (H : Hp) (n : Nat) : bodyK Try.prog C L Try.f54 t H n = S54 C L t H n := by kernel_rfl
theorem c54 (args : List Value) (H : Hp) (n : Nat) : Call Try.prog 54 args H n = S54 (Call Try.prog) Loop (argsT args) H n := (Call_body Try.func54 args H n).trans (s54 ..)
/-! 55: impl.Pool).listOf -/
noncomputable def S55L0 (C : Calling) (L : Body → Body) : Body := fun t H n =>
  (nilchk (t 0)).bind fun v3 =>
  (fieldA 0 v3).bind fun v4 =>
  (ld false 1 v4 H).bind fun v5 =>
  (idxA 5 v5 (t 1)).bind fun v6 =>
  (fieldA 0 v6).bind fun v7 =>
  (ld false 1 v7 H).bind fun v8 =>
  (binK .plain .eql v8 (.int .i64 5)).bind fun v9 =>
  csel v9
    ((nilchk (t 0)).bind fun v10 =>
     (fieldA 0 v10).bind fun v11 =>
     (ld false 1 v11 H).bind fun v12 =>
     (idxA 5 v12 (t 1)).bind fun v13 =>
     (fieldA 3 v13).bind fun v14 =>
     (ld false 1 v14 H).bind fun v15 =>
     (bsl (n + 18) 1 1 [.int .i64 0] [(0, 1, v15)] H).bind fun p16 =>
     (app (n + 19) 1 8 (t 6) p16.1 p16.2).bind fun p17 =>
     (nilchk (t 0)).bind fun v18 =>
     (fieldA 0 v18).bind fun v19 =>
     (ld false 1 v19 p17.2).bind fun v20 =>
     (idxA 5 v20 (t 1)).bind fun v21 =>
     (fieldA 4 v21).bind fun v22 =>
     (ld false 1 v22 p17.2).bind fun v23 =>
     some ⟨.normal, put (put (put (put (put (put (put (put (put (put (put (put (put (put (put (put (put (put (put (put (put (put (put (put (put (put (put (put (put (put t 8 (t 0)) 9 v3) 10 v4) 11 v5) 12 (t 1)) 13 v6) 14 v7) 15 v8) 16 v9) 17 (t 6)) 18 (t 0)) 19 v10) 20 v11) 21 v12) 22 (t 1)) 23 v13) 24 v14) 25 v15) 26 p16.1) 27 p17.1) 6 p17.1) 28 (t 0)) 29 v18) 30 v19) 31 v20) 32 (t 1)) 33 v21) 34 v22) 35 v23) 1 v23, p17.2, n + 30⟩)
    (some ⟨(.exit 0), put (put (put (put (put (put (put (put (put t 8 (t 0)) 9 v3) 10 v4) 11 v5) 12 (t 1)) 13 v6) 14 v7) 15 v8) 16 v9, H, n + 9⟩)
noncomputable def S55 (C : Calling) (L : Body → Body) (t : Tm) (H : Hp) (n : Nat) : Option (Value × Hp × Nat) :=
  (bsl (n + 2) 1 0 [.int .i64 0] [] H).bind fun p1 =>
  (L (S55L0 C L) (put (put (put (put t 4 nilS) 5 (.bool false)) 7 p1.1) 6 p1.1) p1.2 (n + 4)).bind fun (o2 : Out) =>
  (nilchk (o2.t 0)).bind fun v24 =>
  (fieldA 0 v24).bind fun v25 =>
  (ld false 1 v25 o2.H).bind fun v26 =>
  (idxA 5 v26 (o2.t 1)).bind fun v27 =>
  (fieldA 0 v27).bind fun v28 =>
  (ld false 1 v28 o2.H).bind fun v29 =>
  (binK .plain .eql v29 (.int .i64 1)).bind fun v30 =>
  iteK ([o2.t 6, v30].all notTup) <|
  some (.tuple ⟨[o2.t 6, v30]⟩, o2.H, o2.n + 12)
theorem s55 (C : Calling) (L : Body → Body) (t : Tm) (H : Hp) (n : Nat) : bodyK Try.prog C L Try.f55 t H n = S55 C L t H n := by kernel_rfl
theorem c55 (args : List Value) (H : Hp) (n : Nat) : Call Try.prog 55 args H n = S55 (Call Try.prog) Loop (argsT args) H n := (Call_body Try.func55 args H n).trans (s55 ..)
/-! 56: laws.markNodeS -/
noncomputable def S56L0 (C : Calling) (L : Body → Body) : Body := fun t H n =>
  (lenV false (t 0)).bind fun v2 =>
  (binK .plain .lss (t 5) v2).bind fun v3 =>
  csel v3
    ((idxA 5 (t 0) (t 5)).bind fun v4 =>
     (fieldA 0 v4).bind fun v5 =>
     (st false 1 v5 (t 1) H).bind fun H6 =>
     (binK .plain .add (t 1) (.int .i64 1)).bind fun v7 =>
     (idxA 5 (t 0) (t 5)).bind fun v8 =>
     (fieldA 1 v8).bind fun v9 =>
     (st false 1 v9 v7 H6).bind fun H10 =>
     (binK .plain .add v7 (.int .i64 1)).bind fun v11 =>
     (C 74 [v11] H10 (n + 29)).bind fun q12 =>
     (idxA 5 (t 0) (t 5)).bind fun v13 =>
     (fieldA 2 v13).bind fun v14 =>
     (st false 1 v14 q12.1 q12.2.1).bind fun H15 =>
     (binK .plain .add v11 (.int .i64 1)).bind fun v16 =>
     (idxA 5 (t 0) (t 5)).bind fun v17 =>
     (fieldA 3 v17).bind fun v18 =>
     (st false 1 v18 v16 H15).bind fun H19 =>
     (binK .plain .add v16 (.int .i64 1)).bind fun v20 =>
     (idxA 5 (t 0) (t 5)).bind fun v21 =>
     (fieldA 4 v21).bind fun v22 =>
     (st false 1 v22 v20 H19).bind fun H23 =>
     (binK .plain .add v20 (.int .i64 1)).bind fun v24 =>
     (binK .plain .add (t 5) (.int .i64 1)).bind fun v25 =>
     some ⟨.normal, put (put (put (put (put (put (put (put (put (put (put (put (put (put (put (put (put (put (put (put (put (put (put (put (put (put (put (put (put (put (put (put (put (put (put (put (put (put (put (put (put (put (put (put (put (put (put (put t 6 (t 5)) 7 (t 0)) 8 v2) 9 v3) 12 (t 0)) 13 (t 5)) 14 (t 1)) 15 v4) 16 v5) 17 (t 1)) 18 v7) 1 v7) 19 (t 0)) 20 (t 5)) 21 v7) 22 v8) 23 v9) 24 v7) 25 v11) 1 v11) 26 (t 0)) 27 (t 5)) 28 v11) 29 q12.1) 30 v13) 31 v14) 32 v11) 33 v16) 1 v16) 34 (t 0)) 35 (t 5)) 36 v16) 37 v17) 38 v18) 39 v16) 40 v20) 1 v20) 41 (t 0)) 42 (t 5)) 43 v20) 44 v21) 45 v22) 46 v20) 47 v24) 1 v24) 10 (t 5)) 11 v25) 5 v25, H23, q12.2.2 + 24⟩)
    (some ⟨(.exit 0), put (put (put (put t 6 (t 5)) 7 (t 0)) 8 v2) 9 v3, H, n + 4⟩)
noncomputable def S56 (C : Calling) (L : Body → Body) (t : Tm) (H : Hp) (n : Nat) : Option (Value × Hp × Nat) :=
  (L (S56L0 C L) (put (put t 4 (.int .i64 0)) 5 (.int .i64 0)) H (n + 2)).bind fun (o1 : Out) =>
  some (o1.t 1, o1.H, o1.n + 2)
theorem s56 (C : Calling) (L : Body → Body) (t : Tm) (H : Hp) (n : Nat) : bodyK Try.prog C L Try.f56 t H n = S56 C L t H n := by kernel_rfl
theorem c56 (args : List Value) (H : Hp) (n : Nat) : Call Try.prog 56 args H n = S56 (Call Try.prog) Loop (argsT args) H n := (Call_body Try.func56 args H n).trans (s56 ..)
/-! 57: laws.szNode -/
noncomputable def S57 (C : Calling) (L : Body → Body) (t : Tm) (H : Hp) (n : Nat) : Option (Value × Hp × Nat) :=
  (vcells (t 0)).bind fun c2 =>
  let H1 := H.set (n) (some (.row c2 0 true))
  (fieldA 2 (ptr (n) 0)).bind fun v3 =>
  (ld false 1 v3 H1).bind fun v4 =>
  (lenV true v4).bind fun v5 =>
  (binK .plain .sub (t 1) v5).bind fun v6 =>
  (binK .plain .lss v6 (.int .i64 0)).bind fun v7 =>
  csel v7
    (some (.int .i64 (-1), H1, n + 11))
    (some (v6, H1, n + 12))
theorem s57 (C : Calling) (L : Body → Body) (t : Tm) (H : Hp) (n : Nat) : bodyK Try.prog C L Try.f57 t H n = S57 C L t H n := by kernel_rfl
theorem c57 (args : List Value) (H : Hp) (n : Nat) : Call Try.prog 57 args H n = S57 (Call Try.prog) Loop (argsT args) H n := (Call_body Try.func57 args H n).trans (s57 ..)
/-! 58: spec.l1In -/
noncomputable def S58 (C : Calling) (L : Body → Body) (t : Tm) (H : Hp) (n : Nat) : Option (Value × Hp × Nat) :=
  (binK .plain .geq (t 0) (t 1)).bind fun v1 =>
  let t3 : Tm := put (put (put (put (put t 6 (.bool false)) 7 (t 0)) 8 (t 1)) 9 v1) 10 v1
  (gsel v1 true
    ((binK .plain .leq (t3 0) (t3 2)).bind fun v4 =>
     some (put (put (put t3 11 (t3 0)) 12 (t3 2)) 13 v4, H, n + 10))
    (some (put (put (put t3 11 (.tuple #[])) 12 (.tuple #[])) 13 (.tuple #[]), H, n + 10))
  ).bind fun (q2 : R3) =>
  (pickV (q2.1 10) (q2.1 13) (.bool false)).bind fun v5 =>
  some (v5, q2.2.1, q2.2.2)
theorem s58 (C : Calling) (L : Body → Body) (t : Tm) (H : Hp) (n : Nat) : bodyK Try.prog C L Try.f58 t H n = S58 C L t H n := by kernel_rfl
theorem c58 (args : List Value) (H : Hp) (n : Nat) : Call Try.prog 58 args H n = S58 (Call Try.prog) Loop (argsT args) H n := (Call_body Try.func58 args H n).trans (s58 ..)
/-! 59: spec.NameOk -/
noncomputable def S59L0 (C : Calling) (L : Body → Body) : Body := fun t H n =>
  (lenV true (t 0)).bind fun v2 =>
  (binK .plain .lss (t 3) v2).bind fun v3 =>
  csel v3
    ((idxS (t 0) (t 3)).bind fun v4 =>
     (C 75 [v4] H (n + 9)).bind fun q5 =>
     (un .not q5.1).bind fun v6 =>
     csel v6
       (some ⟨.ret, put (put (put (put (put (put (put (put (put (put t 4 (t 3)) 5 (t 0)) 6 v2) 7 v3) 10 (t 0)) 11 (t 3)) 12 v4) 13 q5.1) 14 v6) 2 (.bool false), q5.2.1, q5.2.2 + 1⟩)
       ((binK .plain .add (t 3) (.int .i64 1)).bind fun v7 =>
        some ⟨.normal, put (put (put (put (put (put (put (put (put (put (put (put t 4 (t 3)) 5 (t 0)) 6 v2) 7 v3) 10 (t 0)) 11 (t 3)) 12 v4) 13 q5.1) 14 v6) 8 (t 3)) 9 v7) 3 v7, q5.2.1, q5.2.2 + 3⟩))
    (some ⟨(.exit 0), put (put (put (put t 4 (t 3)) 5 (t 0)) 6 v2) 7 v3, H, n + 4⟩)
noncomputable def S59 (C : Calling) (L : Body → Body) (t : Tm) (H : Hp) (n : Nat) : Option (Value × Hp × Nat) :=
  (L (S59L0 C L) (put (put t 2 (.bool false)) 3 (.int .i64 0)) H (n + 2)).bind fun (o1 : Out) =>
  let o8 := outOf 0 o1
  thenK o8
    ((lenV true (o8.t 0)).bind fun v9 =>
     (C 58 [v9, .int .i64 1, .int .i64 12] o8.H (o8.n + 4)).bind fun q10 =>
     some (q10.1, q10.2.1, q10.2.2))
    (finE o8.e
       (some (o8.t 2, o8.H, o8.n)))
theorem s59 (C : Calling) (L : Body → Body) (t : Tm) (H : Hp) (n : Nat) : bodyK Try.prog C L Try.f59 t H n = S59 C L t H n := by kernel_rfl
theorem c59 (args : List Value) (H : Hp) (n : Nat) : Call Try.prog 59 args H n = S59 (Call Try.prog) Loop (argsT args) H n := (Call_body Try.func59 args H n).trans (s59 ..)
/-! 60: laws.toNode -/
noncomputable def S60 (C : Calling) (L : Body → Body) (t : Tm) (H : Hp) (n : Nat) : Option (Value × Hp × Nat) :=
  (vcells (t 0)).bind fun c2 =>
  let H1 := H.set (n) (some (.row c2 0 true))
  let H3 := H1.set (n + 1) (some (.row [.int .i64 0, .int .i64 0, .string ⟨#[]⟩, .int .i64 0, .int .i64 0] 0 true))
  let H4 := H3.set (n + 2) (some (.row [.int .i64 0, .int .i64 0, .string ⟨#[]⟩, .int .i64 0, .int .i64 0] 0 true))
  (fieldA 0 (ptr (n) 0)).bind fun v5 =>
  (ld false 1 v5 H4).bind fun v6 =>
  (fieldA 0 (ptr (n + 2) 0)).bind fun v7 =>
  (st false 1 v7 v6 H4).bind fun H8 =>
  (fieldA 1 (ptr (n) 0)).bind fun v9 =>
  (ld false 1 v9 H8).bind fun v10 =>
  (fieldA 1 (ptr (n + 2) 0)).bind fun v11 =>
  (st false 1 v11 v10 H8).bind fun H12 =>
  (fieldA 2 (ptr (n) 0)).bind fun v13 =>
  (ld false 1 v13 H12).bind fun v14 =>
  (fieldA 2 (ptr (n + 2) 0)).bind fun v15 =>
  (st false 1 v15 v14 H12).bind fun H16 =>
  (fieldA 3 (ptr (n) 0)).bind fun v17 =>
  (ld false 1 v17 H16).bind fun v18 =>
  (fieldA 3 (ptr (n + 2) 0)).bind fun v19 =>
  (st false 1 v19 v18 H16).bind fun H20 =>
  (fieldA 4 (ptr (n) 0)).bind fun v21 =>
  (ld false 1 v21 H20).bind fun v22 =>
  (fieldA 4 (ptr (n + 2) 0)).bind fun v23 =>
  (st false 1 v23 v22 H20).bind fun H24 =>
  (ld true 5 (ptr (n + 2) 0) H24).bind fun v25 =>
  (st true 5 (ptr (n + 1) 0) v25 H24).bind fun H26 =>
  (ld true 5 (ptr (n + 1) 0) H26).bind fun v27 =>
  some (v27, H26, n + 25)
theorem s60 (C : Calling) (L : Body → Body) (t : Tm) (H : Hp) (n : Nat) : bodyK Try.prog C L Try.f60 t H n = S60 C L t H n := by kernel_rfl
theorem c60 (args : List Value) (H : Hp) (n : Nat) : Call Try.prog 60 args H n = S60 (Call Try.prog) Loop (argsT args) H n := (Call_body Try.func60 args H n).trans (s60 ..)
/-! 61: impl.NameOk -/
noncomputable def S61L0 (C : Calling) (L : Body → Body) : Body := fun t H n =>
  (binK .plain .lss (t 10) (t 9)).bind fun v6 =>
  csel v6
    ((idxS (t 0) (t 10)).bind fun v7 =>
     (C 76 [v7] H (n + 8)).bind fun q8 =>
     (un .not q8.1).bind fun v9 =>
     csel v9
       (some ⟨.ret, put (put (put (put (put (put (put (put (put t 11 v6) 12 (t 10)) 3 (t 10)) 13 (t 0)) 14 (t 10)) 15 v7) 16 q8.1) 17 v9) 2 (.bool false), q8.2.1, q8.2.2 + 1⟩)
       ((binK .plain .add (t 10) (.int .i64 1)).bind fun v10 =>
        some ⟨.normal, put (put (put (put (put (put (put (put (put (put t 11 v6) 12 (t 10)) 3 (t 10)) 13 (t 0)) 14 (t 10)) 15 v7) 16 q8.1) 17 v9) 18 v10) 10 v10, q8.2.1, q8.2.2 + 2⟩))
    (some ⟨(.exit 0), put t 11 v6, H, n + 1⟩)
noncomputable def S61 (C : Calling) (L : Body → Body) (t : Tm) (H : Hp) (n : Nat) : Option (Value × Hp × Nat) :=
  (lenV true (t 0)).bind fun v1 =>
  (C 62 [v1, .int .i64 1, .int .i64 12] H (n + 5)).bind fun q2 =>
  (un .not q2.1).bind fun v3 =>
  csel v3
    (some (.bool false, q2.2.1, q2.2.2 + 1))
    ((lenV true (t 0)).bind fun v4 =>
     (L (S61L0 C L) (put (put (put (put (put (put (put (put t 2 (.bool false)) 4 (t 0)) 5 v1) 6 q2.1) 7 v3) 8 (t 0)) 9 v4) 10 (.int .i64 0)) q2.2.1 (q2.2.2 + 3)).bind fun (o5 : Out) =>
     let o11 := outOf 0 o5
     thenK o11
       (some (.bool true, o11.H, o11.n + 1))
       (finE o11.e
          (some (o11.t 2, o11.H, o11.n))))
theorem s61 (C : Calling) (L : Body → Body) (t : Tm) (H : Hp) (n : Nat) : bodyK Try.prog C L Try.f61 t H n = S61 C L t H n := by kernel_rfl
theorem c61 (args : List Value) (H : Hp) (n : Nat) : Call Try.prog 61 args H n = S61 (Call Try.prog) Loop (argsT args) H n := (Call_body Try.func61 args H n).trans (s61 ..)
/-! 62: impl.within -/
noncomputable def S62 (C : Calling) (L : Body → Body) (t : Tm) (H : Hp) (n : Nat) : Option (Value × Hp × Nat) :=
  (binK .plain .geq (t 0) (t 1)).bind fun v1 =>
  let t3 : Tm := put (put (put (put (put t 6 (.bool false)) 7 (t 0)) 8 (t 1)) 9 v1) 10 v1
  (gsel v1 true
    ((binK .plain .leq (t3 0) (t3 2)).bind fun v4 =>
     some (put (put (put t3 11 (t3 0)) 12 (t3 2)) 13 v4, H, n + 10))
    (some (put (put (put t3 11 (.tuple #[])) 12 (.tuple #[])) 13 (.tuple #[]), H, n + 10))
  ).bind fun (q2 : R3) =>
  (pickV (q2.1 10) (q2.1 13) (.bool false)).bind fun v5 =>
  some (v5, q2.2.1, q2.2.2)
theorem s62 (C : Calling) (L : Body → Body) (t : Tm) (H : Hp) (n : Nat) : bodyK Try.prog C L Try.f62 t H n = S62 C L t H n := by kernel_rfl
theorem c62 (args : List Value) (H : Hp) (n : Nat) : Call Try.prog 62 args H n = S62 (Call Try.prog) Loop (argsT args) H n := (Call_body Try.func62 args H n).trans (s62 ..)
end Go.Proofs.Ythpbfeibbjnloaa.Ax
