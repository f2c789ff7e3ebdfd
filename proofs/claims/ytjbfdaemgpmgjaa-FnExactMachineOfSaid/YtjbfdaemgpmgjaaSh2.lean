/- What the bodies of some functions of the program come to in the abstract machine. -/
import Derived.Test.YtjbfdaemgpmgjaaProg
import Derived.Test.YtjbfdaemgpmgjaaAx3
set_option linter.unusedVariables false
namespace Go.Proofs.Ytjbfdaemgpmgjaa.Ax
open Go
set_option maxRecDepth 100000
/-! 106: laws.eqNode -/
noncomputable def S106 (C : Calling) (L : Body → Body) (t : Tm) (H : Hp) (n : Nat) : Option (Value × Hp × Nat) :=
  (vcells (t 0)).bind fun c2 =>
  let H1 := H.set (n) (some (.row c2 0 true))
  (vcells (t 1)).bind fun c4 =>
  let H3 := H1.set (n + 1) (some (.row c4 0 true))
  (fieldA 0 (ptr (n) 0)).bind fun v5 =>
  (ld false 1 v5 H3).bind fun v6 =>
  (fieldA 0 (ptr (n + 1) 0)).bind fun v7 =>
  (ld false 1 v7 H3).bind fun v8 =>
  (binK .plain .neq v6 v8).bind fun v9 =>
  csel v9
    (some (.bool false, H3, n + 9))
    ((fieldA 1 (ptr (n) 0)).bind fun v10 =>
     (ld false 1 v10 H3).bind fun v11 =>
     (fieldA 1 (ptr (n + 1) 0)).bind fun v12 =>
     (ld false 1 v12 H3).bind fun v13 =>
     (binK .plain .neq v11 v13).bind fun v14 =>
     csel v14
       (some (.bool false, H3, n + 14))
       ((fieldA 2 (ptr (n) 0)).bind fun v15 =>
        (ld false 1 v15 H3).bind fun v16 =>
        (fieldA 2 (ptr (n + 1) 0)).bind fun v17 =>
        (ld false 1 v17 H3).bind fun v18 =>
        (binK .plain .neq v16 v18).bind fun v19 =>
        csel v19
          (some (.bool false, H3, n + 19))
          ((fieldA 3 (ptr (n) 0)).bind fun v20 =>
           (ld false 1 v20 H3).bind fun v21 =>
           (fieldA 3 (ptr (n + 1) 0)).bind fun v22 =>
           (ld false 1 v22 H3).bind fun v23 =>
           (binK .plain .neq v21 v23).bind fun v24 =>
           csel v24
             (some (.bool false, H3, n + 24))
             ((fieldA 4 (ptr (n) 0)).bind fun v25 =>
              (ld false 1 v25 H3).bind fun v26 =>
              (fieldA 4 (ptr (n + 1) 0)).bind fun v27 =>
              (ld false 1 v27 H3).bind fun v28 =>
              (binK .plain .neq v26 v28).bind fun v29 =>
              csel v29
                (some (.bool false, H3, n + 29))
                (some (.bool true, H3, n + 29))))))
theorem s106 (C : Calling) (L : Body → Body) (t : Tm) (H : Hp) (n : Nat) : bodyK Try.prog C L Try.f106 t H n = S106 C L t H n := by kernel_rfl
theorem c106 (args : List Value) (H : Hp) (n : Nat) : Call Try.prog 106 args H n = S106 (Call Try.prog) Loop (argsT args) H n := (Call_body Try.func106 args H n).trans (s106 ..)
/-! 107: laws.markText -/
noncomputable def S107L0 (C : Calling) (L : Body → Body) : Body := fun t H n =>
  (binK .plain .gtr (t 0) (.int .i64 0)).bind fun v3 =>
  csel v3
    ((binK .plain .rem (t 0) (.int .i64 10)).bind fun v4 =>
     (binK .plain .add (.int .i64 48) v4).bind fun v5 =>
     (conv (.toInt .u8) (n + 5) v5 H).bind fun p6 =>
     (bsl (n + 6) 1 1 [.int .u8 0] [(0, 1, p6.1)] p6.2).bind fun p7 =>
     (conv .bytesToStr (n + 7) p7.1 p7.2).bind fun p8 =>
     (binK .plain .add p8.1 (t 3)).bind fun v9 =>
     (binK .plain .quo (t 0) (.int .i64 10)).bind fun v10 =>
     some ⟨.normal, put (put (put (put (put (put (put (put (put (put (put (put (put (put t 6 (t 0)) 7 v3) 8 (t 0)) 9 v4) 10 v5) 11 p6.1) 12 p7.1) 13 p8.1) 14 (t 3)) 15 v9) 3 v9) 16 (t 0)) 17 v10) 0 v10, p8.2, n + 14⟩)
    (some ⟨(.exit 0), put (put t 6 (t 0)) 7 v3, H, n + 2⟩)
noncomputable def S107 (C : Calling) (L : Body → Body) (t : Tm) (H : Hp) (n : Nat) : Option (Value × Hp × Nat) :=
  (binK .plain .leq (t 0) (.int .i64 0)).bind fun v1 =>
  csel v1
    (some (.string ⟨#[109, 48]⟩, H, n + 4))
    ((L (S107L0 C L) (put (put (put (put t 2 (.string ⟨#[]⟩)) 4 (t 0)) 5 v1) 3 (.string ⟨#[]⟩)) H (n + 4)).bind fun (o2 : Out) =>
     (binK .plain .add (.string ⟨#[109]⟩) (o2.t 3)).bind fun v11 =>
     some (v11, o2.H, o2.n + 3))
theorem s107 (C : Calling) (L : Body → Body) (t : Tm) (H : Hp) (n : Nat) : bodyK Try.prog C L Try.f107 t H n = S107 C L t H n := by kernel_rfl
theorem c107 (args : List Value) (H : Hp) (n : Nat) : Call Try.prog 107 args H n = S107 (Call Try.prog) Loop (argsT args) H n := (Call_body Try.func107 args H n).trans (s107 ..)
/-! 108: laws.heldNodeS -/
noncomputable def S108L0 (C : Calling) (L : Body → Body) : Body := fun t H n =>
  (lenV false (t 0)).bind fun v2 =>
  (binK .plain .lss (t 5) v2).bind fun v3 =>
  csel v3
    ((idxA 5 (t 0) (t 5)).bind fun v4 =>
     (fieldA 0 v4).bind fun v5 =>
     (ld false 1 v5 H).bind fun v6 =>
     (binK .plain .neq v6 (t 1)).bind fun v7 =>
     csel v7
       (some ⟨.ret, put (put (put (put (put (put (put (put (put (put (put (put t 6 (t 5)) 7 (t 0)) 8 v2) 9 v3) 12 (t 0)) 13 (t 5)) 14 v4) 15 v5) 16 v6) 17 (t 1)) 18 v7) 4 (.int .i64 (-1)), H, n + 12⟩)
       ((binK .plain .add (t 1) (.int .i64 1)).bind fun v8 =>
        (idxA 5 (t 0) (t 5)).bind fun v9 =>
        (fieldA 1 v9).bind fun v10 =>
        (ld false 1 v10 H).bind fun v11 =>
        (binK .plain .neq v11 v8).bind fun v12 =>
        csel v12
          (some ⟨.ret, put (put (put (put (put (put (put (put (put (put (put (put (put (put (put (put (put (put (put (put (put (put t 6 (t 5)) 7 (t 0)) 8 v2) 9 v3) 12 (t 0)) 13 (t 5)) 14 v4) 15 v5) 16 v6) 17 (t 1)) 18 v7) 19 (t 1)) 20 v8) 1 v8) 21 (t 0)) 22 (t 5)) 23 v9) 24 v10) 25 v11) 26 v8) 27 v12) 4 (.int .i64 (-1)), H, n + 22⟩)
          ((binK .plain .add v8 (.int .i64 1)).bind fun v13 =>
           (idxA 5 (t 0) (t 5)).bind fun v14 =>
           (fieldA 2 v14).bind fun v15 =>
           (ld false 1 v15 H).bind fun v16 =>
           (C 107 [v13] H (n + 32)).bind fun q17 =>
           ask (ld false 1 v15 q17.2.1 = some v16) <|
           (binK .plain .neq v16 q17.1).bind fun v18 =>
           csel v18
             (some ⟨.ret, put (put (put (put (put (put (put (put (put (put (put (put (put (put (put (put (put (put (put (put (put (put (put (put (put (put (put (put (put (put (put (put (put t 6 (t 5)) 7 (t 0)) 8 v2) 9 v3) 12 (t 0)) 13 (t 5)) 14 v4) 15 v5) 16 v6) 17 (t 1)) 18 v7) 19 (t 1)) 20 v8) 1 v8) 21 (t 0)) 22 (t 5)) 23 v9) 24 v10) 25 v11) 26 v8) 27 v12) 28 v8) 29 v13) 1 v13) 30 (t 0)) 31 (t 5)) 32 v14) 33 v15) 34 v16) 35 v13) 36 q17.1) 37 v18) 4 (.int .i64 (-1)), q17.2.1, q17.2.2 + 1⟩)
             ((binK .plain .add v13 (.int .i64 1)).bind fun v19 =>
              (idxA 5 (t 0) (t 5)).bind fun v20 =>
              (fieldA 3 v20).bind fun v21 =>
              (ld false 1 v21 q17.2.1).bind fun v22 =>
              (binK .plain .neq v22 v19).bind fun v23 =>
              csel v23
                (some ⟨.ret, put (put (put (put (put (put (put (put (put (put (put (put (put (put (put (put (put (put (put (put (put (put (put (put (put (put (put (put (put (put (put (put (put (put (put (put (put (put (put (put (put (put (put t 6 (t 5)) 7 (t 0)) 8 v2) 9 v3) 12 (t 0)) 13 (t 5)) 14 v4) 15 v5) 16 v6) 17 (t 1)) 18 v7) 19 (t 1)) 20 v8) 1 v8) 21 (t 0)) 22 (t 5)) 23 v9) 24 v10) 25 v11) 26 v8) 27 v12) 28 v8) 29 v13) 1 v13) 30 (t 0)) 31 (t 5)) 32 v14) 33 v15) 34 v16) 35 v13) 36 q17.1) 37 v18) 38 v13) 39 v19) 1 v19) 40 (t 0)) 41 (t 5)) 42 v20) 43 v21) 44 v22) 45 v19) 46 v23) 4 (.int .i64 (-1)), q17.2.1, q17.2.2 + 11⟩)
                ((binK .plain .add v19 (.int .i64 1)).bind fun v24 =>
                 (idxA 5 (t 0) (t 5)).bind fun v25 =>
                 (fieldA 4 v25).bind fun v26 =>
                 (ld false 1 v26 q17.2.1).bind fun v27 =>
                 (binK .plain .neq v27 v24).bind fun v28 =>
                 csel v28
                   (some ⟨.ret, put (put (put (put (put (put (put (put (put (put (put (put (put (put (put (put (put (put (put (put (put (put (put (put (put (put (put (put (put (put (put (put (put (put (put (put (put (put (put (put (put (put (put (put (put (put (put (put (put (put (put (put (put t 6 (t 5)) 7 (t 0)) 8 v2) 9 v3) 12 (t 0)) 13 (t 5)) 14 v4) 15 v5) 16 v6) 17 (t 1)) 18 v7) 19 (t 1)) 20 v8) 1 v8) 21 (t 0)) 22 (t 5)) 23 v9) 24 v10) 25 v11) 26 v8) 27 v12) 28 v8) 29 v13) 1 v13) 30 (t 0)) 31 (t 5)) 32 v14) 33 v15) 34 v16) 35 v13) 36 q17.1) 37 v18) 38 v13) 39 v19) 1 v19) 40 (t 0)) 41 (t 5)) 42 v20) 43 v21) 44 v22) 45 v19) 46 v23) 47 v19) 48 v24) 1 v24) 49 (t 0)) 50 (t 5)) 51 v25) 52 v26) 53 v27) 54 v24) 55 v28) 4 (.int .i64 (-1)), q17.2.1, q17.2.2 + 21⟩)
                   ((binK .plain .add v24 (.int .i64 1)).bind fun v29 =>
                    (binK .plain .add (t 5) (.int .i64 1)).bind fun v30 =>
                    some ⟨.normal, put (put (put (put (put (put (put (put (put (put (put (put (put (put (put (put (put (put (put (put (put (put (put (put (put (put (put (put (put (put (put (put (put (put (put (put (put (put (put (put (put (put (put (put (put (put (put (put (put (put (put (put (put (put (put (put (put (put t 6 (t 5)) 7 (t 0)) 8 v2) 9 v3) 12 (t 0)) 13 (t 5)) 14 v4) 15 v5) 16 v6) 17 (t 1)) 18 v7) 19 (t 1)) 20 v8) 1 v8) 21 (t 0)) 22 (t 5)) 23 v9) 24 v10) 25 v11) 26 v8) 27 v12) 28 v8) 29 v13) 1 v13) 30 (t 0)) 31 (t 5)) 32 v14) 33 v15) 34 v16) 35 v13) 36 q17.1) 37 v18) 38 v13) 39 v19) 1 v19) 40 (t 0)) 41 (t 5)) 42 v20) 43 v21) 44 v22) 45 v19) 46 v23) 47 v19) 48 v24) 1 v24) 49 (t 0)) 50 (t 5)) 51 v25) 52 v26) 53 v27) 54 v24) 55 v28) 56 v24) 57 v29) 1 v29) 10 (t 5)) 11 v30) 5 v30, q17.2.1, q17.2.2 + 26⟩))))))
    (some ⟨(.exit 0), put (put (put (put t 6 (t 5)) 7 (t 0)) 8 v2) 9 v3, H, n + 4⟩)
noncomputable def S108 (C : Calling) (L : Body → Body) (t : Tm) (H : Hp) (n : Nat) : Option (Value × Hp × Nat) :=
  (L (S108L0 C L) (put (put t 4 (.int .i64 0)) 5 (.int .i64 0)) H (n + 2)).bind fun (o1 : Out) =>
  let o31 := outOf 0 o1
  thenK o31
    (some (o31.t 1, o31.H, o31.n + 2))
    (finE o31.e
       (some (o31.t 4, o31.H, o31.n)))
theorem s108 (C : Calling) (L : Body → Body) (t : Tm) (H : Hp) (n : Nat) : bodyK Try.prog C L Try.f108 t H n = S108 C L t H n := by kernel_rfl
theorem c108 (args : List Value) (H : Hp) (n : Nat) : Call Try.prog 108 args H n = S108 (Call Try.prog) Loop (argsT args) H n := (Call_body Try.func108 args H n).trans (s108 ..)
/-! 110: impl.isNameByte -/
noncomputable def S110 (C : Calling) (L : Body → Body) (t : Tm) (H : Hp) (n : Nat) : Option (Value × Hp × Nat) :=
  (binK .plain .geq (t 0) (.int .u8 97)).bind fun v1 =>
  let t3 : Tm := put (put (put (put t 2 (.bool false)) 3 (t 0)) 4 v1) 5 v1
  (gsel v1 true
    ((binK .plain .leq (t3 0) (.int .u8 122)).bind fun v4 =>
     some (put (put t3 6 (t3 0)) 7 v4, H, n + 14))
    (some (put (put t3 6 (.tuple #[])) 7 (.tuple #[]), H, n + 14))
  ).bind fun (q2 : R3) =>
  (pickV (q2.1 5) (q2.1 7) (.bool false)).bind fun v5 =>
  let t7 : Tm := put (put q2.1 8 v5) 9 v5
  (gsel v5 false
    ((bsl (n + 8) 1 8 [.int .u8 0] [(0, 1, .int .u8 43), (1, 1, .int .u8 45), (2, 1, .int .u8 42), (3, 1, .int .u8 60), (4, 1, .int .u8 61), (5, 1, .int .u8 63), (6, 1, .int .u8 33), (7, 1, .int .u8 47)] q2.2.1).bind fun p8 =>
     (conv .mark (n + 9) p8.1 p8.2).bind fun p9 =>
     (C 130 [p9.1, t7 0] p9.2 (q2.2.2)).bind fun q10 =>
     some (put (put (put (put t7 10 p8.1) 11 p9.1) 12 (t7 0)) 13 q10.1, q10.2.1, q10.2.2))
    (some (put (put (put (put t7 10 (.tuple #[])) 11 (.tuple #[])) 12 (.tuple #[])) 13 (.tuple #[]), q2.2.1, q2.2.2))
  ).bind fun (q6 : R3) =>
  (pickV (q6.1 9) (.bool true) (q6.1 13)).bind fun v11 =>
  some (v11, q6.2.1, q6.2.2)
theorem s110 (C : Calling) (L : Body → Body) (t : Tm) (H : Hp) (n : Nat) : bodyK Try.prog C L Try.f110 t H n = S110 C L t H n := by kernel_rfl
theorem c110 (args : List Value) (H : Hp) (n : Nat) : Call Try.prog 110 args H n = S110 (Call Try.prog) Loop (argsT args) H n := (Call_body Try.func110 args H n).trans (s110 ..)
/-! 111: spec.l2NameByte -/
noncomputable def S111 (C : Calling) (L : Body → Body) (t : Tm) (H : Hp) (n : Nat) : Option (Value × Hp × Nat) :=
  (binK .plain .geq (t 0) (.int .u8 97)).bind fun v1 =>
  let t3 : Tm := put (put (put (put t 2 (.bool false)) 3 (t 0)) 4 v1) 5 v1
  (gsel v1 true
    ((binK .plain .leq (t3 0) (.int .u8 122)).bind fun v4 =>
     some (put (put t3 6 (t3 0)) 7 v4, H, n + 40))
    (some (put (put t3 6 (.tuple #[])) 7 (.tuple #[]), H, n + 40))
  ).bind fun (q2 : R3) =>
  (pickV (q2.1 5) (q2.1 7) (.bool false)).bind fun v5 =>
  let t7 : Tm := put (put q2.1 8 v5) 9 v5
  (gsel v5 false
    ((binK .plain .eql (t7 0) (.int .u8 43)).bind fun v8 =>
     some (put (put t7 10 (t7 0)) 11 v8, q2.2.1, q2.2.2))
    (some (put (put t7 10 (.tuple #[])) 11 (.tuple #[]), q2.2.1, q2.2.2))
  ).bind fun (q6 : R3) =>
  (pickV (q6.1 9) (.bool true) (q6.1 11)).bind fun v9 =>
  let t11 : Tm := put (put q6.1 12 v9) 13 v9
  (gsel v9 false
    ((binK .plain .eql (t11 0) (.int .u8 45)).bind fun v12 =>
     some (put (put t11 14 (t11 0)) 15 v12, q6.2.1, q6.2.2))
    (some (put (put t11 14 (.tuple #[])) 15 (.tuple #[]), q6.2.1, q6.2.2))
  ).bind fun (q10 : R3) =>
  (pickV (q10.1 13) (.bool true) (q10.1 15)).bind fun v13 =>
  let t15 : Tm := put (put q10.1 16 v13) 17 v13
  (gsel v13 false
    ((binK .plain .eql (t15 0) (.int .u8 42)).bind fun v16 =>
     some (put (put t15 18 (t15 0)) 19 v16, q10.2.1, q10.2.2))
    (some (put (put t15 18 (.tuple #[])) 19 (.tuple #[]), q10.2.1, q10.2.2))
  ).bind fun (q14 : R3) =>
  (pickV (q14.1 17) (.bool true) (q14.1 19)).bind fun v17 =>
  let t19 : Tm := put (put q14.1 20 v17) 21 v17
  (gsel v17 false
    ((binK .plain .eql (t19 0) (.int .u8 60)).bind fun v20 =>
     some (put (put t19 22 (t19 0)) 23 v20, q14.2.1, q14.2.2))
    (some (put (put t19 22 (.tuple #[])) 23 (.tuple #[]), q14.2.1, q14.2.2))
  ).bind fun (q18 : R3) =>
  (pickV (q18.1 21) (.bool true) (q18.1 23)).bind fun v21 =>
  let t23 : Tm := put (put q18.1 24 v21) 25 v21
  (gsel v21 false
    ((binK .plain .eql (t23 0) (.int .u8 61)).bind fun v24 =>
     some (put (put t23 26 (t23 0)) 27 v24, q18.2.1, q18.2.2))
    (some (put (put t23 26 (.tuple #[])) 27 (.tuple #[]), q18.2.1, q18.2.2))
  ).bind fun (q22 : R3) =>
  (pickV (q22.1 25) (.bool true) (q22.1 27)).bind fun v25 =>
  let t27 : Tm := put (put q22.1 28 v25) 29 v25
  (gsel v25 false
    ((binK .plain .eql (t27 0) (.int .u8 63)).bind fun v28 =>
     some (put (put t27 30 (t27 0)) 31 v28, q22.2.1, q22.2.2))
    (some (put (put t27 30 (.tuple #[])) 31 (.tuple #[]), q22.2.1, q22.2.2))
  ).bind fun (q26 : R3) =>
  (pickV (q26.1 29) (.bool true) (q26.1 31)).bind fun v29 =>
  let t31 : Tm := put (put q26.1 32 v29) 33 v29
  (gsel v29 false
    ((binK .plain .eql (t31 0) (.int .u8 33)).bind fun v32 =>
     some (put (put t31 34 (t31 0)) 35 v32, q26.2.1, q26.2.2))
    (some (put (put t31 34 (.tuple #[])) 35 (.tuple #[]), q26.2.1, q26.2.2))
  ).bind fun (q30 : R3) =>
  (pickV (q30.1 33) (.bool true) (q30.1 35)).bind fun v33 =>
  let t35 : Tm := put (put q30.1 36 v33) 37 v33
  (gsel v33 false
    ((binK .plain .eql (t35 0) (.int .u8 47)).bind fun v36 =>
     some (put (put t35 38 (t35 0)) 39 v36, q30.2.1, q30.2.2))
    (some (put (put t35 38 (.tuple #[])) 39 (.tuple #[]), q30.2.1, q30.2.2))
  ).bind fun (q34 : R3) =>
  (pickV (q34.1 37) (.bool true) (q34.1 39)).bind fun v37 =>
  some (v37, q34.2.1, q34.2.2)
theorem s111 (C : Calling) (L : Body → Body) (t : Tm) (H : Hp) (n : Nat) : bodyK Try.prog C L Try.f111 t H n = S111 C L t H n := by kernel_rfl
theorem c111 (args : List Value) (H : Hp) (n : Nat) : Call Try.prog 111 args H n = S111 (Call Try.prog) Loop (argsT args) H n := (Call_body Try.func111 args H n).trans (s111 ..)
/-! 130: slices.Contains[[]byte,byte] -/
noncomputable def S130 (C : Calling) (L : Body → Body) (t : Tm) (H : Hp) (n : Nat) : Option (Value × Hp × Nat) :=
  (C 146 [t 0, t 1] H (n + 6)).bind fun q1 =>
  (binK .plain .geq q1.1 (.int .i64 0)).bind fun v2 =>
  some (v2, q1.2.1, q1.2.2)
theorem s130 (C : Calling) (L : Body → Body) (t : Tm) (H : Hp) (n : Nat) : bodyK Try.prog C L Try.f130 t H n = S130 C L t H n := by kernel_rfl
theorem c130 (args : List Value) (H : Hp) (n : Nat) : Call Try.prog 130 args H n = S130 (Call Try.prog) Loop (argsT args) H n := (Call_body Try.func130 args H n).trans (s130 ..)
/-! 146: slices.Index[[]byte,byte] -/
noncomputable def S146L0 (C : Calling) (L : Body → Body) : Body := fun t H n =>
  (binK .plain .lss (t 8) (t 7)).bind fun v3 =>
  csel v3
    ((idxA 1 (t 0) (t 8)).bind fun v4 =>
     (ld false 1 v4 H).bind fun v5 =>
     (binK .plain .eql (t 1) v5).bind fun v6 =>
     csel v6
       (some ⟨.ret, put (put (put (put (put (put (put (put (put (put (put t 9 v3) 10 (t 8)) 5 (t 8)) 11 (t 1)) 12 (t 0)) 13 (t 8)) 14 v4) 15 v5) 16 v6) 17 (t 8)) 4 (t 8), H, n + 11⟩)
       ((binK .plain .add (t 8) (.int .i64 1)).bind fun v7 =>
        some ⟨.normal, put (put (put (put (put (put (put (put (put (put (put t 9 v3) 10 (t 8)) 5 (t 8)) 11 (t 1)) 12 (t 0)) 13 (t 8)) 14 v4) 15 v5) 16 v6) 18 v7) 8 v7, H, n + 11⟩))
    (some ⟨(.exit 0), put t 9 v3, H, n + 1⟩)
noncomputable def S146 (C : Calling) (L : Body → Body) (t : Tm) (H : Hp) (n : Nat) : Option (Value × Hp × Nat) :=
  (lenV false (t 0)).bind fun v1 =>
  (L (S146L0 C L) (put (put (put (put t 4 (.int .i64 0)) 6 (t 0)) 7 v1) 8 (.int .i64 0)) H (n + 4)).bind fun (o2 : Out) =>
  let o8 := outOf 0 o2
  thenK o8
    (some (.int .i64 (-1), o8.H, o8.n + 1))
    (finE o8.e
       (some (o8.t 4, o8.H, o8.n)))
theorem s146 (C : Calling) (L : Body → Body) (t : Tm) (H : Hp) (n : Nat) : bodyK Try.prog C L Try.f146 t H n = S146 C L t H n := by kernel_rfl
theorem c146 (args : List Value) (H : Hp) (n : Nat) : Call Try.prog 146 args H n = S146 (Call Try.prog) Loop (argsT args) H n := (Call_body Try.func146 args H n).trans (s146 ..)
end Go.Proofs.Ytjbfdaemgpmgjaa.Ax
