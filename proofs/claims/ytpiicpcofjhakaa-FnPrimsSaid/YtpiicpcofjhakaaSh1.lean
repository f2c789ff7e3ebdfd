/- What the bodies of some functions of the program come to in the abstract machine. -/
import Derived.Test.YtpiicpcofjhakaaProg
import Derived.Test.YtpiicpcofjhakaaAx3
set_option linter.unusedVariables false
namespace Go.Proofs.Ytpiicpcofjhakaa.Ax
open Go
set_option maxRecDepth 100000
/-! 89: spec.l2NameByte -/
noncomputable def S89 (C : Calling) (L : Body → Body) (t : Tm) (H : Hp) (n : Nat) : Option (Value × Hp × Nat) :=
  (binK .plain .geq (t 0) (.int .u8 97)).bind fun v1 =>
  let t3 : Tm := put (put (put (put t 2 (.bool false)) 3 (t 0)) 4 v1) 5 v1
  (gsel v1 true
    ((binK .plain .leq (t3 0) (.int .u8 122)).bind fun v4 =>
     some (put (put t3 6 (t3 0)) 7 v4, H, n + 40))
    (some (put (put t3 6 (.tuple #[])) 7 (.tuple #[]), H, n + 40))
  ).bind fun (q2 : R3) =>
  (pickV (q2.1 5) (q2.1 7) (.bool false)).bind fun v5 =>
  let t7 : Tm := put (put q2.1 8 v5) 9 v5
  (gsel v5 false
    ((binK .plain .eql (t7 0) (.int .u8 43)).bind fun v8 =>
     some (put (put t7 10 (t7 0)) 11 v8, q2.2.1, q2.2.2))
    (some (put (put t7 10 (.tuple #[])) 11 (.tuple #[]), q2.2.1, q2.2.2))
  ).bind fun (q6 : R3) =>
  (pickV (q6.1 9) (.bool true) (q6.1 11)).bind fun v9 =>
  let t11 : Tm := put (put q6.1 12 v9) 13 v9
  (gsel v9 false
    ((binK .plain .eql (t11 0) (.int .u8 45)).bind fun v12 =>
     some (put (put t11 14 (t11 0)) 15 v12, q6.2.1, q6.2.2))
    (some (put (put t11 14 (.tuple #[])) 15 (.tuple #[]), q6.2.1, q6.2.2))
  ).bind fun (q10 : R3) =>
  (pickV (q10.1 13) (.bool true) (q10.1 15)).bind fun v13 =>
  let t15 : Tm := put (put q10.1 16 v13) 17 v13
  (gsel v13 false
    ((binK .plain .eql (t15 0) (.int .u8 42)).bind fun v16 =>
     some (put (put t15 18 (t15 0)) 19 v16, q10.2.1, q10.2.2))
    (some (put (put t15 18 (.tuple #[])) 19 (.tuple #[]), q10.2.1, q10.2.2))
  ).bind fun (q14 : R3) =>
  (pickV (q14.1 17) (.bool true) (q14.1 19)).bind fun v17 =>
  let t19 : Tm := put (put q14.1 20 v17) 21 v17
  (gsel v17 false
    ((binK .plain .eql (t19 0) (.int .u8 60)).bind fun v20 =>
     some (put (put t19 22 (t19 0)) 23 v20, q14.2.1, q14.2.2))
    (some (put (put t19 22 (.tuple #[])) 23 (.tuple #[]), q14.2.1, q14.2.2))
  ).bind fun (q18 : R3) =>
  (pickV (q18.1 21) (.bool true) (q18.1 23)).bind fun v21 =>
  let t23 : Tm := put (put q18.1 24 v21) 25 v21
  (gsel v21 false
    ((binK .plain .eql (t23 0) (.int .u8 61)).bind fun v24 =>
     some (put (put t23 26 (t23 0)) 27 v24, q18.2.1, q18.2.2))
    (some (put (put t23 26 (.tuple #[])) 27 (.tuple #[]), q18.2.1, q18.2.2))
  ).bind fun (q22 : R3) =>
  (pickV (q22.1 25) (.bool true) (q22.1 27)).bind fun v25 =>
  let t27 : Tm := put (put q22.1 28 v25) 29 v25
  (gsel v25 false
    ((binK .plain .eql (t27 0) (.int .u8 63)).bind fun v28 =>
     some (put (put t27 30 (t27 0)) 31 v28, q22.2.1, q22.2.2))
    (some (put (put t27 30 (.tuple #[])) 31 (.tuple #[]), q22.2.1, q22.2.2))
  ).bind fun (q26 : R3) =>
  (pickV (q26.1 29) (.bool true) (q26.1 31)).bind fun v29 =>
  let t31 : Tm := put (put q26.1 32 v29) 33 v29
  (gsel v29 false
    ((binK .plain .eql (t31 0) (.int .u8 33)).bind fun v32 =>
     some (put (put t31 34 (t31 0)) 35 v32, q26.2.1, q26.2.2))
    (some (put (put t31 34 (.tuple #[])) 35 (.tuple #[]), q26.2.1, q26.2.2))
  ).bind fun (q30 : R3) =>
  (pickV (q30.1 33) (.bool true) (q30.1 35)).bind fun v33 =>
  let t35 : Tm := put (put q30.1 36 v33) 37 v33
  (gsel v33 false
    ((binK .plain .eql (t35 0) (.int .u8 47)).bind fun v36 =>
     some (put (put t35 38 (t35 0)) 39 v36, q30.2.1, q30.2.2))
    (some (put (put t35 38 (.tuple #[])) 39 (.tuple #[]), q30.2.1, q30.2.2))
  ).bind fun (q34 : R3) =>
  (pickV (q34.1 37) (.bool true) (q34.1 39)).bind fun v37 =>
  some (v37, q34.2.1, q34.2.2)
theorem s89 (C : Calling) (L : Body → Body) (t : Tm) (H : Hp) (n : Nat) : bodyK Try.prog C L Try.f89 t H n = S89 C L t H n := by kernel_rfl
theorem c89 (args : List Value) (H : Hp) (n : Nat) : Call Try.prog 89 args H n = S89 (Call Try.prog) Loop (argsT args) H n := (Call_body Try.func89 args H n).trans (s89 ..)
/-! 92: impl.isNameByte -/
noncomputable def S92 (C : Calling) (L : Body → Body) (t : Tm) (H : Hp) (n : Nat) : Option (Value × Hp × Nat) :=
  (binK .plain .geq (t 0) (.int .u8 97)).bind fun v1 =>
  let t3 : Tm := put (put (put (put t 2 (.bool false)) 3 (t 0)) 4 v1) 5 v1
  (gsel v1 true
    ((binK .plain .leq (t3 0) (.int .u8 122)).bind fun v4 =>
     some (put (put t3 6 (t3 0)) 7 v4, H, n + 14))
    (some (put (put t3 6 (.tuple #[])) 7 (.tuple #[]), H, n + 14))
  ).bind fun (q2 : R3) =>
  (pickV (q2.1 5) (q2.1 7) (.bool false)).bind fun v5 =>
  let t7 : Tm := put (put q2.1 8 v5) 9 v5
  (gsel v5 false
    ((bsl (n + 8) 1 8 [.int .u8 0] [(0, 1, .int .u8 43), (1, 1, .int .u8 45), (2, 1, .int .u8 42), (3, 1, .int .u8 60), (4, 1, .int .u8 61), (5, 1, .int .u8 63), (6, 1, .int .u8 33), (7, 1, .int .u8 47)] q2.2.1).bind fun p8 =>
     (conv .mark (n + 9) p8.1 p8.2).bind fun p9 =>
     (C 116 [p9.1, t7 0] p9.2 (q2.2.2)).bind fun q10 =>
     some (put (put (put (put t7 10 p8.1) 11 p9.1) 12 (t7 0)) 13 q10.1, q10.2.1, q10.2.2))
    (some (put (put (put (put t7 10 (.tuple #[])) 11 (.tuple #[])) 12 (.tuple #[])) 13 (.tuple #[]), q2.2.1, q2.2.2))
  ).bind fun (q6 : R3) =>
  (pickV (q6.1 9) (.bool true) (q6.1 13)).bind fun v11 =>
  some (v11, q6.2.1, q6.2.2)
theorem s92 (C : Calling) (L : Body → Body) (t : Tm) (H : Hp) (n : Nat) : bodyK Try.prog C L Try.f92 t H n = S92 C L t H n := by kernel_rfl
theorem c92 (args : List Value) (H : Hp) (n : Nat) : Call Try.prog 92 args H n = S92 (Call Try.prog) Loop (argsT args) H n := (Call_body Try.func92 args H n).trans (s92 ..)
/-! 97: spec.l2DrawRight -/
noncomputable def S97L0 (C : Calling) (L : Body → Body) : Body := fun t H n =>
  (binK .plain .lss (t 5) (t 4)).bind fun v7 =>
  csel v7
    ((C 117 [t 0, t 5] H (n + 7)).bind fun q8 =>
     (C 58 [t 3, q8.1] q8.2.1 (q8.2.2)).bind fun q9 =>
     (binK .plain .add (t 5) (.int .i64 1)).bind fun v10 =>
     some ⟨.normal, put (put (put (put (put (put (put (put (put (put t 9 (t 5)) 10 (t 4)) 11 v7) 14 (t 0)) 15 (t 5)) 16 q8.1) 17 q9.1) 12 (t 5)) 13 v10) 5 v10, q9.2.1, q9.2.2 + 3⟩)
    (some ⟨(.exit 0), put (put (put t 9 (t 5)) 10 (t 4)) 11 v7, H, n + 3⟩)
noncomputable def S97 (C : Calling) (L : Body → Body) (t : Tm) (H : Hp) (n : Nat) : Option (Value × Hp × Nat) :=
  let H1 := H.set (n) (some (.row [nilS] 0 true))
  (bld [nilS] []).bind fun v2 =>
  let H3 := H1.set (n + 2) (some (.row [nilS] 0 true))
  (st true 1 (ptr (n + 2) 0) v2 H3).bind fun H4 =>
  (C 56 [t 0, .int .i64 16] H4 (n + 7)).bind fun q5 =>
  (L (S97L0 C L) (put (put (put (put (put (put (put t 2 (ptr (n) 0)) 6 v2) 3 (ptr (n + 2) 0)) 7 (t 0)) 8 q5.1) 4 q5.1) 5 (.int .i64 0)) q5.2.1 (q5.2.2 + 1)).bind fun (o6 : Out) =>
  (ld true 1 (o6.t 3) o6.H).bind fun v11 =>
  (st true 1 (o6.t 2) v11 o6.H).bind fun H12 =>
  (ld true 1 (o6.t 2) H12).bind fun v13 =>
  some (v13, H12, o6.n + 2)
theorem s97 (C : Calling) (L : Body → Body) (t : Tm) (H : Hp) (n : Nat) : bodyK Try.prog C L Try.f97 t H n = S97 C L t H n := by kernel_rfl
theorem c97 (args : List Value) (H : Hp) (n : Nat) : Call Try.prog 97 args H n = S97 (Call Try.prog) Loop (argsT args) H n := (Call_body Try.func97 args H n).trans (s97 ..)
/-! 98: spec.l2Spoil -/
noncomputable def S98 (C : Calling) (L : Body → Body) (t : Tm) (H : Hp) (n : Nat) : Option (Value × Hp × Nat) :=
  (vcells (t 1)).bind fun c2 =>
  let H1 := H.set (n) (some (.row c2 0 true))
  let H3 := H1.set (n + 1) (some (.row [.int .i64 0, .int .i64 0, .string ⟨#[]⟩, .int .i64 0, .int .i64 0] 0 true))
  (C 56 [t 0, .int .i64 8] H3 (n + 4)).bind fun q4 =>
  (binK .plain .eql q4.1 (.int .i64 0)).bind fun v5 =>
  let t7 : Tm := put (put (put (put (put (put t 3 (ptr (n) 0)) 4 (ptr (n + 1) 0)) 5 (t 0)) 6 q4.1) 8 v5) 7 v5
  (csel v5
    ((C 56 [t7 0, .int .i64 11] q4.2.1 (q4.2.2 + 6)).bind fun q8 =>
     (fieldA 0 (ptr (n) 0)).bind fun v9 =>
     (st false 1 v9 q8.1 q8.2.1).bind fun H10 =>
     some ⟨.normal, put (put (put t7 9 (t7 0)) 10 q8.1) 11 v9, H10, q8.2.2⟩)
    ((binK .plain .eql q4.1 (.int .i64 1)).bind fun v11 =>
     let t13 : Tm := put (put t7 13 v11) 12 v11
     (csel v11
       ((C 56 [t13 0, .int .i64 20] q4.2.1 (q4.2.2 + 9)).bind fun q14 =>
        (binK .plain .sub q14.1 (.int .i64 1)).bind fun v15 =>
        (fieldA 3 (ptr (n) 0)).bind fun v16 =>
        (st false 1 v16 v15 q14.2.1).bind fun H17 =>
        some ⟨.normal, put (put (put (put t13 14 (t13 0)) 15 q14.1) 16 v15) 17 v16, H17, q14.2.2⟩)
       ((binK .plain .eql q4.1 (.int .i64 2)).bind fun v18 =>
        let t20 : Tm := put (put t13 19 v18) 18 v18
        (csel v18
          ((C 56 [t20 0, .int .i64 20] q4.2.1 (q4.2.2 + 11)).bind fun q21 =>
           (binK .plain .sub q21.1 (.int .i64 1)).bind fun v22 =>
           (fieldA 4 (ptr (n) 0)).bind fun v23 =>
           (st false 1 v23 v22 q21.2.1).bind fun H24 =>
           some ⟨.normal, put (put (put (put t20 20 (t20 0)) 21 q21.1) 22 v22) 23 v23, H24, q21.2.2⟩)
          ((binK .plain .eql q4.1 (.int .i64 3)).bind fun v25 =>
           let t27 : Tm := put (put t20 25 v25) 24 v25
           (csel v25
             ((bsl (q4.2.2 + 9) 1 8 [.int .i64 0] [(0, 1, .int .i64 (-1)), (1, 1, .int .i64 2), (2, 1, .int .i64 99), (3, 1, .int .i64 100), (4, 1, .int .i64 1000000000), (5, 1, .int .i64 1000000001), (6, 1, .int .i64 (-1000000000)), (7, 1, .int .i64 (-1000000001))] q4.2.1).bind fun p28 =>
              (C 59 [t27 0, p28.1] p28.2 (q4.2.2 + 13)).bind fun q29 =>
              (fieldA 1 (ptr (n) 0)).bind fun v30 =>
              (st false 1 v30 q29.1 q29.2.1).bind fun H31 =>
              some ⟨.normal, put (put (put (put t27 26 (t27 0)) 27 p28.1) 28 q29.1) 29 v30, H31, q29.2.2⟩)
             ((binK .plain .eql q4.1 (.int .i64 4)).bind fun v32 =>
              let t34 : Tm := put (put t27 31 v32) 30 v32
              (csel v32
                ((bsl (q4.2.2 + 11) 1 6 [.string ⟨#[]⟩] [(0, 1, .string ⟨#[]⟩), (1, 1, .string ⟨#[97]⟩), (2, 1, .string ⟨#[65, 98]⟩), (3, 1, .string ⟨#[97, 98, 99, 100, 101, 102, 103, 104, 105, 106, 107, 108]⟩), (4, 1, .string ⟨#[97, 98, 99, 100, 101, 102, 103, 104, 105, 106, 107, 108, 109]⟩), (5, 1, .string ⟨#[97, 49]⟩)] q4.2.1).bind fun p35 =>
                 (C 118 [t34 0, p35.1] p35.2 (q4.2.2 + 15)).bind fun q36 =>
                 (fieldA 2 (ptr (n) 0)).bind fun v37 =>
                 (st false 1 v37 q36.1 q36.2.1).bind fun H38 =>
                 some ⟨.normal, put (put (put (put t34 32 (t34 0)) 33 p35.1) 34 q36.1) 35 v37, H38, q36.2.2⟩)
                (some ⟨.normal, t34, q4.2.1, q4.2.2 + 10⟩)
              ).bind fun (o33 : Out) =>
              some ⟨.normal, o33.t, o33.H, o33.n⟩)
           ).bind fun (o26 : Out) =>
           some ⟨.normal, o26.t, o26.H, o26.n⟩)
        ).bind fun (o19 : Out) =>
        some ⟨.normal, o19.t, o19.H, o19.n⟩)
     ).bind fun (o12 : Out) =>
     some ⟨.normal, o12.t, o12.H, o12.n⟩)
  ).bind fun (o6 : Out) =>
  (ld true 5 (o6.t 3) o6.H).bind fun v39 =>
  (st true 5 (o6.t 4) v39 o6.H).bind fun H40 =>
  (ld true 5 (o6.t 4) H40).bind fun v41 =>
  some (v41, H40, o6.n + 2)
theorem s98 (C : Calling) (L : Body → Body) (t : Tm) (H : Hp) (n : Nat) : bodyK Try.prog C L Try.f98 t H n = S98 C L t H n := by kernel_rfl
theorem c98 (args : List Value) (H : Hp) (n : Nat) : Call Try.prog 98 args H n = S98 (Call Try.prog) Loop (argsT args) H n := (Call_body Try.func98 args H n).trans (s98 ..)
/-! 99: spec.l1Byte -/
noncomputable def S99 (C : Calling) (L : Body → Body) (t : Tm) (H : Hp) (n : Nat) : Option (Value × Hp × Nat) :=
  (nilchk (t 0)).bind fun v1 =>
  (fieldA 2 v1).bind fun v2 =>
  (ld false 1 v2 H).bind fun v3 =>
  (binK .plain .mul v3 (.int .i64 6364136223846793005)).bind fun v4 =>
  (binK .plain .add v4 (.int .i64 1442695040888963407)).bind fun v5 =>
  (nilchk (t 0)).bind fun v6 =>
  (fieldA 2 v6).bind fun v7 =>
  (st false 1 v7 v5 H).bind fun H8 =>
  (nilchk (t 0)).bind fun v9 =>
  (fieldA 2 v9).bind fun v10 =>
  (ld false 1 v10 H8).bind fun v11 =>
  (binK .plain .shr v11 (.int .u64 33)).bind fun v12 =>
  (nilchk (t 0)).bind fun v13 =>
  (fieldA 2 v13).bind fun v14 =>
  (ld false 1 v14 H8).bind fun v15 =>
  (binK .plain .shr v15 (.int .u64 45)).bind fun v16 =>
  (binK .plain .xor v12 v16).bind fun v17 =>
  (binK .plain .and v17 (.int .i64 255)).bind fun v18 =>
  (nilchk (t 0)).bind fun v19 =>
  (fieldA 1 v19).bind fun v20 =>
  (ld false 1 v20 H8).bind fun v21 =>
  (nilchk (t 0)).bind fun v22 =>
  (fieldA 0 v22).bind fun v23 =>
  (ld false 1 v23 H8).bind fun v24 =>
  (lenV false v24).bind fun v25 =>
  (binK .plain .lss v21 v25).bind fun v26 =>
  let t28 : Tm := put (put (put (put (put (put (put (put (put (put (put (put (put (put (put (put (put (put (put (put (put (put (put (put (put (put (put (put (put (put (put (put (put t 2 (.int .i64 0)) 4 (t 0)) 5 (t 0)) 6 v1) 7 v2) 8 v3) 9 v4) 10 v5) 11 v6) 12 v7) 13 (t 0)) 14 v9) 15 v10) 16 v11) 17 v12) 18 (t 0)) 19 v13) 20 v14) 21 v15) 22 v16) 23 v17) 24 v18) 3 v18) 25 (t 0)) 26 v19) 27 v20) 28 v21) 29 (t 0)) 30 v22) 31 v23) 32 v24) 33 v25) 34 v26
  (csel v26
    ((nilchk (t28 0)).bind fun v29 =>
     (fieldA 0 v29).bind fun v30 =>
     (ld false 1 v30 H8).bind fun v31 =>
     (nilchk (t28 0)).bind fun v32 =>
     (fieldA 1 v32).bind fun v33 =>
     (ld false 1 v33 H8).bind fun v34 =>
     (idxA 1 v31 v34).bind fun v35 =>
     (ld false 1 v35 H8).bind fun v36 =>
     (conv (.toInt .i64) (n + 45) v36 H8).bind fun p37 =>
     (binK .plain .add v18 p37.1).bind fun v38 =>
     (binK .plain .and v38 (.int .i64 255)).bind fun v39 =>
     (nilchk (t28 0)).bind fun v40 =>
     (fieldA 1 v40).bind fun v41 =>
     (ld false 1 v41 p37.2).bind fun v42 =>
     (binK .plain .add v42 (.int .i64 1)).bind fun v43 =>
     (nilchk (t28 0)).bind fun v44 =>
     (fieldA 1 v44).bind fun v45 =>
     (st false 1 v45 v43 p37.2).bind fun H46 =>
     some ⟨.normal, put (put (put (put (put (put (put (put (put (put (put (put (put (put (put (put (put (put (put (put (put (put (put t28 35 v18) 36 (t28 0)) 37 v29) 38 v30) 39 v31) 40 (t28 0)) 41 v32) 42 v33) 43 v34) 44 v35) 45 v36) 46 p37.1) 47 v38) 48 v39) 3 v39) 49 (t28 0)) 50 (t28 0)) 51 v40) 52 v41) 53 v42) 54 v43) 55 v44) 56 v45, H46, n + 58⟩)
    (some ⟨.normal, t28, H8, n + 34⟩)
  ).bind fun (o27 : Out) =>
  some (o27.t 3, o27.H, o27.n + 2)
theorem s99 (C : Calling) (L : Body → Body) (t : Tm) (H : Hp) (n : Nat) : bodyK Try.prog C L Try.f99 t H n = S99 C L t H n := by kernel_rfl
theorem c99 (args : List Value) (H : Hp) (n : Nat) : Call Try.prog 99 args H n = S99 (Call Try.prog) Loop (argsT args) H n := (Call_body Try.func99 args H n).trans (s99 ..)
/-! 100: spec.l1Min -/
noncomputable def S100 (C : Calling) (L : Body → Body) (t : Tm) (H : Hp) (n : Nat) : Option (Value × Hp × Nat) :=
  (binK .plain .lss (t 0) (t 1)).bind fun v1 =>
  csel v1
    (some (t 0, H, n + 6))
    (some (t 1, H, n + 6))
theorem s100 (C : Calling) (L : Body → Body) (t : Tm) (H : Hp) (n : Nat) : bodyK Try.prog C L Try.f100 t H n = S100 C L t H n := by kernel_rfl
theorem c100 (args : List Value) (H : Hp) (n : Nat) : Call Try.prog 100 args H n = S100 (Call Try.prog) Loop (argsT args) H n := (Call_body Try.func100 args H n).trans (s100 ..)
/-! 101: slices.IndexFunc[[]int,int] -/
noncomputable def S101L0 (C : Calling) (L : Body → Body) : Body := fun t H n =>
  (binK .plain .lss (t 8) (t 7)).bind fun v3 =>
  csel v3
    ((idxA 1 (t 0) (t 8)).bind fun v4 =>
     (ld false 1 v4 H).bind fun v5 =>
     (calleeP (t 1) [v5]).bind fun c7 =>
     (C c7.1 c7.2 H (n + 9)).bind fun q6 =>
     csel q6.1
       (some ⟨.ret, put (put (put (put (put (put (put (put (put (put (put t 9 v3) 10 (t 8)) 5 (t 8)) 11 (t 1)) 12 (t 0)) 13 (t 8)) 14 v4) 15 v5) 16 q6.1) 17 (t 8)) 4 (t 8), q6.2.1, q6.2.2 + 2⟩)
       ((binK .plain .add (t 8) (.int .i64 1)).bind fun v8 =>
        some ⟨.normal, put (put (put (put (put (put (put (put (put (put (put t 9 v3) 10 (t 8)) 5 (t 8)) 11 (t 1)) 12 (t 0)) 13 (t 8)) 14 v4) 15 v5) 16 q6.1) 18 v8) 8 v8, q6.2.1, q6.2.2 + 2⟩))
    (some ⟨(.exit 0), put t 9 v3, H, n + 1⟩)
noncomputable def S101 (C : Calling) (L : Body → Body) (t : Tm) (H : Hp) (n : Nat) : Option (Value × Hp × Nat) :=
  (lenV false (t 0)).bind fun v1 =>
  (L (S101L0 C L) (put (put (put (put t 4 (.int .i64 0)) 6 (t 0)) 7 v1) 8 (.int .i64 0)) H (n + 4)).bind fun (o2 : Out) =>
  let o9 := outOf 0 o2
  thenK o9
    (some (.int .i64 (-1), o9.H, o9.n + 1))
    (finE o9.e
       (some (o9.t 4, o9.H, o9.n)))
theorem s101 (C : Calling) (L : Body → Body) (t : Tm) (H : Hp) (n : Nat) : bodyK Try.prog C L Try.f101 t H n = S101 C L t H n := by kernel_rfl
theorem c101 (args : List Value) (H : Hp) (n : Nat) : Call Try.prog 101 args H n = S101 (Call Try.prog) Loop (argsT args) H n := (Call_body Try.func101 args H n).trans (s101 ..)
/-! 102: impl.Node] -/
noncomputable def S102 (C : Calling) (L : Body → Body) (t : Tm) (H : Hp) (n : Nat) : Option (Value × Hp × Nat) :=
  (binK .slice .eql (t 0) nilS).bind fun v1 =>
  csel v1
    (some (nilS, H, n + 4))
    ((bsl (n + 3) 5 0 [.int .i64 0, .int .i64 0, .string ⟨#[]⟩, .int .i64 0, .int .i64 0] [] H).bind fun p2 =>
     (app (n + 5) 5 48 p2.1 (t 0) p2.2).bind fun p3 =>
     some (p3.1, p3.2, n + 7))
theorem s102 (C : Calling) (L : Body → Body) (t : Tm) (H : Hp) (n : Nat) : bodyK Try.prog C L Try.f102 t H n = S102 C L t H n := by kernel_rfl
theorem c102 (args : List Value) (H : Hp) (n : Nat) : Call Try.prog 102 args H n = S102 (Call Try.prog) Loop (argsT args) H n := (Call_body Try.func102 args H n).trans (s102 ..)
/-! 103: impl.primNode -/
noncomputable def S103 (C : Calling) (L : Body → Body) (t : Tm) (H : Hp) (n : Nat) : Option (Value × Hp × Nat) :=
  (vcells (t 0)).bind fun c2 =>
  let H1 := H.set (n) (some (.row c2 0 true))
  let H3 := H1.set (n + 1) (some (.row [.int .i64 0, .int .i64 0, .string ⟨#[]⟩, .int .i64 0, .int .i64 0] 0 true))
  (fieldA 0 (ptr (n) 0)).bind fun v4 =>
  (ld false 1 v4 H3).bind fun v5 =>
  (idxA 1 (t 2) (.int .i64 0)).bind fun v6 =>
  (ld false 1 v6 H3).bind fun v7 =>
  (idxA 5 v5 v7).bind fun v8 =>
  (ld true 5 v8 H3).bind fun v9 =>
  let H10 := H3.set (n + 9) (some (.row [.int .i64 0, .int .i64 0, .string ⟨#[]⟩, .int .i64 0, .int .i64 0] 0 true))
  (st true 5 (ptr (n + 9) 0) v9 H10).bind fun H11 =>
  (binK .plain .eql (t 1) (.int .i64 6)).bind fun v12 =>
  csel v12
    ((idxA 1 (t 2) (.int .i64 0)).bind fun v13 =>
     (ld false 1 v13 H11).bind fun v14 =>
     (idxA 1 (t 2) (.int .i64 1)).bind fun v15 =>
     (ld false 1 v15 H11).bind fun v16 =>
     (bld [.int .i64 0, .int .i64 0, .string ⟨#[]⟩, .int .i64 0, .int .i64 0] [(0, 1, .int .i64 5), (3, 1, v14), (4, 1, v16)]).bind fun v17 =>
     (st true 5 (ptr (n + 1) 0) v17 H11).bind fun H18 =>
     (ld true 5 (ptr (n + 1) 0) H18).bind fun v19 =>
     some (v19, H18, n + 22))
    ((binK .plain .eql (t 1) (.int .i64 9)).bind fun v20 =>
     csel v20
       ((fieldA 0 (ptr (n + 9) 0)).bind fun v21 =>
        (ld false 1 v21 H11).bind fun v22 =>
        (binK .plain .eql v22 (.int .i64 1)).bind fun v23 =>
        (C 119 [v23] H11 (n + 21)).bind fun q24 =>
        (st true 5 (ptr (n + 1) 0) q24.1 q24.2.1).bind fun H25 =>
        (ld true 5 (ptr (n + 1) 0) H25).bind fun v26 =>
        some (v26, H25, q24.2.2))
       ((binK .plain .eql (t 1) (.int .i64 10)).bind fun v27 =>
        csel v27
          ((fieldA 0 (ptr (n + 9) 0)).bind fun v28 =>
           (ld false 1 v28 H11).bind fun v29 =>
           (binK .plain .eql v29 (.int .i64 5)).bind fun v30 =>
           (C 119 [v30] H11 (n + 23)).bind fun q31 =>
           (st true 5 (ptr (n + 1) 0) q31.1 q31.2.1).bind fun H32 =>
           (ld true 5 (ptr (n + 1) 0) H32).bind fun v33 =>
           some (v33, H32, q31.2.2))
          ((binK .plain .eql (t 1) (.int .i64 11)).bind fun v34 =>
           csel v34
             ((ld true 1 (ptr (n) 0) H11).bind fun v35 =>
              (idxA 1 (t 2) (.int .i64 0)).bind fun v36 =>
              (ld false 1 v36 H11).bind fun v37 =>
              (idxA 1 (t 2) (.int .i64 1)).bind fun v38 =>
              (ld false 1 v38 H11).bind fun v39 =>
              (C 120 [v35, v37, v39] H11 (n + 30)).bind fun q40 =>
              (C 119 [q40.1] q40.2.1 (q40.2.2)).bind fun q41 =>
              (st true 5 (ptr (n + 1) 0) q41.1 q41.2.1).bind fun H42 =>
              (ld true 5 (ptr (n + 1) 0) H42).bind fun v43 =>
              some (v43, H42, q41.2.2))
             ((binK .plain .eql (t 1) (.int .i64 12)).bind fun v44 =>
              csel v44
                ((fieldA 0 (ptr (n + 9) 0)).bind fun v45 =>
                 (ld false 1 v45 H11).bind fun v46 =>
                 (binK .plain .eql v46 (.int .i64 2)).bind fun v47 =>
                 let t49 : Tm := put (put (put (put (put (put (put (put (put (put (put (put (put (put (put (put (put (put (put (put (put (put (put (put (put t 3 (ptr (n) 0)) 6 (ptr (n + 1) 0)) 8 v4) 9 v5) 10 (t 2)) 11 v6) 12 v7) 13 v8) 14 v9) 7 (ptr (n + 9) 0)) 15 (t 1)) 17 v12) 16 v12) 26 v20) 25 v20) 32 v27) 31 v27) 38 v34) 37 v34) 49 v44) 48 v44) 50 v45) 51 v46) 52 v47) 53 v47
                 (gsel v47 true
                   ((fieldA 1 (ptr (n + 9) 0)).bind fun v50 =>
                    (ld false 1 v50 H11).bind fun v51 =>
                    (binK .plain .eql v51 (.int .i64 0)).bind fun v52 =>
                    some (put (put (put t49 54 v50) 55 v51) 56 v52, H11, n + 32))
                   (some (put (put (put t49 54 (.tuple #[])) 55 (.tuple #[])) 56 (.tuple #[]), H11, n + 32))
                 ).bind fun (q48 : R3) =>
                 (pickV (q48.1 53) (q48.1 56) (.bool false)).bind fun v53 =>
                 (C 119 [v53] q48.2.1 (q48.2.2)).bind fun q54 =>
                 (st true 5 (q48.1 6) q54.1 q54.2.1).bind fun H55 =>
                 (ld true 5 (q48.1 6) H55).bind fun v56 =>
                 some (v56, H55, q54.2.2))
                ((fieldA 1 (ptr (n + 9) 0)).bind fun v57 =>
                 (ld false 1 v57 H11).bind fun v58 =>
                 (fieldA 0 (ptr (n) 0)).bind fun v59 =>
                 (ld false 1 v59 H11).bind fun v60 =>
                 (idxA 1 (t 2) (.int .i64 1)).bind fun v61 =>
                 (ld false 1 v61 H11).bind fun v62 =>
                 (idxA 5 v60 v62).bind fun v63 =>
                 (fieldA 1 v63).bind fun v64 =>
                 (ld false 1 v64 H11).bind fun v65 =>
                 (C 121 [t 1, v58, v65] H11 (n + 35)).bind fun q66 =>
                 (st true 5 (ptr (n + 1) 0) q66.1 q66.2.1).bind fun H67 =>
                 (ld true 5 (ptr (n + 1) 0) H67).bind fun v68 =>
                 some (v68, H67, q66.2.2))))))
theorem s103 (C : Calling) (L : Body → Body) (t : Tm) (H : Hp) (n : Nat) : bodyK Try.prog C L Try.f103 t H n = S103 C L t H n := by kernel_rfl
theorem c103 (args : List Value) (H : Hp) (n : Nat) : Call Try.prog 103 args H n = S103 (Call Try.prog) Loop (argsT args) H n := (Call_body Try.func103 args H n).trans (s103 ..)
/-! 104: impl.Pool).add -/
noncomputable def S104 (C : Calling) (L : Body → Body) (t : Tm) (H : Hp) (n : Nat) : Option (Value × Hp × Nat) :=
  (vcells (t 1)).bind fun c2 =>
  let H1 := H.set (n) (some (.row c2 0 true))
  (nilchk (t 0)).bind fun v3 =>
  (fieldA 0 v3).bind fun v4 =>
  (ld false 1 v4 H1).bind fun v5 =>
  (ld true 5 (ptr (n) 0) H1).bind fun v6 =>
  (bsl (n + 8) 5 1 [.int .i64 0, .int .i64 0, .string ⟨#[]⟩, .int .i64 0, .int .i64 0] [(0, 5, v6)] H1).bind fun p7 =>
  (app (n + 9) 5 48 v5 p7.1 p7.2).bind fun p8 =>
  (nilchk (t 0)).bind fun v9 =>
  (fieldA 0 v9).bind fun v10 =>
  (st false 1 v10 p8.1 p8.2).bind fun H11 =>
  (nilchk (t 0)).bind fun v12 =>
  (fieldA 0 v12).bind fun v13 =>
  (ld false 1 v13 H11).bind fun v14 =>
  (lenV false v14).bind fun v15 =>
  (binK .plain .sub v15 (.int .i64 1)).bind fun v16 =>
  some (v16, H11, n + 20)
theorem s104 (C : Calling) (L : Body → Body) (t : Tm) (H : Hp) (n : Nat) : bodyK Try.prog C L Try.f104 t H n = S104 C L t H n := by kernel_rfl
theorem c104 (args : List Value) (H : Hp) (n : Nat) : Call Try.prog 104 args H n = S104 (Call Try.prog) Loop (argsT args) H n := (Call_body Try.func104 args H n).trans (s104 ..)
/-! 105: spec.l5Number -/
noncomputable def S105 (C : Calling) (L : Body → Body) (t : Tm) (H : Hp) (n : Nat) : Option (Value × Hp × Nat) :=
  (vcells (t 1)).bind fun c2 =>
  let H1 := H.set (n) (some (.row c2 0 true))
  (vcells (t 2)).bind fun c4 =>
  let H3 := H1.set (n + 1) (some (.row c4 0 true))
  let H5 := H3.set (n + 2) (some (.row [.int .i64 0, .int .i64 0, .string ⟨#[]⟩, .int .i64 0, .int .i64 0] 0 true))
  (fieldA 0 (ptr (n) 0)).bind fun v6 =>
  (ld false 1 v6 H5).bind fun v7 =>
  (binK .plain .neq v7 (.int .i64 3)).bind fun v8 =>
  let t10 : Tm := put (put (put (put (put (put (put (put t 4 (ptr (n) 0)) 5 (ptr (n + 1) 0)) 6 (ptr (n + 2) 0)) 7 (.int .i64 0)) 9 v6) 10 v7) 11 v8) 12 v8
  (gsel v8 false
    ((fieldA 0 (ptr (n + 1) 0)).bind fun v11 =>
     (ld false 1 v11 H5).bind fun v12 =>
     (binK .plain .neq v12 (.int .i64 3)).bind fun v13 =>
     some (put (put (put t10 13 v11) 14 v12) 15 v13, H5, n + 12))
    (some (put (put (put t10 13 (.tuple #[])) 14 (.tuple #[])) 15 (.tuple #[]), H5, n + 12))
  ).bind fun (q9 : R3) =>
  (pickV (q9.1 12) (.bool true) (q9.1 15)).bind fun v14 =>
  csel v14
    ((bld [.int .i64 0, .int .i64 0, .string ⟨#[]⟩, .int .i64 0, .int .i64 0] []).bind fun v15 =>
     (st true 5 (q9.1 6) v15 q9.2.1).bind fun H16 =>
     (ld true 5 (q9.1 6) H16).bind fun v17 =>
     iteK ([v17, .int .i64 3].all notTup) <|
     some (.tuple ⟨[v17, .int .i64 3]⟩, H16, q9.2.2 + 3))
    ((fieldA 1 (q9.1 4)).bind fun v18 =>
     (ld false 1 v18 q9.2.1).bind fun v19 =>
     (fieldA 1 (q9.1 5)).bind fun v20 =>
     (ld false 1 v20 q9.2.1).bind fun v21 =>
     (binK .plain .add v19 v21).bind fun v22 =>
     (binK .plain .eql (q9.1 0) (.int .i64 2)).bind fun v23 =>
     let t25 : Tm := put (put (put (put (put (put (put (put (put (put q9.1 16 v14) 18 v18) 19 v19) 20 v20) 21 v21) 22 v22) 8 v22) 23 (q9.1 0)) 25 v23) 24 v23
     (csel v23
       ((fieldA 1 (t25 4)).bind fun v26 =>
        (ld false 1 v26 q9.2.1).bind fun v27 =>
        (fieldA 1 (t25 5)).bind fun v28 =>
        (ld false 1 v28 q9.2.1).bind fun v29 =>
        (binK .plain .sub v27 v29).bind fun v30 =>
        some ⟨.normal, put (put (put (put (put (put t25 26 v26) 27 v27) 28 v28) 29 v29) 30 v30) 8 v30, q9.2.1, q9.2.2 + 15⟩)
       ((binK .plain .eql (q9.1 0) (.int .i64 3)).bind fun v31 =>
        let t33 : Tm := put (put t25 32 v31) 31 v31
        (csel v31
          ((fieldA 1 (t33 4)).bind fun v34 =>
           (ld false 1 v34 q9.2.1).bind fun v35 =>
           (fieldA 1 (t33 5)).bind fun v36 =>
           (ld false 1 v36 q9.2.1).bind fun v37 =>
           (binK .plain .mul v35 v37).bind fun v38 =>
           some ⟨.normal, put (put (put (put (put (put t33 33 v34) 34 v35) 35 v36) 36 v37) 37 v38) 8 v38, q9.2.1, q9.2.2 + 17⟩)
          ((binK .plain .eql (q9.1 0) (.int .i64 4)).bind fun v39 =>
           csel v39
             ((fieldA 1 (t33 4)).bind fun v40 =>
              (ld false 1 v40 q9.2.1).bind fun v41 =>
              (fieldA 1 (t33 5)).bind fun v42 =>
              (ld false 1 v42 q9.2.1).bind fun v43 =>
              (binK .plain .lss v41 v43).bind fun v44 =>
              (C 106 [v44] q9.2.1 (q9.2.2 + 21)).bind fun q45 =>
              (st true 5 (t33 6) q45.1 q45.2.1).bind fun H46 =>
              some ⟨.ret, put (put (put (put (put (put (put (put (put t33 39 v39) 38 v39) 40 v40) 41 v41) 42 v42) 43 v43) 44 v44) 45 q45.1) 7 (.int .i64 0), H46, q45.2.2⟩)
             ((binK .plain .eql (q9.1 0) (.int .i64 5)).bind fun v47 =>
              csel v47
                ((fieldA 1 (t33 4)).bind fun v48 =>
                 (ld false 1 v48 q9.2.1).bind fun v49 =>
                 (fieldA 1 (t33 5)).bind fun v50 =>
                 (ld false 1 v50 q9.2.1).bind fun v51 =>
                 (binK .plain .eql v49 v51).bind fun v52 =>
                 (C 106 [v52] q9.2.1 (q9.2.2 + 23)).bind fun q53 =>
                 (st true 5 (t33 6) q53.1 q53.2.1).bind fun H54 =>
                 some ⟨.ret, put (put (put (put (put (put (put (put (put (put (put t33 39 v39) 38 v39) 47 v47) 46 v47) 48 v48) 49 v49) 50 v50) 51 v51) 52 v52) 53 q53.1) 7 (.int .i64 0), H54, q53.2.2⟩)
                (some ⟨.normal, put (put (put (put t33 39 v39) 38 v39) 47 v47) 46 v47, q9.2.1, q9.2.2 + 15⟩)))
        ).bind fun (o32 : Out) =>
        some o32)
     ).bind fun (o24 : Out) =>
     let o55 := outOf 0 o24
     thenK o55
       ((C 45 [o55.t 8, .int .i64 (-1000000000), .int .i64 1000000000] o55.H (o55.n + 3)).bind fun q56 =>
        (un .not q56.1).bind fun v57 =>
        csel v57
          ((bld [.int .i64 0, .int .i64 0, .string ⟨#[]⟩, .int .i64 0, .int .i64 0] []).bind fun v58 =>
           (st true 5 (o55.t 6) v58 q56.2.1).bind fun H59 =>
           (ld true 5 (o55.t 6) H59).bind fun v60 =>
           iteK ([v60, .int .i64 4].all notTup) <|
           some (.tuple ⟨[v60, .int .i64 4]⟩, H59, q56.2.2 + 3))
          ((bld [.int .i64 0, .int .i64 0, .string ⟨#[]⟩, .int .i64 0, .int .i64 0] [(0, 1, .int .i64 3), (1, 1, o55.t 8)]).bind fun v61 =>
           (st true 5 (o55.t 6) v61 q56.2.1).bind fun H62 =>
           (ld true 5 (o55.t 6) H62).bind fun v63 =>
           iteK ([v63, .int .i64 0].all notTup) <|
           some (.tuple ⟨[v63, .int .i64 0]⟩, H62, q56.2.2 + 4)))
       (finE o55.e
          ((ld true 5 (o55.t 6) o55.H).bind fun v64 =>
           iteK ([v64, o55.t 7].all notTup) <|
           some (.tuple ⟨[v64, o55.t 7]⟩, o55.H, o55.n))))
theorem s105 (C : Calling) (L : Body → Body) (t : Tm) (H : Hp) (n : Nat) : bodyK Try.prog C L Try.f105 t H n = S105 C L t H n := by kernel_rfl
theorem c105 (args : List Value) (H : Hp) (n : Nat) : Call Try.prog 105 args H n = S105 (Call Try.prog) Loop (argsT args) H n := (Call_body Try.func105 args H n).trans (s105 ..)
/-! 106: spec.l5Bool -/
noncomputable def S106 (C : Calling) (L : Body → Body) (t : Tm) (H : Hp) (n : Nat) : Option (Value × Hp × Nat) :=
  let H1 := H.set (n) (some (.row [.int .i64 0, .int .i64 0, .string ⟨#[]⟩, .int .i64 0, .int .i64 0] 0 true))
  csel (t 0)
    ((bld [.int .i64 0, .int .i64 0, .string ⟨#[]⟩, .int .i64 0, .int .i64 0] [(0, 1, .int .i64 2), (1, 1, .int .i64 1)]).bind fun v2 =>
     (st true 5 (ptr (n) 0) v2 H1).bind fun H3 =>
     (ld true 5 (ptr (n) 0) H3).bind fun v4 =>
     some (v4, H3, n + 4))
    ((bld [.int .i64 0, .int .i64 0, .string ⟨#[]⟩, .int .i64 0, .int .i64 0] [(0, 1, .int .i64 2)]).bind fun v5 =>
     (st true 5 (ptr (n) 0) v5 H1).bind fun H6 =>
     (ld true 5 (ptr (n) 0) H6).bind fun v7 =>
     some (v7, H6, n + 4))
theorem s106 (C : Calling) (L : Body → Body) (t : Tm) (H : Hp) (n : Nat) : bodyK Try.prog C L Try.f106 t H n = S106 C L t H n := by kernel_rfl
theorem c106 (args : List Value) (H : Hp) (n : Nat) : Call Try.prog 106 args H n = S106 (Call Try.prog) Loop (argsT args) H n := (Call_body Try.func106 args H n).trans (s106 ..)
/-! 107: spec.l2Classes -/
noncomputable def S107L1 (C : Calling) (L : Body → Body) : Body := fun t H n =>
  (binK .plain .lss (t 8) (t 5)).bind fun v46 =>
  csel v46
    ((idxA 5 (t 4) (t 8)).bind fun v47 =>
     (ld true 5 v47 H).bind fun v48 =>
     (ld true 5 (t 6) H).bind fun v49 =>
     (binK (.agg [(0, (.int .i64)), (1, (.int .i64)), (2, .string), (3, (.int .i64)), (4, (.int .i64))]) .eql v48 v49).bind fun v50 =>
     csel v50
       (some ⟨(.exit 3), put (put (put (put (put (put (put (put (put (put (put t 49 (t 8)) 50 (t 5)) 51 v46) 54 (t 4)) 55 (t 8)) 56 v47) 57 v48) 58 v49) 59 v50) 60 (t 8)) 7 (t 8), H, n + 11⟩)
       ((binK .plain .add (t 8) (.int .i64 1)).bind fun v51 =>
        some ⟨.normal, put (put (put (put (put (put (put (put (put (put (put (put t 49 (t 8)) 50 (t 5)) 51 v46) 54 (t 4)) 55 (t 8)) 56 v47) 57 v48) 58 v49) 59 v50) 52 (t 8)) 53 v51) 8 v51, H, n + 12⟩))
    (some ⟨(.exit 3), put (put (put t 49 (t 8)) 50 (t 5)) 51 v46, H, n + 3⟩)
noncomputable def S107L0 (C : Calling) (L : Body → Body) : Body := fun t H n =>
  (fieldA 0 (t 1)).bind fun v6 =>
  (ld false 1 v6 H).bind fun v7 =>
  (lenV false v7).bind fun v8 =>
  (binK .plain .lss (t 5) v8).bind fun v9 =>
  csel v9
    ((fieldA 0 (t 1)).bind fun v10 =>
     (ld false 1 v10 H).bind fun v11 =>
     (idxA 5 v11 (t 5)).bind fun v12 =>
     (ld true 5 v12 H).bind fun v13 =>
     let H14 := H.set (n + 10) (some (.row [.int .i64 0, .int .i64 0, .string ⟨#[]⟩, .int .i64 0, .int .i64 0] 0 true))
     (st true 5 (ptr (n + 10) 0) v13 H14).bind fun H15 =>
     (fieldA 0 (ptr (n + 10) 0)).bind fun v16 =>
     (ld false 1 v16 H15).bind fun v17 =>
     (binK .plain .eql v17 (.int .i64 5)).bind fun v18 =>
     let t20 : Tm := put (put (put (put (put (put (put (put (put (put (put (put (put (put (put t 11 (t 5)) 12 v6) 13 v7) 14 v8) 15 v9) 18 v10) 19 v11) 20 (t 5)) 21 v12) 22 v13) 6 (ptr (n + 10) 0)) 23 v16) 24 v17) 26 v18) 25 v18
     (csel v18
       ((fieldA 3 (ptr (n + 10) 0)).bind fun v21 =>
        (ld false 1 v21 H15).bind fun v22 =>
        (idxA 1 (t20 3) v22).bind fun v23 =>
        (ld false 1 v23 H15).bind fun v24 =>
        (fieldA 3 (ptr (n + 10) 0)).bind fun v25 =>
        (st false 1 v25 v24 H15).bind fun H26 =>
        (fieldA 4 (ptr (n + 10) 0)).bind fun v27 =>
        (ld false 1 v27 H26).bind fun v28 =>
        (idxA 1 (t20 3) v28).bind fun v29 =>
        (ld false 1 v29 H26).bind fun v30 =>
        (fieldA 4 (ptr (n + 10) 0)).bind fun v31 =>
        (st false 1 v31 v30 H26).bind fun H32 =>
        some ⟨.normal, put (put (put (put (put (put (put (put (put (put (put (put t20 27 (t20 3)) 28 v21) 29 v22) 30 v23) 31 v24) 32 v25) 33 (t20 3)) 34 v27) 35 v28) 36 v29) 37 v30) 38 v31, H32, n + 30⟩)
       ((binK .plain .eql v17 (.int .i64 6)).bind fun v33 =>
        let t35 : Tm := put (put t20 40 v33) 39 v33
        (csel v33
          (some ⟨.normal, t35, H15, n + 18⟩)
          ((binK .plain .eql v17 (.int .i64 7)).bind fun v36 =>
           some ⟨.normal, put (put t35 41 v36) 39 v36, H15, n + 20⟩)
        ).bind fun (o34 : Out) =>
        (csel (o34.t 39)
          ((fieldA 3 (o34.t 6)).bind fun v39 =>
           (ld false 1 v39 o34.H).bind fun v40 =>
           (idxA 1 (o34.t 3) v40).bind fun v41 =>
           (ld false 1 v41 o34.H).bind fun v42 =>
           (fieldA 3 (o34.t 6)).bind fun v43 =>
           (st false 1 v43 v42 o34.H).bind fun H44 =>
           some ⟨.normal, put (put (put (put (put (put o34.t 42 (o34.t 3)) 43 v39) 44 v40) 45 v41) 46 v42) 47 v43, H44, o34.n + 7⟩)
          (some ⟨.normal, o34.t, o34.H, o34.n⟩)
        ).bind fun (o37 : Out) =>
        some ⟨.normal, o37.t, o37.H, o37.n⟩)
     ).bind fun (o19 : Out) =>
     (L (S107L1 C L) (put (put (put o19.t 48 (o19.t 5)) 7 (o19.t 5)) 8 (.int .i64 0)) o19.H (o19.n + 3)).bind fun (o45 : Out) =>
     (ld true 5 (o45.t 6) o45.H).bind fun v52 =>
     (bsl (o45.n + 2) 5 1 [.int .i64 0, .int .i64 0, .string ⟨#[]⟩, .int .i64 0, .int .i64 0] [(0, 5, v52)] o45.H).bind fun p53 =>
     (app (o45.n + 3) 5 48 (o45.t 4) p53.1 p53.2).bind fun p54 =>
     (bsl (o45.n + 7) 1 1 [.int .i64 0] [(0, 1, o45.t 7)] p54.2).bind fun p55 =>
     (app (o45.n + 8) 1 8 (o45.t 3) p55.1 p55.2).bind fun p56 =>
     (binK .plain .add (o45.t 5) (.int .i64 1)).bind fun v57 =>
     some ⟨.normal, put (put (put (put (put (put (put (put (put (put (put (put (put o45.t 61 (o45.t 4)) 62 v52) 63 p53.1) 64 p54.1) 4 p54.1) 65 (o45.t 3)) 66 (o45.t 7)) 67 p55.1) 68 p56.1) 3 p56.1) 16 (o45.t 5)) 17 v57) 5 v57, p56.2, o45.n + 13⟩)
    (some ⟨(.exit 0), put (put (put (put (put t 11 (t 5)) 12 v6) 13 v7) 14 v8) 15 v9, H, n + 5⟩)
noncomputable def S107 (C : Calling) (L : Body → Body) (t : Tm) (H : Hp) (n : Nat) : Option (Value × Hp × Nat) :=
  (vcells (t 0)).bind fun c2 =>
  let H1 := H.set (n) (some (.row c2 0 true))
  (bsl (n + 2) 1 0 [.int .i64 0] [] H1).bind fun p3 =>
  (bsl (n + 4) 5 0 [.int .i64 0, .int .i64 0, .string ⟨#[]⟩, .int .i64 0, .int .i64 0] [] p3.2).bind fun p4 =>
  (L (S107L0 C L) (put (put (put (put (put (put (put t 1 (ptr (n) 0)) 2 nilS) 9 p3.1) 3 p3.1) 10 p4.1) 4 p4.1) 5 (.int .i64 0)) p4.2 (n + 7)).bind fun (o5 : Out) =>
  some (o5.t 3, o5.H, o5.n + 2)
theorem s107 (C : Calling) (L : Body → Body) (t : Tm) (H : Hp) (n : Nat) : bodyK Try.prog C L Try.f107 t H n = S107 C L t H n := by kernel_rfl
theorem c107 (args : List Value) (H : Hp) (n : Nat) : Call Try.prog 107 args H n = S107 (Call Try.prog) Loop (argsT args) H n := (Call_body Try.func107 args H n).trans (s107 ..)
/-! 116: slices.Contains[[]byte,byte] -/
noncomputable def S116 (C : Calling) (L : Body → Body) (t : Tm) (H : Hp) (n : Nat) : Option (Value × Hp × Nat) :=
  (C 123 [t 0, t 1] H (n + 6)).bind fun q1 =>
  (binK .plain .geq q1.1 (.int .i64 0)).bind fun v2 =>
  some (v2, q1.2.1, q1.2.2)
theorem s116 (C : Calling) (L : Body → Body) (t : Tm) (H : Hp) (n : Nat) : bodyK Try.prog C L Try.f116 t H n = S116 C L t H n := by kernel_rfl
theorem c116 (args : List Value) (H : Hp) (n : Nat) : Call Try.prog 116 args H n = S116 (Call Try.prog) Loop (argsT args) H n := (Call_body Try.func116 args H n).trans (s116 ..)
/-! 117: spec.l2DrawNode -/
noncomputable def S117 (C : Calling) (L : Body → Body) (t : Tm) (H : Hp) (n : Nat) : Option (Value × Hp × Nat) :=
  let H1 := H.set (n) (some (.row [.int .i64 0, .int .i64 0, .string ⟨#[]⟩, .int .i64 0, .int .i64 0] 0 true))
  (binK .plain .eql (t 1) (.int .i64 0)).bind fun v2 =>
  let t4 : Tm := put (put (put (put t 4 (ptr (n) 0)) 6 (t 1)) 7 v2) 8 v2
  (gsel v2 false
    ((C 57 [t4 0, .int .i64 2] H1 (n + 7)).bind fun q5 =>
     some (put (put t4 9 (t4 0)) 10 q5.1, q5.2.1, q5.2.2))
    (some (put (put t4 9 (.tuple #[])) 10 (.tuple #[]), H1, n + 7))
  ).bind fun (q3 : R3) =>
  (pickV (q3.1 8) (.bool true) (q3.1 10)).bind fun v6 =>
  csel v6
    ((C 124 [q3.1 0] q3.2.1 (q3.2.2 + 3)).bind fun q7 =>
     (st true 5 (q3.1 4) q7.1 q7.2.1).bind fun H8 =>
     (ld true 5 (q3.1 4) H8).bind fun v9 =>
     some (v9, H8, q7.2.2))
    ((binK .plain .sub (q3.1 1) (.int .i64 1)).bind fun v10 =>
     (C 100 [q3.1 1, .int .i64 5] q3.2.1 (q3.2.2 + 8)).bind fun q11 =>
     (C 56 [q3.1 0, q11.1] q11.2.1 (q11.2.2)).bind fun q12 =>
     (binK .plain .sub v10 q12.1).bind fun v13 =>
     (C 56 [q3.1 0, .int .i64 8] q12.2.1 (q12.2.2 + 2)).bind fun q14 =>
     (binK .plain .eql q14.1 (.int .i64 0)).bind fun v15 =>
     csel v15
       ((C 56 [q3.1 0, .int .i64 9] q14.2.1 (q14.2.2 + 7)).bind fun q16 =>
        (bld [.int .i64 0, .int .i64 0, .string ⟨#[]⟩, .int .i64 0, .int .i64 0] [(0, 1, .int .i64 6), (1, 1, q16.1), (3, 1, v13)]).bind fun v17 =>
        (st true 5 (q3.1 4) v17 q16.2.1).bind fun H18 =>
        (ld true 5 (q3.1 4) H18).bind fun v19 =>
        some (v19, H18, q16.2.2))
       ((binK .plain .eql q14.1 (.int .i64 1)).bind fun v20 =>
        csel v20
          ((bld [.int .i64 0, .int .i64 0, .string ⟨#[]⟩, .int .i64 0, .int .i64 0] [(0, 1, .int .i64 7), (3, 1, v13)]).bind fun v21 =>
           (st true 5 (q3.1 4) v21 q14.2.1).bind fun H22 =>
           (ld true 5 (q3.1 4) H22).bind fun v23 =>
           some (v23, H22, q14.2.2 + 7))
          ((binK .plain .sub (q3.1 1) (.int .i64 1)).bind fun v24 =>
           (C 100 [q3.1 1, .int .i64 4] q14.2.1 (q14.2.2 + 14)).bind fun q25 =>
           (C 56 [q3.1 0, q25.1] q25.2.1 (q25.2.2)).bind fun q26 =>
           (binK .plain .sub v24 q26.1).bind fun v27 =>
           (bld [.int .i64 0, .int .i64 0, .string ⟨#[]⟩, .int .i64 0, .int .i64 0] [(0, 1, .int .i64 5), (3, 1, v13), (4, 1, v27)]).bind fun v28 =>
           (st true 5 (q3.1 4) v28 q26.2.1).bind fun H29 =>
           (ld true 5 (q3.1 4) H29).bind fun v30 =>
           some (v30, H29, q26.2.2))))
theorem s117 (C : Calling) (L : Body → Body) (t : Tm) (H : Hp) (n : Nat) : bodyK Try.prog C L Try.f117 t H n = S117 C L t H n := by kernel_rfl
theorem c117 (args : List Value) (H : Hp) (n : Nat) : Call Try.prog 117 args H n = S117 (Call Try.prog) Loop (argsT args) H n := (Call_body Try.func117 args H n).trans (s117 ..)
/-! 118: spec.l1Pick -/
noncomputable def S118 (C : Calling) (L : Body → Body) (t : Tm) (H : Hp) (n : Nat) : Option (Value × Hp × Nat) :=
  (lenV false (t 1)).bind fun v1 =>
  (C 56 [t 0, v1] H (n + 9)).bind fun q2 =>
  (idxA 1 (t 1) q2.1).bind fun v3 =>
  (ld false 1 v3 q2.2.1).bind fun v4 =>
  some (v4, q2.2.1, q2.2.2)
theorem s118 (C : Calling) (L : Body → Body) (t : Tm) (H : Hp) (n : Nat) : bodyK Try.prog C L Try.f118 t H n = S118 C L t H n := by kernel_rfl
theorem c118 (args : List Value) (H : Hp) (n : Nat) : Call Try.prog 118 args H n = S118 (Call Try.prog) Loop (argsT args) H n := (Call_body Try.func118 args H n).trans (s118 ..)
/-! 119: impl.boolNode -/
noncomputable def S119 (C : Calling) (L : Body → Body) (t : Tm) (H : Hp) (n : Nat) : Option (Value × Hp × Nat) :=
  let H1 := H.set (n) (some (.row [.int .i64 0, .int .i64 0, .string ⟨#[]⟩, .int .i64 0, .int .i64 0] 0 true))
  csel (t 0)
    ((bld [.int .i64 0, .int .i64 0, .string ⟨#[]⟩, .int .i64 0, .int .i64 0] [(0, 1, .int .i64 2), (1, 1, .int .i64 1)]).bind fun v2 =>
     (st true 5 (ptr (n) 0) v2 H1).bind fun H3 =>
     (ld true 5 (ptr (n) 0) H3).bind fun v4 =>
     some (v4, H3, n + 4))
    ((bld [.int .i64 0, .int .i64 0, .string ⟨#[]⟩, .int .i64 0, .int .i64 0] [(0, 1, .int .i64 2)]).bind fun v5 =>
     (st true 5 (ptr (n) 0) v5 H1).bind fun H6 =>
     (ld true 5 (ptr (n) 0) H6).bind fun v7 =>
     some (v7, H6, n + 4))
theorem s119 (C : Calling) (L : Body → Body) (t : Tm) (H : Hp) (n : Nat) : bodyK Try.prog C L Try.f119 t H n = S119 C L t H n := by kernel_rfl
theorem c119 (args : List Value) (H : Hp) (n : Nat) : Call Try.prog 119 args H n = S119 (Call Try.prog) Loop (argsT args) H n := (Call_body Try.func119 args H n).trans (s119 ..)
/-! 120: impl.Same -/
noncomputable def S120 (C : Calling) (L : Body → Body) (t : Tm) (H : Hp) (n : Nat) : Option (Value × Hp × Nat) :=
  (vcells (t 0)).bind fun c2 =>
  let H1 := H.set (n) (some (.row c2 0 true))
  (ld true 1 (ptr (n) 0) H1).bind fun v3 =>
  (C 18 [v3] H1 (n + 17)).bind fun q4 =>
  (un .not q4.1).bind fun v5 =>
  let t7 : Tm := put (put (put (put (put (put t 3 (ptr (n) 0)) 6 (.bool false)) 8 v3) 9 q4.1) 10 v5) 11 v5
  (gsel v5 false
    ((ld true 1 (ptr (n) 0) q4.2.1).bind fun v8 =>
     (C 65 [v8, t7 1] q4.2.1 (q4.2.2)).bind fun q9 =>
     (un .not q9.1).bind fun v10 =>
     some (put (put (put (put t7 12 v8) 13 (t7 1)) 14 q9.1) 15 v10, q9.2.1, q9.2.2))
    (some (put (put (put (put t7 12 (.tuple #[])) 13 (.tuple #[])) 14 (.tuple #[])) 15 (.tuple #[]), q4.2.1, q4.2.2))
  ).bind fun (q6 : R3) =>
  (pickV (q6.1 11) (.bool true) (q6.1 15)).bind fun v11 =>
  let t13 : Tm := put (put q6.1 16 v11) 17 v11
  (gsel v11 false
    ((ld true 1 (t13 3) q6.2.1).bind fun v14 =>
     (C 65 [v14, t13 2] q6.2.1 (q6.2.2)).bind fun q15 =>
     (un .not q15.1).bind fun v16 =>
     some (put (put (put (put t13 18 v14) 19 (t13 2)) 20 q15.1) 21 v16, q15.2.1, q15.2.2))
    (some (put (put (put (put t13 18 (.tuple #[])) 19 (.tuple #[])) 20 (.tuple #[])) 21 (.tuple #[]), q6.2.1, q6.2.2))
  ).bind fun (q12 : R3) =>
  (pickV (q12.1 17) (.bool true) (q12.1 21)).bind fun v17 =>
  csel v17
    (some (.bool false, q12.2.1, q12.2.2 + 1))
    ((ld true 1 (q12.1 3) q12.2.1).bind fun v18 =>
     (C 125 [v18] q12.2.1 (q12.2.2 + 3)).bind fun q19 =>
     (idxA 1 q19.1 (q12.1 1)).bind fun v20 =>
     (ld false 1 v20 q19.2.1).bind fun v21 =>
     (idxA 1 q19.1 (q12.1 2)).bind fun v22 =>
     (ld false 1 v22 q19.2.1).bind fun v23 =>
     (binK .plain .eql v21 v23).bind fun v24 =>
     some (v24, q19.2.1, q19.2.2 + 10))
theorem s120 (C : Calling) (L : Body → Body) (t : Tm) (H : Hp) (n : Nat) : bodyK Try.prog C L Try.f120 t H n = S120 C L t H n := by kernel_rfl
theorem c120 (args : List Value) (H : Hp) (n : Nat) : Call Try.prog 120 args H n = S120 (Call Try.prog) Loop (argsT args) H n := (Call_body Try.func120 args H n).trans (s120 ..)
/-! 121: impl.numbers -/
noncomputable def S121 (C : Calling) (L : Body → Body) (t : Tm) (H : Hp) (n : Nat) : Option (Value × Hp × Nat) :=
  let H1 := H.set (n) (some (.row [.int .i64 0, .int .i64 0, .string ⟨#[]⟩, .int .i64 0, .int .i64 0] 0 true))
  (binK .plain .eql (t 0) (.int .i64 1)).bind fun v2 =>
  csel v2
    ((binK .plain .add (t 1) (t 2)).bind fun v3 =>
     (bld [.int .i64 0, .int .i64 0, .string ⟨#[]⟩, .int .i64 0, .int .i64 0] [(0, 1, .int .i64 3), (1, 1, v3)]).bind fun v4 =>
     (st true 5 (ptr (n) 0) v4 H1).bind fun H5 =>
     (ld true 5 (ptr (n) 0) H5).bind fun v6 =>
     some (v6, H5, n + 9))
    ((binK .plain .eql (t 0) (.int .i64 2)).bind fun v7 =>
     csel v7
       ((binK .plain .sub (t 1) (t 2)).bind fun v8 =>
        (bld [.int .i64 0, .int .i64 0, .string ⟨#[]⟩, .int .i64 0, .int .i64 0] [(0, 1, .int .i64 3), (1, 1, v8)]).bind fun v9 =>
        (st true 5 (ptr (n) 0) v9 H1).bind fun H10 =>
        (ld true 5 (ptr (n) 0) H10).bind fun v11 =>
        some (v11, H10, n + 11))
       ((binK .plain .eql (t 0) (.int .i64 3)).bind fun v12 =>
        csel v12
          ((binK .plain .mul (t 1) (t 2)).bind fun v13 =>
           (bld [.int .i64 0, .int .i64 0, .string ⟨#[]⟩, .int .i64 0, .int .i64 0] [(0, 1, .int .i64 3), (1, 1, v13)]).bind fun v14 =>
           (st true 5 (ptr (n) 0) v14 H1).bind fun H15 =>
           (ld true 5 (ptr (n) 0) H15).bind fun v16 =>
           some (v16, H15, n + 13))
          ((binK .plain .eql (t 0) (.int .i64 4)).bind fun v17 =>
           csel v17
             ((binK .plain .lss (t 1) (t 2)).bind fun v18 =>
              (C 119 [v18] H1 (n + 15)).bind fun q19 =>
              (st true 5 (ptr (n) 0) q19.1 q19.2.1).bind fun H20 =>
              (ld true 5 (ptr (n) 0) H20).bind fun v21 =>
              some (v21, H20, q19.2.2))
             ((binK .plain .eql (t 1) (t 2)).bind fun v22 =>
              (C 119 [v22] H1 (n + 15)).bind fun q23 =>
              (st true 5 (ptr (n) 0) q23.1 q23.2.1).bind fun H24 =>
              (ld true 5 (ptr (n) 0) H24).bind fun v25 =>
              some (v25, H24, q23.2.2)))))
theorem s121 (C : Calling) (L : Body → Body) (t : Tm) (H : Hp) (n : Nat) : bodyK Try.prog C L Try.f121 t H n = S121 C L t H n := by kernel_rfl
theorem c121 (args : List Value) (H : Hp) (n : Nat) : Call Try.prog 121 args H n = S121 (Call Try.prog) Loop (argsT args) H n := (Call_body Try.func121 args H n).trans (s121 ..)
/-! 123: slices.Index[[]byte,byte] -/
noncomputable def S123L0 (C : Calling) (L : Body → Body) : Body := fun t H n =>
  (binK .plain .lss (t 8) (t 7)).bind fun v3 =>
  csel v3
    ((idxA 1 (t 0) (t 8)).bind fun v4 =>
     (ld false 1 v4 H).bind fun v5 =>
     (binK .plain .eql (t 1) v5).bind fun v6 =>
     csel v6
       (some ⟨.ret, put (put (put (put (put (put (put (put (put (put (put t 9 v3) 10 (t 8)) 5 (t 8)) 11 (t 1)) 12 (t 0)) 13 (t 8)) 14 v4) 15 v5) 16 v6) 17 (t 8)) 4 (t 8), H, n + 11⟩)
       ((binK .plain .add (t 8) (.int .i64 1)).bind fun v7 =>
        some ⟨.normal, put (put (put (put (put (put (put (put (put (put (put t 9 v3) 10 (t 8)) 5 (t 8)) 11 (t 1)) 12 (t 0)) 13 (t 8)) 14 v4) 15 v5) 16 v6) 18 v7) 8 v7, H, n + 11⟩))
    (some ⟨(.exit 0), put t 9 v3, H, n + 1⟩)
noncomputable def S123 (C : Calling) (L : Body → Body) (t : Tm) (H : Hp) (n : Nat) : Option (Value × Hp × Nat) :=
  (lenV false (t 0)).bind fun v1 =>
  (L (S123L0 C L) (put (put (put (put t 4 (.int .i64 0)) 6 (t 0)) 7 v1) 8 (.int .i64 0)) H (n + 4)).bind fun (o2 : Out) =>
  let o8 := outOf 0 o2
  thenK o8
    (some (.int .i64 (-1), o8.H, o8.n + 1))
    (finE o8.e
       (some (o8.t 4, o8.H, o8.n)))
theorem s123 (C : Calling) (L : Body → Body) (t : Tm) (H : Hp) (n : Nat) : bodyK Try.prog C L Try.f123 t H n = S123 C L t H n := by kernel_rfl
theorem c123 (args : List Value) (H : Hp) (n : Nat) : Call Try.prog 123 args H n = S123 (Call Try.prog) Loop (argsT args) H n := (Call_body Try.func123 args H n).trans (s123 ..)
/-! 124: spec.l2DrawAtom -/
noncomputable def S124 (C : Calling) (L : Body → Body) (t : Tm) (H : Hp) (n : Nat) : Option (Value × Hp × Nat) :=
  let H1 := H.set (n) (some (.row [.int .i64 0, .int .i64 0, .string ⟨#[]⟩, .int .i64 0, .int .i64 0] 0 true))
  (C 56 [t 0, .int .i64 8] H1 (n + 3)).bind fun q2 =>
  (binK .plain .eql q2.1 (.int .i64 0)).bind fun v3 =>
  csel v3
    ((bld [.int .i64 0, .int .i64 0, .string ⟨#[]⟩, .int .i64 0, .int .i64 0] [(0, 1, .int .i64 1)]).bind fun v4 =>
     (st true 5 (ptr (n) 0) v4 q2.2.1).bind fun H5 =>
     (ld true 5 (ptr (n) 0) H5).bind fun v6 =>
     some (v6, H5, q2.2.2 + 4))
    ((binK .plain .eql q2.1 (.int .i64 1)).bind fun v7 =>
     csel v7
       ((C 56 [t 0, .int .i64 2] q2.2.1 (q2.2.2 + 8)).bind fun q8 =>
        (bld [.int .i64 0, .int .i64 0, .string ⟨#[]⟩, .int .i64 0, .int .i64 0] [(0, 1, .int .i64 2), (1, 1, q8.1)]).bind fun v9 =>
        (st true 5 (ptr (n) 0) v9 q8.2.1).bind fun H10 =>
        (ld true 5 (ptr (n) 0) H10).bind fun v11 =>
        some (v11, H10, q8.2.2))
       ((binK .plain .eql q2.1 (.int .i64 2)).bind fun v12 =>
        csel v12
          ((bsl (q2.2.2 + 7) 1 6 [.string ⟨#[]⟩] [(0, 1, .string ⟨#[97]⟩), (1, 1, .string ⟨#[98, 99]⟩), (2, 1, .string ⟨#[120]⟩), (3, 1, .string ⟨#[102]⟩), (4, 1, .string ⟨#[43]⟩), (5, 1, .string ⟨#[108, 105, 115, 116]⟩)] q2.2.1).bind fun p13 =>
           (C 118 [t 0, p13.1] p13.2 (q2.2.2 + 11)).bind fun q14 =>
           (bld [.int .i64 0, .int .i64 0, .string ⟨#[]⟩, .int .i64 0, .int .i64 0] [(0, 1, .int .i64 4), (2, 1, q14.1)]).bind fun v15 =>
           (st true 5 (ptr (n) 0) v15 q14.2.1).bind fun H16 =>
           (ld true 5 (ptr (n) 0) H16).bind fun v17 =>
           some (v17, H16, q14.2.2))
          ((binK .plain .eql q2.1 (.int .i64 3)).bind fun v18 =>
           csel v18
             ((C 56 [t 0, .int .i64 5] q2.2.1 (q2.2.2 + 12)).bind fun q19 =>
              (bld [.int .i64 0, .int .i64 0, .string ⟨#[]⟩, .int .i64 0, .int .i64 0] [(0, 1, .int .i64 9), (1, 1, q19.1)]).bind fun v20 =>
              (st true 5 (ptr (n) 0) v20 q19.2.1).bind fun H21 =>
              (ld true 5 (ptr (n) 0) H21).bind fun v22 =>
              some (v22, H21, q19.2.2))
             ((binK .plain .eql q2.1 (.int .i64 4)).bind fun v23 =>
              csel v23
                ((C 56 [t 0, .int .i64 5] q2.2.1 (q2.2.2 + 14)).bind fun q24 =>
                 (bld [.int .i64 0, .int .i64 0, .string ⟨#[]⟩, .int .i64 0, .int .i64 0] [(0, 1, .int .i64 8), (1, 1, q24.1)]).bind fun v25 =>
                 (st true 5 (ptr (n) 0) v25 q24.2.1).bind fun H26 =>
                 (ld true 5 (ptr (n) 0) H26).bind fun v27 =>
                 some (v27, H26, q24.2.2))
                ((C 56 [t 0, .int .i64 12] q2.2.1 (q2.2.2 + 15)).bind fun q28 =>
                 (binK .plain .sub q28.1 (.int .i64 3)).bind fun v29 =>
                 (bld [.int .i64 0, .int .i64 0, .string ⟨#[]⟩, .int .i64 0, .int .i64 0] [(0, 1, .int .i64 3), (1, 1, v29)]).bind fun v30 =>
                 (st true 5 (ptr (n) 0) v30 q28.2.1).bind fun H31 =>
                 (ld true 5 (ptr (n) 0) H31).bind fun v32 =>
                 some (v32, H31, q28.2.2))))))
theorem s124 (C : Calling) (L : Body → Body) (t : Tm) (H : Hp) (n : Nat) : bodyK Try.prog C L Try.f124 t H n = S124 C L t H n := by kernel_rfl
theorem c124 (args : List Value) (H : Hp) (n : Nat) : Call Try.prog 124 args H n = S124 (Call Try.prog) Loop (argsT args) H n := (Call_body Try.func124 args H n).trans (s124 ..)
/-! 125: impl.classes -/
noncomputable def S125L0 (C : Calling) (L : Body → Body) : Body := fun t H n =>
  (binK .plain .lss (t 14) (t 13)).bind fun v9 =>
  csel v9
    ((idxA 5 (t 12) (t 14)).bind fun v10 =>
     (ld true 5 v10 H).bind fun v11 =>
     let H12 := H.set (n + 4) (some (.row [.int .i64 0, .int .i64 0, .string ⟨#[]⟩, .int .i64 0, .int .i64 0] 0 true))
     (st true 5 (ptr (n + 4) 0) v11 H12).bind fun H13 =>
     (fieldA 0 (ptr (n + 4) 0)).bind fun v14 =>
     (ld false 1 v14 H13).bind fun v15 =>
     (binK .plain .eql v15 (.int .i64 5)).bind fun v16 =>
     let t18 : Tm := put (put (put (put (put (put (put (put (put (put t 15 v9) 16 (t 14)) 17 v10) 18 v11) 6 (ptr (n + 4) 0)) 5 (t 14)) 19 v14) 20 v15) 22 v16) 21 v16
     (csel v16
       ((fieldA 3 (ptr (n + 4) 0)).bind fun v19 =>
        (ld false 1 v19 H13).bind fun v20 =>
        (idxA 1 (t18 4) v20).bind fun v21 =>
        (ld false 1 v21 H13).bind fun v22 =>
        (fieldA 4 (ptr (n + 4) 0)).bind fun v23 =>
        (ld false 1 v23 H13).bind fun v24 =>
        (idxA 1 (t18 4) v24).bind fun v25 =>
        (ld false 1 v25 H13).bind fun v26 =>
        (fieldA 3 (ptr (n + 4) 0)).bind fun v27 =>
        (st false 1 v27 v22 H13).bind fun H28 =>
        ask (ld false 1 v25 H28 = some v26) <|
        (fieldA 4 (ptr (n + 4) 0)).bind fun v29 =>
        (st false 1 v29 v26 H28).bind fun H30 =>
        some ⟨.normal, put (put (put (put (put (put (put (put (put (put (put (put t18 23 (t18 4)) 24 v19) 25 v20) 26 v21) 27 v22) 28 (t18 4)) 29 v23) 30 v24) 31 v25) 32 v26) 33 v27) 34 v29, H30, n + 25⟩)
       ((binK .plain .eql v15 (.int .i64 6)).bind fun v31 =>
        let t33 : Tm := put (put t18 36 v31) 35 v31
        (csel v31
          (some ⟨.normal, t33, H13, n + 13⟩)
          ((binK .plain .eql v15 (.int .i64 7)).bind fun v34 =>
           some ⟨.normal, put (put t33 37 v34) 35 v34, H13, n + 15⟩)
        ).bind fun (o32 : Out) =>
        (csel (o32.t 35)
          ((fieldA 3 (o32.t 6)).bind fun v37 =>
           (ld false 1 v37 o32.H).bind fun v38 =>
           (idxA 1 (o32.t 4) v38).bind fun v39 =>
           (ld false 1 v39 o32.H).bind fun v40 =>
           (fieldA 3 (o32.t 6)).bind fun v41 =>
           (st false 1 v41 v40 o32.H).bind fun H42 =>
           some ⟨.normal, put (put (put (put (put (put o32.t 38 (o32.t 4)) 39 v37) 40 v38) 41 v39) 42 v40) 43 v41, H42, o32.n + 7⟩)
          (some ⟨.normal, o32.t, o32.H, o32.n⟩)
        ).bind fun (o35 : Out) =>
        some ⟨.normal, o35.t, o35.H, o35.n⟩)
     ).bind fun (o17 : Out) =>
     (ld true 5 (o17.t 6) o17.H).bind fun v43 =>
     (lookV [(0, (.int .i64)), (1, (.int .i64)), (2, .string), (3, (.int .i64)), (4, (.int .i64))] (.int .i64 0) true (o17.t 3) v43 o17.H).bind fun v44 =>
     (ext 0 v44).bind fun v45 =>
     (ext 1 v44).bind fun v46 =>
     (un .not v46).bind fun v47 =>
     let t49 : Tm := put (put (put (put (put (put (put (put (put (put o17.t 45 (o17.t 3)) 46 v43) 47 v44) 44 v44) 48 v45) 49 v46) 7 v45) 8 v46) 50 v46) 51 v47
     (csel v47
       ((ld true 5 (t49 6) o17.H).bind fun v50 =>
        (updV [(0, (.int .i64)), (1, (.int .i64)), (2, .string), (3, (.int .i64)), (4, (.int .i64))] (t49 3) v50 (t49 5) o17.H).bind fun H51 =>
        some ⟨.normal, put (put (put (put (put t49 52 (t49 5)) 7 (t49 5)) 53 (t49 3)) 54 v50) 55 (t49 5), H51, o17.n + 16⟩)
       (some ⟨.normal, t49, o17.H, o17.n + 10⟩)
     ).bind fun (o48 : Out) =>
     (bsl (o48.n + 2) 1 1 [.int .i64 0] [(0, 1, o48.t 7)] o48.H).bind fun p52 =>
     (app (o48.n + 3) 1 8 (o48.t 4) p52.1 p52.2).bind fun p53 =>
     (binK .plain .add (o48.t 14) (.int .i64 1)).bind fun v54 =>
     some ⟨.normal, put (put (put (put (put (put (put o48.t 56 (o48.t 4)) 57 (o48.t 7)) 58 p52.1) 59 p53.1) 4 p53.1) 60 v54) 14 v54, p53.2, o48.n + 7⟩)
    (some ⟨(.exit 0), put t 15 v9, H, n + 1⟩)
noncomputable def S125 (C : Calling) (L : Body → Body) (t : Tm) (H : Hp) (n : Nat) : Option (Value × Hp × Nat) :=
  (vcells (t 0)).bind fun c2 =>
  let H1 := H.set (n) (some (.row c2 0 true))
  let H3 := H1.set (n + 2) (some (.map []))
  (bsl (n + 4) 1 0 [.int .i64 0] [] H3).bind fun p4 =>
  (fieldA 0 (ptr (n) 0)).bind fun v5 =>
  (ld false 1 v5 p4.2).bind fun v6 =>
  (lenV false v6).bind fun v7 =>
  (L (S125L0 C L) (put (put (put (put (put (put (put (put (put (put t 1 (ptr (n) 0)) 2 nilS) 9 (.map (some (n + 2)))) 3 (.map (some (n + 2)))) 10 p4.1) 4 p4.1) 11 v5) 12 v6) 13 v7) 14 (.int .i64 0)) p4.2 (n + 10)).bind fun (o8 : Out) =>
  some (o8.t 4, o8.H, o8.n + 2)
theorem s125 (C : Calling) (L : Body → Body) (t : Tm) (H : Hp) (n : Nat) : bodyK Try.prog C L Try.f125 t H n = S125 C L t H n := by kernel_rfl
theorem c125 (args : List Value) (H : Hp) (n : Nat) : Call Try.prog 125 args H n = S125 (Call Try.prog) Loop (argsT args) H n := (Call_body Try.func125 args H n).trans (s125 ..)
end Go.Proofs.Ytpiicpcofjhakaa.Ax
