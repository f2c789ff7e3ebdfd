/- What the bodies of some functions of the program come to in the abstract machine. -/
import Derived.Test.YtfdnlokpadbjnaaProg
import Derived.Test.YtfdnlokpadbjnaaAx3
set_option linter.unusedVariables false
namespace Go.Proofs.Ytfdnlokpadbjnaa.Ax
open Go
set_option maxRecDepth 100000
/-! 3: laws.FnLists -/
noncomputable def S3 (C : Calling) (L : Body → Body) (t : Tm) (H : Hp) (n : Nat) : Option (Value × Hp × Nat) :=
  (C 9 [t 0] H (n + 3)).bind fun q1 =>
  csel q1.1
    (some (.bool true, q1.2.1, q1.2.2 + 1))
    ((C 10 [t 0] q1.2.1 (q1.2.2 + 8)).bind fun q2 =>
     (ext 0 q2.1).bind fun v3 =>
     (ext 1 q2.1).bind fun v4 =>
     let H5 := q2.2.1.set (q1.2.2 + 5) (some (.row [nilS] 0 true))
     (st true 1 (ptr (q1.2.2 + 5) 0) v3 H5).bind fun H6 =>
     (ld true 1 (ptr (q1.2.2 + 5) 0) H6).bind fun v7 =>
     (C 11 [v7, v4] H6 (q2.2.2 + 9)).bind fun q8 =>
     (ext 0 q8.1).bind fun v9 =>
     (ext 1 q8.1).bind fun v10 =>
     let H11 := q8.2.1.set (q2.2.2 + 6) (some (.row [nilS] 0 true))
     (st true 1 (ptr (q2.2.2 + 6) 0) v9 H11).bind fun H12 =>
     (ld true 1 (ptr (q1.2.2 + 5) 0) H12).bind fun v13 =>
     (C 12 [v13, v4] H12 (q8.2.2 + 9)).bind fun q14 =>
     (ext 0 q14.1).bind fun v15 =>
     (ext 1 q14.1).bind fun v16 =>
     let H17 := q14.2.1.set (q8.2.2 + 6) (some (.row [nilS] 0 true))
     (st true 1 (ptr (q8.2.2 + 6) 0) v15 H17).bind fun H18 =>
     (binK .plain .neq v10 v16).bind fun v19 =>
     csel v19
       (some (.bool false, H18, q14.2.2 + 4))
       ((binK .plain .lss v10 (.int .i64 0)).bind fun v20 =>
        csel v20
          ((fieldA 0 (ptr (q2.2.2 + 6) 0)).bind fun v21 =>
           (ld false 1 v21 H18).bind fun v22 =>
           (lenV false v22).bind fun v23 =>
           (fieldA 0 (ptr (q1.2.2 + 5) 0)).bind fun v24 =>
           (ld false 1 v24 H18).bind fun v25 =>
           (lenV false v25).bind fun v26 =>
           (binK .plain .eql v23 v26).bind fun v27 =>
           let t29 : Tm := put (put (put (put (put (put (put (put (put (put (put (put (put (put (put (put (put (put (put (put (put (put (put (put (put (put (put (put (put (put (put (put (put (put (put (put (put (put (put t 2 (.bool false)) 17 (t 0)) 18 q1.1) 20 (t 0)) 21 q2.1) 19 q2.1) 22 v3) 23 v4) 3 (ptr (q1.2.2 + 5) 0)) 4 v4) 25 v7) 26 v4) 27 q8.1) 24 q8.1) 28 v9) 29 v10) 5 (ptr (q2.2.2 + 6) 0)) 6 v10) 31 v13) 32 v4) 33 q14.1) 30 q14.1) 34 v15) 35 v16) 7 (ptr (q8.2.2 + 6) 0)) 8 v16) 36 v10) 37 v16) 38 v19) 39 v10) 40 v20) 41 v21) 42 v22) 43 v23) 44 v24) 45 v25) 46 v26) 47 v27) 48 v27
           (gsel v27 false
             ((fieldA 0 (ptr (q2.2.2 + 6) 0)).bind fun v30 =>
              (ld false 1 v30 H18).bind fun v31 =>
              (lenV false v31).bind fun v32 =>
              (binK .plain .eql v32 (.int .i64 0)).bind fun v33 =>
              some (put (put (put (put t29 49 v30) 50 v31) 51 v32) 52 v33, H18, q14.2.2 + 19))
             (some (put (put (put (put t29 49 (.tuple #[])) 50 (.tuple #[])) 51 (.tuple #[])) 52 (.tuple #[]), H18, q14.2.2 + 19))
           ).bind fun (q28 : R3) =>
           (pickV (q28.1 48) (.bool true) (q28.1 52)).bind fun v34 =>
           some (v34, q28.2.1, q28.2.2))
          ((ld true 1 (ptr (q2.2.2 + 6) 0) H18).bind fun v35 =>
           (C 13 [v35, v10] H18 (q14.2.2 + 13)).bind fun q36 =>
           (ext 0 q36.1).bind fun v37 =>
           (ext 1 q36.1).bind fun v38 =>
           (C 14 [t 0] q36.2.1 (q36.2.2 + 8)).bind fun q39 =>
           (ext 0 q39.1).bind fun v40 =>
           (ext 1 q39.1).bind fun v41 =>
           let H42 := q39.2.1.set (q36.2.2 + 5) (some (.row [nilS] 0 true))
           (st true 1 (ptr (q36.2.2 + 5) 0) v40 H42).bind fun H43 =>
           (ld true 1 (ptr (q36.2.2 + 5) 0) H43).bind fun v44 =>
           (C 13 [v44, v41] H43 (q39.2.2 + 8)).bind fun q45 =>
           (ext 0 q45.1).bind fun v46 =>
           (ext 1 q45.1).bind fun v47 =>
           (ld true 1 (ptr (q36.2.2 + 5) 0) q45.2.1).bind fun v48 =>
           (C 15 [v48, v41] q45.2.1 (q45.2.2 + 8)).bind fun q49 =>
           (ext 0 q49.1).bind fun v50 =>
           (ext 1 q49.1).bind fun v51 =>
           let t53 : Tm := put (put (put (put (put (put (put (put (put (put (put (put (put (put (put (put (put (put (put (put (put (put (put (put (put (put (put (put (put (put (put (put (put (put (put (put (put (put (put (put (put (put (put (put (put (put (put (put (put (put (put (put (put (put (put (put (put (put (put (put (put (put (put (put t 2 (.bool false)) 17 (t 0)) 18 q1.1) 20 (t 0)) 21 q2.1) 19 q2.1) 22 v3) 23 v4) 3 (ptr (q1.2.2 + 5) 0)) 4 v4) 25 v7) 26 v4) 27 q8.1) 24 q8.1) 28 v9) 29 v10) 5 (ptr (q2.2.2 + 6) 0)) 6 v10) 31 v13) 32 v4) 33 q14.1) 30 q14.1) 34 v15) 35 v16) 7 (ptr (q8.2.2 + 6) 0)) 8 v16) 36 v10) 37 v16) 38 v19) 39 v10) 40 v20) 55 v35) 56 v10) 57 q36.1) 54 q36.1) 58 v37) 59 v38) 9 v37) 10 v38) 61 (t 0)) 62 q39.1) 60 q39.1) 63 v40) 64 v41) 11 (ptr (q36.2.2 + 5) 0)) 12 v41) 66 v44) 67 v41) 68 q45.1) 65 q45.1) 69 v46) 70 v47) 13 v46) 14 v47) 72 v48) 73 v41) 74 q49.1) 71 q49.1) 75 v50) 76 v51) 15 v50) 16 v51) 77 v38) 78 v38
           (gsel v38 true
             ((C 16 [v37, v4] q49.2.1 (q49.2.2 + 17)).bind fun q54 =>
              some (put (put (put t53 79 v37) 80 v4) 81 q54.1, q54.2.1, q54.2.2))
             (some (put (put (put t53 79 (.tuple #[])) 80 (.tuple #[])) 81 (.tuple #[]), q49.2.1, q49.2.2 + 17))
           ).bind fun (q52 : R3) =>
           (pickV (q52.1 78) (q52.1 81) (.bool false)).bind fun v55 =>
           let t57 : Tm := put (put q52.1 82 v55) 83 v55
           (gsel v55 true
             ((binK .bool .eql (t57 14) (t57 16)).bind fun v58 =>
              some (put (put (put t57 84 (t57 14)) 85 (t57 16)) 86 v58, q52.2.1, q52.2.2))
             (some (put (put (put t57 84 (.tuple #[])) 85 (.tuple #[])) 86 (.tuple #[]), q52.2.1, q52.2.2))
           ).bind fun (q56 : R3) =>
           (pickV (q56.1 83) (q56.1 86) (.bool false)).bind fun v59 =>
           let t61 : Tm := put (put q56.1 87 v59) 88 v59
           (gsel v59 true
             ((C 16 [t61 13, t61 15] q56.2.1 (q56.2.2)).bind fun q62 =>
              some (put (put (put t61 89 (t61 13)) 90 (t61 15)) 91 q62.1, q62.2.1, q62.2.2))
             (some (put (put (put t61 89 (.tuple #[])) 90 (.tuple #[])) 91 (.tuple #[]), q56.2.1, q56.2.2))
           ).bind fun (q60 : R3) =>
           (pickV (q60.1 88) (q60.1 91) (.bool false)).bind fun v63 =>
           some (v63, q60.2.1, q60.2.2))))
theorem s3 (C : Calling) (L : Body → Body) (t : Tm) (H : Hp) (n : Nat) : bodyK Try.prog C L Try.f3 t H n = S3 C L t H n := by kernel_rfl
theorem c3 (args : List Value) (H : Hp) (n : Nat) : Call Try.prog 3 args H n = S3 (Call Try.prog) Loop (argsT args) H n := (Call_body Try.func3 args H n).trans (s3 ..)
/-! 4: laws.FnExactValuePack -/
noncomputable def S4 (C : Calling) (L : Body → Body) (t : Tm) (H : Hp) (n : Nat) : Option (Value × Hp × Nat) :=
  (vcells (t 0)).bind fun c2 =>
  let H1 := H.set (n) (some (.row c2 0 true))
  (ld true 1 (ptr (n) 0) H1).bind fun v3 =>
  (C 17 [v3, .int .i64 1048576] H1 (n + 7)).bind fun q4 =>
  (binK .plain .lss q4.1 (.int .i64 0)).bind fun v5 =>
  csel v5
    (some (.bool true, q4.2.1, q4.2.2 + 3))
    ((ld true 1 (ptr (n) 0) q4.2.1).bind fun v6 =>
     (C 19 [v6] q4.2.1 (q4.2.2 + 11)).bind fun q7 =>
     (C 18 [q7.1, t 1] q7.2.1 (q7.2.2)).bind fun q8 =>
     (ext 0 q8.1).bind fun v9 =>
     (ext 1 q8.1).bind fun v10 =>
     (ld true 1 (ptr (n) 0) q8.2.1).bind fun v11 =>
     (C 19 [v11] q8.2.1 (q8.2.2 + 4)).bind fun q12 =>
     let H13 := q12.2.1.set (q8.2.2 + 2) (some (.row [nilS] 0 true))
     (st true 1 (ptr (q8.2.2 + 2) 0) q12.1 H13).bind fun H14 =>
     (ld true 1 (ptr (q8.2.2 + 2) 0) H14).bind fun v15 =>
     (C 20 [v15, t 1] H14 (q12.2.2 + 8)).bind fun q16 =>
     (ext 0 q16.1).bind fun v17 =>
     (ext 1 q16.1).bind fun v18 =>
     (binK .plain .neq v17 v9).bind fun v19 =>
     let t21 : Tm := put (put (put (put (put (put (put (put (put (put (put (put (put (put (put (put (put (put (put (put (put (put (put (put (put (put (put (put (put (put (put (put (put t 2 (ptr (n) 0)) 4 (.bool false)) 5 (.int .i64 1048576)) 11 v3) 12 (.int .i64 1048576)) 13 q4.1) 5 q4.1) 14 q4.1) 15 v5) 17 v6) 18 q7.1) 19 (t 1)) 20 q8.1) 16 q8.1) 21 v9) 22 v10) 6 v9) 7 v10) 23 v11) 24 q12.1) 8 (ptr (q8.2.2 + 2) 0)) 26 v15) 27 (t 1)) 28 q16.1) 25 q16.1) 29 v17) 30 v18) 9 v17) 10 v18) 31 v17) 32 v9) 33 v19) 34 v19
     (gsel v19 false
       ((binK .bool .neq v18 v10).bind fun v22 =>
        some (put (put (put t21 35 v18) 36 v10) 37 v22, q16.2.1, q16.2.2 + 8))
       (some (put (put (put t21 35 (.tuple #[])) 36 (.tuple #[])) 37 (.tuple #[]), q16.2.1, q16.2.2 + 8))
     ).bind fun (q20 : R3) =>
     (pickV (q20.1 34) (.bool true) (q20.1 37)).bind fun v23 =>
     csel v23
       (some (.bool false, q20.2.1, q20.2.2 + 1))
       ((ld true 1 (q20.1 8) q20.2.1).bind fun v24 =>
        (ld true 1 (q20.1 2) q20.2.1).bind fun v25 =>
        (C 19 [v25] q20.2.1 (q20.2.2 + 5)).bind fun q26 =>
        ask (ld true 1 (q20.1 8) q26.2.1 = some v24) <|
        (C 21 [v24, q26.1] q26.2.1 (q26.2.2)).bind fun q27 =>
        (un .not q27.1).bind fun v28 =>
        csel v28
          (some (.bool false, q27.2.1, q27.2.2 + 1))
          (some (.bool true, q27.2.1, q27.2.2 + 1))))
theorem s4 (C : Calling) (L : Body → Body) (t : Tm) (H : Hp) (n : Nat) : bodyK Try.prog C L Try.f4 t H n = S4 C L t H n := by kernel_rfl
theorem c4 (args : List Value) (H : Hp) (n : Nat) : Call Try.prog 4 args H n = S4 (Call Try.prog) Loop (argsT args) H n := (Call_body Try.func4 args H n).trans (s4 ..)
/-! 5: laws.FnSame -/
noncomputable def S5 (C : Calling) (L : Body → Body) (t : Tm) (H : Hp) (n : Nat) : Option (Value × Hp × Nat) :=
  (C 9 [t 0] H (n + 3)).bind fun q1 =>
  csel q1.1
    (some (.bool true, q1.2.1, q1.2.2 + 1))
    ((C 22 [t 0] q1.2.1 (q1.2.2 + 10)).bind fun q2 =>
     (ext 0 q2.1).bind fun v3 =>
     (ext 1 q2.1).bind fun v4 =>
     (ext 2 q2.1).bind fun v5 =>
     let H6 := q2.2.1.set (q1.2.2 + 6) (some (.row [nilS] 0 true))
     (st true 1 (ptr (q1.2.2 + 6) 0) v3 H6).bind fun H7 =>
     (ld true 1 (ptr (q1.2.2 + 6) 0) H7).bind fun v8 =>
     (C 23 [v8, v4, v5] H7 (q2.2.2 + 5)).bind fun q9 =>
     (ld true 1 (ptr (q1.2.2 + 6) 0) q9.2.1).bind fun v10 =>
     (C 24 [v10, v4, v5] q9.2.1 (q9.2.2 + 14)).bind fun q11 =>
     (binK .bool .neq q9.1 q11.1).bind fun v12 =>
     let t14 : Tm := put (put (put (put (put (put (put (put (put (put (put (put (put (put (put (put (put (put (put (put (put (put (put (put t 2 (.bool false)) 7 (t 0)) 8 q1.1) 10 (t 0)) 11 q2.1) 9 q2.1) 12 v3) 13 v4) 14 v5) 3 (ptr (q1.2.2 + 6) 0)) 4 v4) 5 v5) 15 v8) 16 v4) 17 v5) 18 q9.1) 6 q9.1) 19 q9.1) 20 v10) 21 v4) 22 v5) 23 q11.1) 24 v12) 25 v12
     (gsel v12 false
       ((ld true 1 (ptr (q1.2.2 + 6) 0) q11.2.1).bind fun v15 =>
        (C 23 [v15, v5, v4] q11.2.1 (q11.2.2)).bind fun q16 =>
        (binK .bool .neq q9.1 q16.1).bind fun v17 =>
        some (put (put (put (put (put (put t14 26 q9.1) 27 v15) 28 v5) 29 v4) 30 q16.1) 31 v17, q16.2.1, q16.2.2))
       (some (put (put (put (put (put (put t14 26 (.tuple #[])) 27 (.tuple #[])) 28 (.tuple #[])) 29 (.tuple #[])) 30 (.tuple #[])) 31 (.tuple #[]), q11.2.1, q11.2.2))
     ).bind fun (q13 : R3) =>
     (pickV (q13.1 25) (.bool true) (q13.1 31)).bind fun v18 =>
     csel v18
       (some (.bool false, q13.2.1, q13.2.2 + 1))
       ((un .not (q13.1 6)).bind fun v19 =>
        csel v19
          (some (.bool true, q13.2.1, q13.2.2 + 3))
          ((ld true 1 (q13.1 3) q13.2.1).bind fun v20 =>
           (C 23 [v20, q13.1 4, q13.1 4] q13.2.1 (q13.2.2 + 25)).bind fun q21 =>
           let t23 : Tm := put (put (put (put (put (put (put (put q13.1 32 v18) 33 (q13.1 6)) 34 v19) 35 v20) 36 (q13.1 4)) 37 (q13.1 4)) 38 q21.1) 39 q21.1
           (gsel q21.1 true
             ((ld true 1 (t23 3) q21.2.1).bind fun v24 =>
              (C 25 [v24, t23 4] q21.2.1 (q21.2.2)).bind fun q25 =>
              (ld true 1 (t23 3) q25.2.1).bind fun v26 =>
              ask (ld true 1 (t23 3) q21.2.1 = some v26) <|
              (C 25 [v26, t23 5] q25.2.1 (q25.2.2)).bind fun q27 =>
              (binK .plain .eql q25.1 q27.1).bind fun v28 =>
              some ⟨put (put (put (put (put (put (put t23 40 v24) 41 (t23 4)) 42 q25.1) 43 v26) 44 (t23 5)) 45 q27.1) 46 v28, q27.2.1, q27.2.2, [⟨8, true, 1, t23 3, v26⟩, ⟨5, true, 1, t23 3, v24⟩, ⟨0, true, 1, q13.1 3, v20⟩], [(10, q25.2.1), (7, q21.2.1), (3, q13.2.1)]⟩)
             (some ⟨put (put (put (put (put (put (put t23 40 (.tuple #[])) 41 (.tuple #[])) 42 (.tuple #[])) 43 (.tuple #[])) 44 (.tuple #[])) 45 (.tuple #[])) 46 (.tuple #[]), q21.2.1, q21.2.2, [⟨0, true, 1, q13.1 3, v20⟩], [(3, q13.2.1)]⟩)
           ).bind fun (q22 : R5) =>
           (pickV (q22.t 39) (q22.t 46) (.bool false)).bind fun v29 =>
           let t31 : Tm := put (put q22.t 47 v29) 48 v29
           (gsel v29 true
             ((ld true 1 (t31 3) q22.H).bind fun v32 =>
              askB 16383 true 1 (t31 3) v32 q22.hs <|
              (C 26 [v32, t31 4] q22.H (q22.n)).bind fun q33 =>
              asks 65535 q33.2.1 q22.rs <|
              (ld true 1 (t31 3) q33.2.1).bind fun v34 =>
              ask (ld true 1 (t31 3) q22.H = some v34) <|
              askB 16383 true 1 (t31 3) v34 q22.hs <|
              (C 26 [v34, t31 5] q33.2.1 (q33.2.2)).bind fun q35 =>
              asks 524287 q35.2.1 q22.rs <|
              (binK .plain .eql q33.1 q35.1).bind fun v36 =>
              some ⟨put (put (put (put (put (put (put t31 49 v32) 50 (t31 4)) 51 q33.1) 52 v34) 53 (t31 5)) 54 q35.1) 55 v36, q35.2.1, q35.2.2, (⟨17, true, 1, t31 3, v34⟩ :: ⟨14, true, 1, t31 3, v32⟩ :: q22.rs), ((19, q33.2.1) :: (16, q22.H) :: q22.hs)⟩)
             (some ⟨put (put (put (put (put (put (put t31 49 (.tuple #[])) 50 (.tuple #[])) 51 (.tuple #[])) 52 (.tuple #[])) 53 (.tuple #[])) 54 (.tuple #[])) 55 (.tuple #[]), q22.H, q22.n, q22.rs, q22.hs⟩)
           ).bind fun (q30 : R5) =>
           (pickV (q30.t 48) (q30.t 55) (.bool false)).bind fun v37 =>
           some (v37, q30.H, q30.n))))
theorem s5 (C : Calling) (L : Body → Body) (t : Tm) (H : Hp) (n : Nat) : bodyK Try.prog C L Try.f5 t H n = S5 C L t H n := by kernel_rfl
theorem c5 (args : List Value) (H : Hp) (n : Nat) : Call Try.prog 5 args H n = S5 (Call Try.prog) Loop (argsT args) H n := (Call_body Try.func5 args H n).trans (s5 ..)
/-! 6: laws.FnExactCopy -/
noncomputable def S6 (C : Calling) (L : Body → Body) (t : Tm) (H : Hp) (n : Nat) : Option (Value × Hp × Nat) :=
  (vcells (t 0)).bind fun c2 =>
  let H1 := H.set (n) (some (.row c2 0 true))
  (vcells (t 1)).bind fun c4 =>
  let H3 := H1.set (n + 1) (some (.row c4 0 true))
  (ld true 1 (ptr (n) 0) H3).bind fun v5 =>
  (C 17 [v5, .int .i64 1048576] H3 (n + 8)).bind fun q6 =>
  (binK .plain .lss q6.1 (.int .i64 0)).bind fun v7 =>
  csel v7
    (some (.bool true, q6.2.1, q6.2.2 + 3))
    ((ld true 1 (ptr (n + 1) 0) q6.2.1).bind fun v8 =>
     (C 17 [v8, q6.1] q6.2.1 (q6.2.2 + 6)).bind fun q9 =>
     (binK .plain .lss q9.1 (.int .i64 0)).bind fun v10 =>
     csel v10
       (some (.bool true, q9.2.1, q9.2.2 + 3))
       ((ld true 1 (ptr (n) 0) q9.2.1).bind fun v11 =>
        (C 19 [v11] q9.2.1 (q9.2.2 + 14)).bind fun q12 =>
        (ld true 1 (ptr (n + 1) 0) q12.2.1).bind fun v13 =>
        ask (ld true 1 (ptr (n + 1) 0) q9.2.1 = some v13) <|
        (C 19 [v13] q12.2.1 (q12.2.2)).bind fun q14 =>
        (C 27 [q12.1, q14.1, t 2] q14.2.1 (q14.2.2)).bind fun q15 =>
        (ext 0 q15.1).bind fun v16 =>
        (ext 1 q15.1).bind fun v17 =>
        let H18 := q15.2.1.set (q9.2.2 + 11) (some (.row [nilS] 0 true))
        (st true 1 (ptr (q9.2.2 + 11) 0) v16 H18).bind fun H19 =>
        (ld true 1 (ptr (n) 0) H19).bind fun v20 =>
        (C 19 [v20] H19 (q15.2.2 + 4)).bind fun q21 =>
        let H22 := q21.2.1.set (q15.2.2 + 2) (some (.row [nilS] 0 true))
        (st true 1 (ptr (q15.2.2 + 2) 0) q21.1 H22).bind fun H23 =>
        (ld true 1 (ptr (n + 1) 0) H23).bind fun v24 =>
        (C 19 [v24] H23 (q21.2.2 + 4)).bind fun q25 =>
        let H26 := q25.2.1.set (q21.2.2 + 2) (some (.row [nilS] 0 true))
        (st true 1 (ptr (q21.2.2 + 2) 0) q25.1 H26).bind fun H27 =>
        (ld true 1 (ptr (q15.2.2 + 2) 0) H27).bind fun v28 =>
        (ld true 1 (ptr (q21.2.2 + 2) 0) H27).bind fun v29 =>
        (C 28 [v28, v29, t 2] H27 (q25.2.2 + 10)).bind fun q30 =>
        (ext 0 q30.1).bind fun v31 =>
        (ext 1 q30.1).bind fun v32 =>
        let H33 := q30.2.1.set (q25.2.2 + 7) (some (.row [nilS] 0 true))
        (st true 1 (ptr (q25.2.2 + 7) 0) v31 H33).bind fun H34 =>
        (ld true 1 (ptr (q25.2.2 + 7) 0) H34).bind fun v35 =>
        (ld true 1 (ptr (q9.2.2 + 11) 0) H34).bind fun v36 =>
        (C 21 [v35, v36] H34 (q30.2.2 + 9)).bind fun q37 =>
        (un .not q37.1).bind fun v38 =>
        let t40 : Tm := put (put (put (put (put (put (put (put (put (put (put (put (put (put (put (put (put (put (put (put (put (put (put (put (put (put (put (put (put (put (put (put (put (put (put (put (put (put (put (put (put (put (put (put (put (put (put t 3 (ptr (n) 0)) 4 (ptr (n + 1) 0)) 6 (.bool false)) 7 (.int .i64 1048576)) 19 v5) 20 (.int .i64 1048576)) 21 q6.1) 7 q6.1) 22 q6.1) 23 v7) 24 v8) 25 q6.1) 26 q9.1) 7 q9.1) 27 q9.1) 28 v10) 30 v11) 31 q12.1) 32 v13) 33 q14.1) 34 (t 2)) 35 q15.1) 29 q15.1) 36 v16) 37 v17) 8 (ptr (q9.2.2 + 11) 0)) 9 v17) 38 v20) 39 q21.1) 10 (ptr (q15.2.2 + 2) 0)) 40 v24) 41 q25.1) 11 (ptr (q21.2.2 + 2) 0)) 43 v28) 44 v29) 45 (t 2)) 46 q30.1) 42 q30.1) 47 v31) 48 v32) 12 (ptr (q25.2.2 + 7) 0)) 13 v32) 49 v35) 50 v36) 51 q37.1) 52 v38) 53 v38
        (gsel v38 false
          ((binK .plain .neq v32 v17).bind fun v41 =>
           some (put (put (put t40 54 v32) 55 v17) 56 v41, q37.2.1, q37.2.2))
          (some (put (put (put t40 54 (.tuple #[])) 55 (.tuple #[])) 56 (.tuple #[]), q37.2.1, q37.2.2))
        ).bind fun (q39 : R3) =>
        (pickV (q39.1 53) (.bool true) (q39.1 56)).bind fun v42 =>
        csel v42
          (some (.bool false, q39.2.1, q39.2.2 + 1))
          ((ld true 1 (q39.1 10) q39.2.1).bind fun v43 =>
           (ld true 1 (q39.1 3) q39.2.1).bind fun v44 =>
           (C 19 [v44] q39.2.1 (q39.2.2 + 5)).bind fun q45 =>
           ask (ld true 1 (q39.1 10) q45.2.1 = some v43) <|
           (C 21 [v43, q45.1] q45.2.1 (q45.2.2)).bind fun q46 =>
           (un .not q46.1).bind fun v47 =>
           csel v47
             (some (.bool false, q46.2.1, q46.2.2 + 1))
             ((ld true 1 (q39.1 11) q46.2.1).bind fun v48 =>
              (ld true 1 (q39.1 4) q46.2.1).bind fun v49 =>
              (C 19 [v49] q46.2.1 (q46.2.2 + 5)).bind fun q50 =>
              ask (ld true 1 (q39.1 11) q50.2.1 = some v48) <|
              (C 21 [v48, q50.1] q50.2.1 (q50.2.2)).bind fun q51 =>
              (un .not q51.1).bind fun v52 =>
              csel v52
                (some (.bool false, q51.2.1, q51.2.2 + 1))
                ((ld true 1 (q39.1 10) q51.2.1).bind fun v53 =>
                 (C 29 [v53, .int .i64 1] q51.2.1 (q51.2.2 + 5)).bind fun q54 =>
                 (ld true 1 (q39.1 11) q54.2.1).bind fun v55 =>
                 (C 29 [v55, q54.1] q54.2.1 (q54.2.2 + 4)).bind fun q56 =>
                 (binK .plain .lss q56.1 (.int .i64 0)).bind fun v57 =>
                 let t59 : Tm := put (put (put (put (put (put (put (put (put (put (put (put (put (put (put (put (put (put (put (put (put (put (put q39.1 57 v42) 58 v43) 59 v44) 60 q45.1) 61 q46.1) 62 v47) 63 v48) 64 v49) 65 q50.1) 66 q51.1) 67 v52) 14 (.int .i64 1)) 68 v53) 69 (.int .i64 1)) 70 q54.1) 14 q54.1) 71 v55) 72 q54.1) 73 q56.1) 14 q56.1) 74 q56.1) 75 v57) 76 v57
                 (gsel v57 false
                   ((ld true 1 (t59 12) q56.2.1).bind fun v60 =>
                    (ld true 1 (t59 8) q56.2.1).bind fun v61 =>
                    (C 21 [v60, v61] q56.2.1 (q56.2.2 + 13)).bind fun q62 =>
                    (un .not q62.1).bind fun v63 =>
                    some (put (put (put (put t59 77 v60) 78 v61) 79 q62.1) 80 v63, q62.2.1, q62.2.2))
                   (some (put (put (put (put t59 77 (.tuple #[])) 78 (.tuple #[])) 79 (.tuple #[])) 80 (.tuple #[]), q56.2.1, q56.2.2 + 13))
                 ).bind fun (q58 : R3) =>
                 (pickV (q58.1 76) (.bool true) (q58.1 80)).bind fun v64 =>
                 let t66 : Tm := put (put q58.1 81 v64) 82 v64
                 (gsel v64 false
                   ((binK .plain .neq (t66 13) (t66 9)).bind fun v67 =>
                    some (put (put (put t66 83 (t66 13)) 84 (t66 9)) 85 v67, q58.2.1, q58.2.2))
                   (some (put (put (put t66 83 (.tuple #[])) 84 (.tuple #[])) 85 (.tuple #[]), q58.2.1, q58.2.2))
                 ).bind fun (q65 : R3) =>
                 (pickV (q65.1 82) (.bool true) (q65.1 85)).bind fun v68 =>
                 csel v68
                   (some (.bool false, q65.2.1, q65.2.2 + 1))
                   ((ld true 1 (q65.1 12) q65.2.1).bind fun v69 =>
                    (C 29 [v69, .int .i64 1] q65.2.1 (q65.2.2 + 5)).bind fun q70 =>
                    (ld true 1 (q65.1 12) q70.2.1).bind fun v71 =>
                    (C 30 [v71, .int .i64 1] q70.2.1 (q70.2.2 + 5)).bind fun q72 =>
                    (binK .plain .lss q72.1 (.int .i64 0)).bind fun v73 =>
                    csel v73
                      (some (.bool false, q72.2.1, q72.2.2 + 3))
                      ((binK .plain .neq q72.1 q70.1).bind fun v74 =>
                       csel v74
                         (some (.bool false, q72.2.1, q72.2.2 + 6))
                         ((ld true 1 (q65.1 3) q72.2.1).bind fun v75 =>
                          (C 19 [v75] q72.2.1 (q72.2.2 + 17)).bind fun q76 =>
                          (ld true 1 (q65.1 4) q76.2.1).bind fun v77 =>
                          ask (ld true 1 (q65.1 4) q72.2.1 = some v77) <|
                          (C 19 [v77] q76.2.1 (q76.2.2)).bind fun q78 =>
                          (C 28 [q76.1, q78.1, q65.1 2] q78.2.1 (q78.2.2)).bind fun q79 =>
                          (ext 0 q79.1).bind fun v80 =>
                          (ext 1 q79.1).bind fun v81 =>
                          let H82 := q79.2.1.set (q72.2.2 + 14) (some (.row [nilS] 0 true))
                          (st true 1 (ptr (q72.2.2 + 14) 0) v80 H82).bind fun H83 =>
                          (ld true 1 (ptr (q72.2.2 + 14) 0) H83).bind fun v84 =>
                          (ld true 1 (q65.1 8) H83).bind fun v85 =>
                          (C 21 [v84, v85] H83 (q79.2.2 + 9)).bind fun q86 =>
                          (un .not q86.1).bind fun v87 =>
                          let t89 : Tm := put (put (put (put (put (put (put (put (put (put (put (put (put (put (put (put (put (put (put (put (put (put (put (put (put (put (put (put (put (put (put (put q65.1 86 v68) 15 (.int .i64 1)) 87 v69) 88 (.int .i64 1)) 89 q70.1) 15 q70.1) 16 (.int .i64 1)) 90 v71) 91 (.int .i64 1)) 92 q72.1) 16 q72.1) 93 q72.1) 94 v73) 95 q72.1) 96 q70.1) 97 v74) 99 v75) 100 q76.1) 101 v77) 102 q78.1) 103 (q65.1 2)) 104 q79.1) 98 q79.1) 105 v80) 106 v81) 17 (ptr (q72.2.2 + 14) 0)) 18 v81) 107 v84) 108 v85) 109 q86.1) 110 v87) 111 v87
                          (gsel v87 false
                            ((binK .plain .neq v81 (t89 9)).bind fun v90 =>
                             some (put (put (put t89 112 v81) 113 (t89 9)) 114 v90, q86.2.1, q86.2.2))
                            (some (put (put (put t89 112 (.tuple #[])) 113 (.tuple #[])) 114 (.tuple #[]), q86.2.1, q86.2.2))
                          ).bind fun (q88 : R3) =>
                          (pickV (q88.1 111) (.bool true) (q88.1 114)).bind fun v91 =>
                          csel v91
                            (some (.bool false, q88.2.1, q88.2.2 + 1))
                            ((ld true 1 (q88.1 12) q88.2.1).bind fun v92 =>
                             (C 30 [v92, .int .i64 1] q88.2.1 (q88.2.2 + 5)).bind fun q93 =>
                             (binK .plain .lss q93.1 (.int .i64 0)).bind fun v94 =>
                             csel v94
                               (some (.bool false, q93.2.1, q93.2.2 + 3))
                               ((binK .plain .neq q93.1 (q88.1 15)).bind fun v95 =>
                                csel v95
                                  (some (.bool false, q93.2.1, q93.2.2 + 6))
                                  (some (.bool true, q93.2.1, q93.2.2 + 6))))))))))))
theorem s6 (C : Calling) (L : Body → Body) (t : Tm) (H : Hp) (n : Nat) : bodyK Try.prog C L Try.f6 t H n = S6 C L t H n := by kernel_rfl
theorem c6 (args : List Value) (H : Hp) (n : Nat) : Call Try.prog 6 args H n = S6 (Call Try.prog) Loop (argsT args) H n := (Call_body Try.func6 args H n).trans (s6 ..)
/-! 7: laws.FnExactKeep -/
noncomputable def S7 (C : Calling) (L : Body → Body) (t : Tm) (H : Hp) (n : Nat) : Option (Value × Hp × Nat) :=
  (vcells (t 0)).bind fun c2 =>
  let H1 := H.set (n) (some (.row c2 0 true))
  (lenV false (t 1)).bind fun v3 =>
  (binK .plain .gtr v3 (.int .i64 1048576)).bind fun v4 =>
  csel v4
    (some (.bool true, H1, n + 6))
    ((ld true 1 (ptr (n) 0) H1).bind fun v5 =>
     (C 17 [v5, .int .i64 1048576] H1 (n + 10)).bind fun q6 =>
     (binK .plain .lss q6.1 (.int .i64 0)).bind fun v7 =>
     csel v7
       (some (.bool true, q6.2.1, q6.2.2 + 3))
       ((ld true 1 (ptr (n) 0) q6.2.1).bind fun v8 =>
        (C 19 [v8] q6.2.1 (q6.2.2 + 13)).bind fun q9 =>
        (C 32 [t 1] q9.2.1 (q9.2.2)).bind fun q10 =>
        (C 31 [q9.1, q10.1] q10.2.1 (q10.2.2)).bind fun q11 =>
        (ext 0 q11.1).bind fun v12 =>
        (ext 1 q11.1).bind fun v13 =>
        let H14 := q11.2.1.set (q6.2.2 + 10) (some (.row [nilS] 0 true))
        (st true 1 (ptr (q6.2.2 + 10) 0) v12 H14).bind fun H15 =>
        (ld true 1 (ptr (n) 0) H15).bind fun v16 =>
        (C 19 [v16] H15 (q11.2.2 + 4)).bind fun q17 =>
        let H18 := q17.2.1.set (q11.2.2 + 2) (some (.row [nilS] 0 true))
        (st true 1 (ptr (q11.2.2 + 2) 0) q17.1 H18).bind fun H19 =>
        (C 32 [t 1] H19 (q17.2.2 + 3)).bind fun q20 =>
        (ld true 1 (ptr (q11.2.2 + 2) 0) q20.2.1).bind fun v21 =>
        (C 33 [v21, q20.1] q20.2.1 (q20.2.2 + 9)).bind fun q22 =>
        (ext 0 q22.1).bind fun v23 =>
        (ext 1 q22.1).bind fun v24 =>
        let H25 := q22.2.1.set (q20.2.2 + 6) (some (.row [nilS] 0 true))
        (st true 1 (ptr (q20.2.2 + 6) 0) v23 H25).bind fun H26 =>
        (ld true 1 (ptr (q20.2.2 + 6) 0) H26).bind fun v27 =>
        (ld true 1 (ptr (q6.2.2 + 10) 0) H26).bind fun v28 =>
        (C 21 [v27, v28] H26 (q22.2.2 + 10)).bind fun q29 =>
        (un .not q29.1).bind fun v30 =>
        let t32 : Tm := put (put (put (put (put (put (put (put (put (put (put (put (put (put (put (put (put (put (put (put (put (put (put (put (put (put (put (put (put (put (put (put (put (put (put (put (put (put (put (put (put t 2 (ptr (n) 0)) 4 (.bool false)) 17 (t 1)) 18 v3) 19 v4) 5 (.int .i64 1048576)) 20 v5) 21 (.int .i64 1048576)) 22 q6.1) 5 q6.1) 23 q6.1) 24 v7) 26 v8) 27 q9.1) 28 (t 1)) 29 q10.1) 30 q11.1) 25 q11.1) 31 v12) 32 v13) 6 (ptr (q6.2.2 + 10) 0)) 7 v13) 33 v16) 34 q17.1) 8 (ptr (q11.2.2 + 2) 0)) 35 (t 1)) 36 q20.1) 9 q20.1) 38 v21) 39 q20.1) 40 q22.1) 37 q22.1) 41 v23) 42 v24) 10 (ptr (q20.2.2 + 6) 0)) 11 v24) 43 v27) 44 v28) 45 q29.1) 46 v30) 47 v30
        (gsel v30 false
          ((C 34 [v24, v13] q29.2.1 (q29.2.2)).bind fun q33 =>
           (un .not q33.1).bind fun v34 =>
           some (put (put (put (put t32 48 v24) 49 v13) 50 q33.1) 51 v34, q33.2.1, q33.2.2))
          (some (put (put (put (put t32 48 (.tuple #[])) 49 (.tuple #[])) 50 (.tuple #[])) 51 (.tuple #[]), q29.2.1, q29.2.2))
        ).bind fun (q31 : R3) =>
        (pickV (q31.1 47) (.bool true) (q31.1 51)).bind fun v35 =>
        csel v35
          (some (.bool false, q31.2.1, q31.2.2 + 1))
          ((ld true 1 (q31.1 8) q31.2.1).bind fun v36 =>
           (ld true 1 (q31.1 2) q31.2.1).bind fun v37 =>
           (C 19 [v37] q31.2.1 (q31.2.2 + 5)).bind fun q38 =>
           ask (ld true 1 (q31.1 8) q38.2.1 = some v36) <|
           (C 21 [v36, q38.1] q38.2.1 (q38.2.2)).bind fun q39 =>
           (un .not q39.1).bind fun v40 =>
           csel v40
             (some (.bool false, q39.2.1, q39.2.2 + 1))
             ((C 32 [q31.1 1] q39.2.1 (q39.2.2 + 5)).bind fun q41 =>
              (C 34 [q31.1 9, q41.1] q41.2.1 (q41.2.2)).bind fun q42 =>
              (un .not q42.1).bind fun v43 =>
              csel v43
                (some (.bool false, q42.2.1, q42.2.2 + 1))
                ((ld true 1 (q31.1 8) q42.2.1).bind fun v44 =>
                 (C 29 [v44, .int .i64 1] q42.2.1 (q42.2.2 + 5)).bind fun q45 =>
                 (C 35 [q31.1 9, q45.1] q45.2.1 (q45.2.2 + 4)).bind fun q46 =>
                 (binK .plain .lss q46.1 (.int .i64 0)).bind fun v47 =>
                 let t49 : Tm := put (put (put (put (put (put (put (put (put (put (put (put (put (put (put (put (put (put (put (put (put (put (put q31.1 52 v35) 53 v36) 54 v37) 55 q38.1) 56 q39.1) 57 v40) 58 (q31.1 9)) 59 (q31.1 1)) 60 q41.1) 61 q42.1) 62 v43) 12 (.int .i64 1)) 63 v44) 64 (.int .i64 1)) 65 q45.1) 12 q45.1) 66 (q31.1 9)) 67 q45.1) 68 q46.1) 12 q46.1) 69 q46.1) 70 v47) 71 v47
                 (gsel v47 false
                   ((ld true 1 (t49 10) q46.2.1).bind fun v50 =>
                    (ld true 1 (t49 6) q46.2.1).bind fun v51 =>
                    (C 21 [v50, v51] q46.2.1 (q46.2.2 + 14)).bind fun q52 =>
                    (un .not q52.1).bind fun v53 =>
                    some (put (put (put (put t49 72 v50) 73 v51) 74 q52.1) 75 v53, q52.2.1, q52.2.2))
                   (some (put (put (put (put t49 72 (.tuple #[])) 73 (.tuple #[])) 74 (.tuple #[])) 75 (.tuple #[]), q46.2.1, q46.2.2 + 14))
                 ).bind fun (q48 : R3) =>
                 (pickV (q48.1 71) (.bool true) (q48.1 75)).bind fun v54 =>
                 let t56 : Tm := put (put q48.1 76 v54) 77 v54
                 (gsel v54 false
                   ((C 34 [t56 11, t56 7] q48.2.1 (q48.2.2)).bind fun q57 =>
                    (un .not q57.1).bind fun v58 =>
                    some (put (put (put (put t56 78 (t56 11)) 79 (t56 7)) 80 q57.1) 81 v58, q57.2.1, q57.2.2))
                   (some (put (put (put (put t56 78 (.tuple #[])) 79 (.tuple #[])) 80 (.tuple #[])) 81 (.tuple #[]), q48.2.1, q48.2.2))
                 ).bind fun (q55 : R3) =>
                 (pickV (q55.1 77) (.bool true) (q55.1 81)).bind fun v59 =>
                 csel v59
                   (some (.bool false, q55.2.1, q55.2.2 + 1))
                   ((ld true 1 (q55.1 10) q55.2.1).bind fun v60 =>
                    (C 29 [v60, .int .i64 1] q55.2.1 (q55.2.2 + 5)).bind fun q61 =>
                    (C 35 [q55.1 11, q61.1] q61.2.1 (q61.2.2 + 4)).bind fun q62 =>
                    (ld true 1 (q55.1 10) q62.2.1).bind fun v63 =>
                    (C 30 [v63, .int .i64 1] q62.2.1 (q62.2.2 + 5)).bind fun q64 =>
                    (binK .plain .lss q64.1 (.int .i64 0)).bind fun v65 =>
                    csel v65
                      (some (.bool false, q64.2.1, q64.2.2 + 3))
                      ((C 36 [q55.1 11, q64.1] q64.2.1 (q64.2.2 + 6)).bind fun q66 =>
                       (binK .plain .lss q66.1 (.int .i64 0)).bind fun v67 =>
                       csel v67
                         (some (.bool false, q66.2.1, q66.2.2 + 3))
                         ((binK .plain .neq q66.1 q62.1).bind fun v68 =>
                          csel v68
                            (some (.bool false, q66.2.1, q66.2.2 + 6))
                            ((ld true 1 (q55.1 2) q66.2.1).bind fun v69 =>
                             (C 19 [v69] q66.2.1 (q66.2.2 + 16)).bind fun q70 =>
                             (C 32 [q55.1 1] q70.2.1 (q70.2.2)).bind fun q71 =>
                             (C 33 [q70.1, q71.1] q71.2.1 (q71.2.2)).bind fun q72 =>
                             (ext 0 q72.1).bind fun v73 =>
                             (ext 1 q72.1).bind fun v74 =>
                             let H75 := q72.2.1.set (q66.2.2 + 13) (some (.row [nilS] 0 true))
                             (st true 1 (ptr (q66.2.2 + 13) 0) v73 H75).bind fun H76 =>
                             (ld true 1 (ptr (q66.2.2 + 13) 0) H76).bind fun v77 =>
                             (ld true 1 (q55.1 6) H76).bind fun v78 =>
                             (C 21 [v77, v78] H76 (q72.2.2 + 10)).bind fun q79 =>
                             (un .not q79.1).bind fun v80 =>
                             let t82 : Tm := put (put (put (put (put (put (put (put (put (put (put (put (put (put (put (put (put (put (put (put (put (put (put (put (put (put (put (put (put (put (put (put (put (put (put (put (put (put (put (put (put q55.1 82 v59) 13 (.int .i64 1)) 83 v60) 84 (.int .i64 1)) 85 q61.1) 13 q61.1) 86 (q55.1 11)) 87 q61.1) 88 q62.1) 13 q62.1) 14 (.int .i64 1)) 89 v63) 90 (.int .i64 1)) 91 q64.1) 14 q64.1) 92 q64.1) 93 v65) 94 (q55.1 11)) 95 q64.1) 96 q66.1) 14 q66.1) 97 q66.1) 98 v67) 99 q66.1) 100 q62.1) 101 v68) 103 v69) 104 q70.1) 105 (q55.1 1)) 106 q71.1) 107 q72.1) 102 q72.1) 108 v73) 109 v74) 15 (ptr (q66.2.2 + 13) 0)) 16 v74) 110 v77) 111 v78) 112 q79.1) 113 v80) 114 v80
                             (gsel v80 false
                               ((C 34 [v74, t82 7] q79.2.1 (q79.2.2)).bind fun q83 =>
                                (un .not q83.1).bind fun v84 =>
                                some (put (put (put (put t82 115 v74) 116 (t82 7)) 117 q83.1) 118 v84, q83.2.1, q83.2.2))
                               (some (put (put (put (put t82 115 (.tuple #[])) 116 (.tuple #[])) 117 (.tuple #[])) 118 (.tuple #[]), q79.2.1, q79.2.2))
                             ).bind fun (q81 : R3) =>
                             (pickV (q81.1 114) (.bool true) (q81.1 118)).bind fun v85 =>
                             csel v85
                               (some (.bool false, q81.2.1, q81.2.2 + 1))
                               ((ld true 1 (q81.1 10) q81.2.1).bind fun v86 =>
                                (C 30 [v86, .int .i64 1] q81.2.1 (q81.2.2 + 5)).bind fun q87 =>
                                (binK .plain .lss q87.1 (.int .i64 0)).bind fun v88 =>
                                csel v88
                                  (some (.bool false, q87.2.1, q87.2.2 + 3))
                                  ((C 36 [q81.1 11, q87.1] q87.2.1 (q87.2.2 + 6)).bind fun q89 =>
                                   (binK .plain .lss q89.1 (.int .i64 0)).bind fun v90 =>
                                   csel v90
                                     (some (.bool false, q89.2.1, q89.2.2 + 3))
                                     ((binK .plain .neq q89.1 (q81.1 13)).bind fun v91 =>
                                      csel v91
                                        (some (.bool false, q89.2.1, q89.2.2 + 6))
                                        (some (.bool true, q89.2.1, q89.2.2 + 6))))))))))))))
theorem s7 (C : Calling) (L : Body → Body) (t : Tm) (H : Hp) (n : Nat) : bodyK Try.prog C L Try.f7 t H n = S7 C L t H n := by kernel_rfl
theorem c7 (args : List Value) (H : Hp) (n : Nat) : Call Try.prog 7 args H n = S7 (Call Try.prog) Loop (argsT args) H n := (Call_body Try.func7 args H n).trans (s7 ..)
/-! 8: laws.FnCopied -/
noncomputable def S8L0 (C : Calling) (L : Body → Body) : Body := fun t H n =>
  (fieldA 0 (t 3)).bind fun v41 =>
  (ld false 1 v41 H).bind fun v42 =>
  (lenV false v42).bind fun v43 =>
  (binK .plain .lss (t 10) v43).bind fun v44 =>
  csel v44
    ((fieldA 0 (t 6)).bind fun v45 =>
     (ld false 1 v45 H).bind fun v46 =>
     (idxA 5 v46 (t 10)).bind fun v47 =>
     (ld true 5 v47 H).bind fun v48 =>
     (fieldA 0 (t 3)).bind fun v49 =>
     (ld false 1 v49 H).bind fun v50 =>
     (idxA 5 v50 (t 10)).bind fun v51 =>
     (ld true 5 v51 H).bind fun v52 =>
     (binK (.agg [(0, (.int .i64)), (1, (.int .i64)), (2, .string), (3, (.int .i64)), (4, (.int .i64))]) .neq v48 v52).bind fun v53 =>
     csel v53
       (some ⟨.ret, put (put (put (put (put (put (put (put (put (put (put (put (put (put (put (put (put t 51 (t 10)) 52 v41) 53 v42) 54 v43) 55 v44) 58 v45) 59 v46) 60 (t 10)) 61 v47) 62 v48) 63 v49) 64 v50) 65 (t 10)) 66 v51) 67 v52) 68 v53) 2 (.bool false), H, n + 17⟩)
       ((binK .plain .add (t 10) (.int .i64 1)).bind fun v54 =>
        some ⟨.normal, put (put (put (put (put (put (put (put (put (put (put (put (put (put (put (put (put (put (put t 51 (t 10)) 52 v41) 53 v42) 54 v43) 55 v44) 58 v45) 59 v46) 60 (t 10)) 61 v47) 62 v48) 63 v49) 64 v50) 65 (t 10)) 66 v51) 67 v52) 68 v53) 56 (t 10)) 57 v54) 10 v54, H, n + 19⟩))
    (some ⟨(.exit 0), put (put (put (put (put t 51 (t 10)) 52 v41) 53 v42) 54 v43) 55 v44, H, n + 5⟩)
noncomputable def S8 (C : Calling) (L : Body → Body) (t : Tm) (H : Hp) (n : Nat) : Option (Value × Hp × Nat) :=
  (C 9 [t 0] H (n + 3)).bind fun q1 =>
  csel q1.1
    (some (.bool true, q1.2.1, q1.2.2 + 1))
    ((C 37 [t 0] q1.2.1 (q1.2.2 + 11)).bind fun q2 =>
     (ext 0 q2.1).bind fun v3 =>
     (ext 1 q2.1).bind fun v4 =>
     (ext 2 q2.1).bind fun v5 =>
     let H6 := q2.2.1.set (q1.2.2 + 6) (some (.row [nilS] 0 true))
     let H7 := H6.set (q1.2.2 + 7) (some (.row [nilS] 0 true))
     (st true 1 (ptr (q1.2.2 + 6) 0) v3 H7).bind fun H8 =>
     (st true 1 (ptr (q1.2.2 + 7) 0) v4 H8).bind fun H9 =>
     (ld true 1 (ptr (q1.2.2 + 6) 0) H9).bind fun v10 =>
     (ld true 1 (ptr (q1.2.2 + 7) 0) H9).bind fun v11 =>
     (C 28 [v10, v11, v5] H9 (q2.2.2 + 10)).bind fun q12 =>
     (ext 0 q12.1).bind fun v13 =>
     (ext 1 q12.1).bind fun v14 =>
     let H15 := q12.2.1.set (q2.2.2 + 7) (some (.row [nilS] 0 true))
     (st true 1 (ptr (q2.2.2 + 7) 0) v13 H15).bind fun H16 =>
     (ld true 1 (ptr (q1.2.2 + 6) 0) H16).bind fun v17 =>
     (ld true 1 (ptr (q1.2.2 + 7) 0) H16).bind fun v18 =>
     (C 27 [v17, v18, v5] H16 (q12.2.2 + 10)).bind fun q19 =>
     (ext 0 q19.1).bind fun v20 =>
     (ext 1 q19.1).bind fun v21 =>
     let H22 := q19.2.1.set (q12.2.2 + 7) (some (.row [nilS] 0 true))
     (st true 1 (ptr (q12.2.2 + 7) 0) v20 H22).bind fun H23 =>
     (binK .plain .neq v14 v21).bind fun v24 =>
     csel v24
       (some (.bool false, H23, q19.2.2 + 4))
       ((binK .plain .lss v14 (.int .i64 0)).bind fun v25 =>
        csel v25
          ((fieldA 0 (ptr (q2.2.2 + 7) 0)).bind fun v26 =>
           (ld false 1 v26 H23).bind fun v27 =>
           (lenV false v27).bind fun v28 =>
           (fieldA 0 (ptr (q1.2.2 + 6) 0)).bind fun v29 =>
           (ld false 1 v29 H23).bind fun v30 =>
           (lenV false v30).bind fun v31 =>
           (binK .plain .eql v28 v31).bind fun v32 =>
           let t34 : Tm := put (put (put (put (put (put (put (put (put (put (put (put (put (put (put (put (put (put (put (put (put (put (put (put (put (put (put (put (put (put (put (put (put (put (put (put (put (put (put (put (put (put (put t 2 (.bool false)) 11 (t 0)) 12 q1.1) 14 (t 0)) 15 q2.1) 13 q2.1) 16 v3) 17 v4) 18 v5) 3 (ptr (q1.2.2 + 6) 0)) 4 (ptr (q1.2.2 + 7) 0)) 5 v5) 20 v10) 21 v11) 22 v5) 23 q12.1) 19 q12.1) 24 v13) 25 v14) 6 (ptr (q2.2.2 + 7) 0)) 7 v14) 27 v17) 28 v18) 29 v5) 30 q19.1) 26 q19.1) 31 v20) 32 v21) 8 (ptr (q12.2.2 + 7) 0)) 9 v21) 33 v14) 34 v21) 35 v24) 36 v14) 37 v25) 38 v26) 39 v27) 40 v28) 41 v29) 42 v30) 43 v31) 44 v32) 45 v32
           (gsel v32 false
             ((fieldA 0 (ptr (q2.2.2 + 7) 0)).bind fun v35 =>
              (ld false 1 v35 H23).bind fun v36 =>
              (lenV false v36).bind fun v37 =>
              (binK .plain .eql v37 (.int .i64 0)).bind fun v38 =>
              some (put (put (put (put t34 46 v35) 47 v36) 48 v37) 49 v38, H23, q19.2.2 + 19))
             (some (put (put (put (put t34 46 (.tuple #[])) 47 (.tuple #[])) 48 (.tuple #[])) 49 (.tuple #[]), H23, q19.2.2 + 19))
           ).bind fun (q33 : R3) =>
           (pickV (q33.1 45) (.bool true) (q33.1 49)).bind fun v39 =>
           some (v39, q33.2.1, q33.2.2))
          ((L (S8L0 C L) (put (put (put (put (put (put (put (put (put (put (put (put (put (put (put (put (put (put (put (put (put (put (put (put (put (put (put (put (put (put (put (put (put (put (put (put t 2 (.bool false)) 11 (t 0)) 12 q1.1) 14 (t 0)) 15 q2.1) 13 q2.1) 16 v3) 17 v4) 18 v5) 3 (ptr (q1.2.2 + 6) 0)) 4 (ptr (q1.2.2 + 7) 0)) 5 v5) 20 v10) 21 v11) 22 v5) 23 q12.1) 19 q12.1) 24 v13) 25 v14) 6 (ptr (q2.2.2 + 7) 0)) 7 v14) 27 v17) 28 v18) 29 v5) 30 q19.1) 26 q19.1) 31 v20) 32 v21) 8 (ptr (q12.2.2 + 7) 0)) 9 v21) 33 v14) 34 v21) 35 v24) 36 v14) 37 v25) 10 (.int .i64 0)) H23 (q19.2.2 + 6)).bind fun (o40 : Out) =>
           let o55 := outOf 0 o40
           thenK o55
             ((ld true 1 (o55.t 6) o55.H).bind fun v56 =>
              (C 38 [v56] o55.H (o55.n + 21)).bind fun q57 =>
              let t59 : Tm := put (put (put o55.t 69 v56) 70 q57.1) 71 q57.1
              (gsel q57.1 true
                ((ld true 1 (t59 6) q57.2.1).bind fun v60 =>
                 (C 26 [v60, t59 7] q57.2.1 (q57.2.2)).bind fun q61 =>
                 (ld true 1 (t59 4) q61.2.1).bind fun v62 =>
                 ask (ld true 1 (t59 4) q57.2.1 = some v62) <|
                 (C 26 [v62, t59 5] q61.2.1 (q61.2.2)).bind fun q63 =>
                 (binK .plain .eql q61.1 q63.1).bind fun v64 =>
                 some ⟨put (put (put (put (put (put (put t59 72 v60) 73 (t59 7)) 74 q61.1) 75 v62) 76 (t59 5)) 77 q63.1) 78 v64, q63.2.1, q63.2.2, [⟨6, true, 1, t59 4, v62⟩, ⟨3, true, 1, t59 6, v60⟩, ⟨0, true, 1, o55.t 6, v56⟩], [(8, q61.2.1), (5, q57.2.1), (1, o55.H)]⟩)
                (some ⟨put (put (put (put (put (put (put t59 72 (.tuple #[])) 73 (.tuple #[])) 74 (.tuple #[])) 75 (.tuple #[])) 76 (.tuple #[])) 77 (.tuple #[])) 78 (.tuple #[]), q57.2.1, q57.2.2, [⟨0, true, 1, o55.t 6, v56⟩], [(1, o55.H)]⟩)
              ).bind fun (q58 : R5) =>
              (pickV (q58.t 71) (q58.t 78) (.bool false)).bind fun v65 =>
              let t67 : Tm := put (put q58.t 79 v65) 80 v65
              (gsel v65 true
                ((ld true 1 (t67 6) q58.H).bind fun v68 =>
                 askB 4095 true 1 (t67 6) v68 q58.hs <|
                 (C 25 [v68, t67 7] q58.H (q58.n)).bind fun q69 =>
                 asks 16383 q69.2.1 q58.rs <|
                 (ld true 1 (t67 4) q69.2.1).bind fun v70 =>
                 ask (ld true 1 (t67 4) q58.H = some v70) <|
                 askB 4095 true 1 (t67 4) v70 q58.hs <|
                 (C 25 [v70, t67 5] q69.2.1 (q69.2.2)).bind fun q71 =>
                 asks 131071 q71.2.1 q58.rs <|
                 (binK .plain .eql q69.1 q71.1).bind fun v72 =>
                 some ⟨put (put (put (put (put (put (put t67 81 v68) 82 (t67 7)) 83 q69.1) 84 v70) 85 (t67 5)) 86 q71.1) 87 v72, q71.2.1, q71.2.2, (⟨15, true, 1, t67 4, v70⟩ :: ⟨12, true, 1, t67 6, v68⟩ :: q58.rs), ((17, q69.2.1) :: (14, q58.H) :: q58.hs)⟩)
                (some ⟨put (put (put (put (put (put (put t67 81 (.tuple #[])) 82 (.tuple #[])) 83 (.tuple #[])) 84 (.tuple #[])) 85 (.tuple #[])) 86 (.tuple #[])) 87 (.tuple #[]), q58.H, q58.n, q58.rs, q58.hs⟩)
              ).bind fun (q66 : R5) =>
              (pickV (q66.t 80) (q66.t 87) (.bool false)).bind fun v73 =>
              some (v73, q66.H, q66.n))
             (finE o55.e
                (some (o55.t 2, o55.H, o55.n))))))
theorem s8 (C : Calling) (L : Body → Body) (t : Tm) (H : Hp) (n : Nat) : bodyK Try.prog C L Try.f8 t H n = S8 C L t H n := by kernel_rfl
theorem c8 (args : List Value) (H : Hp) (n : Nat) : Call Try.prog 8 args H n = S8 (Call Try.prog) Loop (argsT args) H n := (Call_body Try.func8 args H n).trans (s8 ..)
/-! 9: laws.big -/
noncomputable def S9 (C : Calling) (L : Body → Body) (t : Tm) (H : Hp) (n : Nat) : Option (Value × Hp × Nat) :=
  (lenV false (t 0)).bind fun v1 =>
  (binK .plain .gtr v1 (.int .i64 1048576)).bind fun v2 =>
  some (v2, H, n + 5)
theorem s9 (C : Calling) (L : Body → Body) (t : Tm) (H : Hp) (n : Nat) : bodyK Try.prog C L Try.f9 t H n = S9 C L t H n := by kernel_rfl
theorem c9 (args : List Value) (H : Hp) (n : Nat) : Call Try.prog 9 args H n = S9 (Call Try.prog) Loop (argsT args) H n := (Call_body Try.func9 args H n).trans (s9 ..)
/-! 10: spec.DrawMakeList -/
noncomputable def S10L0 (C : Calling) (L : Body → Body) : Body := fun t H n =>
  (C 41 [t 4, .int .i64 6] H (n + 4)).bind fun q8 =>
  (binK .plain .lss (t 7) q8.1).bind fun v9 =>
  csel v9
    ((ld true 1 (t 5) q8.2.1).bind fun v10 =>
     (C 42 [t 4, v10] q8.2.1 (q8.2.2 + 7)).bind fun q11 =>
     (bsl (q8.2.2 + 4) 1 1 [.int .i64 0] [(0, 1, q11.1)] q11.2.1).bind fun p12 =>
     (app (q8.2.2 + 5) 1 8 (t 6) p12.1 p12.2).bind fun p13 =>
     (binK .plain .add (t 7) (.int .i64 1)).bind fun v14 =>
     some ⟨.normal, put (put (put (put (put (put (put (put (put (put (put (put (put (put t 13 (t 7)) 14 (t 4)) 15 q8.1) 16 v9) 19 (t 6)) 20 (t 4)) 21 v10) 22 q11.1) 23 p12.1) 24 p13.1) 6 p13.1) 17 (t 7)) 18 v14) 7 v14, p13.2, q11.2.2 + 3⟩)
    (some ⟨(.exit 0), put (put (put (put t 13 (t 7)) 14 (t 4)) 15 q8.1) 16 v9, q8.2.1, q8.2.2⟩)
noncomputable def S10 (C : Calling) (L : Body → Body) (t : Tm) (H : Hp) (n : Nat) : Option (Value × Hp × Nat) :=
  let H1 := H.set (n) (some (.row [nilS] 0 true))
  (C 39 [t 0] H1 (n + 5)).bind fun q2 =>
  (C 40 [q2.1] q2.2.1 (q2.2.2 + 4)).bind fun q3 =>
  let H4 := q3.2.1.set (q2.2.2 + 2) (some (.row [nilS] 0 true))
  (st true 1 (ptr (q2.2.2 + 2) 0) q3.1 H4).bind fun H5 =>
  (bsl (q3.2.2) 1 0 [.int .i64 0] [] H5).bind fun p6 =>
  (L (S10L0 C L) (put (put (put (put (put (put (put (put (put (put (put t 2 (ptr (n) 0)) 3 nilS) 8 (t 0)) 9 q2.1) 4 q2.1) 10 q2.1) 11 q3.1) 5 (ptr (q2.2.2 + 2) 0)) 12 p6.1) 6 p6.1) 7 (.int .i64 0)) p6.2 (q3.2.2 + 3)).bind fun (o7 : Out) =>
  (ld true 1 (o7.t 5) o7.H).bind fun v15 =>
  (st true 1 (o7.t 2) v15 o7.H).bind fun H16 =>
  (ld true 1 (o7.t 2) H16).bind fun v17 =>
  iteK ([v17, o7.t 6].all notTup) <|
  some (.tuple ⟨[v17, o7.t 6]⟩, H16, o7.n + 4)
theorem s10 (C : Calling) (L : Body → Body) (t : Tm) (H : Hp) (n : Nat) : bodyK Try.prog C L Try.f10 t H n = S10 C L t H n := by kernel_rfl
theorem c10 (args : List Value) (H : Hp) (n : Nat) : Call Try.prog 10 args H n = S10 (Call Try.prog) Loop (argsT args) H n := (Call_body Try.func10 args H n).trans (s10 ..)
/-! 11: impl.MakeList -/
noncomputable def S11 (C : Calling) (L : Body → Body) (t : Tm) (H : Hp) (n : Nat) : Option (Value × Hp × Nat) :=
  (vcells (t 0)).bind fun c2 =>
  let H1 := H.set (n) (some (.row c2 0 true))
  let H3 := H1.set (n + 1) (some (.row [nilS] 0 true))
  (ld true 1 (ptr (n) 0) H3).bind fun v4 =>
  (C 38 [v4] H3 (n + 6)).bind fun q5 =>
  (un .not q5.1).bind fun v6 =>
  csel v6
    ((bld [nilS] []).bind fun v7 =>
     (st true 1 (ptr (n + 1) 0) v7 q5.2.1).bind fun H8 =>
     (ld true 1 (ptr (n + 1) 0) H8).bind fun v9 =>
     iteK ([v9, .int .i64 (-1)].all notTup) <|
     some (.tuple ⟨[v9, .int .i64 (-1)]⟩, H8, q5.2.2 + 3))
    ((ld true 1 (ptr (n) 0) q5.2.1).bind fun v10 =>
     (C 43 [v10] q5.2.1 (q5.2.2 + 4)).bind fun q11 =>
     let H12 := q11.2.1.set (q5.2.2 + 2) (some (.row [nilS] 0 true))
     (st true 1 (ptr (q5.2.2 + 2) 0) q11.1 H12).bind fun H13 =>
     (lenV false (t 1)).bind fun v14 =>
     (binK .plain .gtr v14 (.int .i64 3000)).bind fun v15 =>
     let t17 : Tm := put (put (put (put (put (put (put (put (put (put (put (put (put t 2 (ptr (n) 0)) 4 (ptr (n + 1) 0)) 5 (.int .i64 0)) 8 v4) 9 q5.1) 10 v6) 12 v10) 13 q11.1) 6 (ptr (q5.2.2 + 2) 0)) 14 (t 1)) 15 v14) 16 v15) 17 v15
     (gsel v15 false
       (iteK ([ptr (n) 0].all ptrV) <|
        (C 44 [t17 1, .func (.func 45) #[] ⟨[ptr (n) 0]⟩] H13 (q11.2.2 + 8)).bind fun q18 =>
        some (put (put (put t17 18 (t17 1)) 19 (.func (.func 45) #[] ⟨[ptr (n) 0]⟩)) 20 q18.1, q18.2.1, q18.2.2))
       (some (put (put (put t17 18 (.tuple #[])) 19 (.tuple #[])) 20 (.tuple #[]), H13, q11.2.2 + 8))
     ).bind fun (q16 : R3) =>
     (pickV (q16.1 17) (.bool true) (q16.1 20)).bind fun v19 =>
     csel v19
       ((ld true 1 (q16.1 6) q16.2.1).bind fun v20 =>
        (st true 1 (q16.1 4) v20 q16.2.1).bind fun H21 =>
        (ld true 1 (q16.1 4) H21).bind fun v22 =>
        iteK ([v22, .int .i64 (-1)].all notTup) <|
        some (.tuple ⟨[v22, .int .i64 (-1)]⟩, H21, q16.2.2 + 3))
       ((C 47 [q16.1 6, q16.1 1] q16.2.1 (q16.2.2 + 3)).bind fun q23 =>
        (ld true 1 (q16.1 2) q23.2.1).bind fun v24 =>
        (ld true 1 (q16.1 6) q23.2.1).bind fun v25 =>
        (C 48 [v24, v25, q23.1] q23.2.1 (q23.2.2 + 8)).bind fun q26 =>
        (ext 0 q26.1).bind fun v27 =>
        (ext 1 q26.1).bind fun v28 =>
        (st true 1 (q16.1 4) v27 q26.2.1).bind fun H29 =>
        (ld true 1 (q16.1 4) H29).bind fun v30 =>
        iteK ([v30, v28].all notTup) <|
        some (.tuple ⟨[v30, v28]⟩, H29, q26.2.2)))
theorem s11 (C : Calling) (L : Body → Body) (t : Tm) (H : Hp) (n : Nat) : bodyK Try.prog C L Try.f11 t H n = S11 C L t H n := by kernel_rfl
theorem c11 (args : List Value) (H : Hp) (n : Nat) : Call Try.prog 11 args H n = S11 (Call Try.prog) Loop (argsT args) H n := (Call_body Try.func11 args H n).trans (s11 ..)
/-! 12: spec.MakeList -/
noncomputable def S12L0 (C : Calling) (L : Body → Body) : Body := fun t H n =>
  (lenV false (t 1)).bind fun v11 =>
  (binK .plain .lss (t 6) v11).bind fun v12 =>
  csel v12
    ((ld true 1 (t 2) H).bind fun v13 =>
     (idxA 1 (t 1) (t 6)).bind fun v14 =>
     (ld false 1 v14 H).bind fun v15 =>
     (C 50 [v13, v15] H (n + 11)).bind fun q16 =>
     (un .not q16.1).bind fun v17 =>
     csel v17
       ((ld true 1 (t 2) q16.2.1).bind fun v18 =>
        (C 51 [v18] q16.2.1 (q16.2.2 + 4)).bind fun q19 =>
        (st true 1 (t 4) q19.1 q19.2.1).bind fun H20 =>
        some ⟨.ret, put (put (put (put (put (put (put (put (put (put (put (put (put (put t 13 (t 6)) 14 (t 1)) 15 v11) 16 v12) 19 v13) 20 (t 1)) 21 (t 6)) 22 v14) 23 v15) 24 q16.1) 25 v17) 26 v18) 27 q19.1) 5 (.int .i64 (-1)), H20, q19.2.2⟩)
       ((binK .plain .add (t 6) (.int .i64 1)).bind fun v21 =>
        some ⟨.normal, put (put (put (put (put (put (put (put (put (put (put (put (put (put t 13 (t 6)) 14 (t 1)) 15 v11) 16 v12) 19 v13) 20 (t 1)) 21 (t 6)) 22 v14) 23 v15) 24 q16.1) 25 v17) 17 (t 6)) 18 v21) 6 v21, q16.2.1, q16.2.2 + 3⟩))
    (some ⟨(.exit 0), put (put (put (put t 13 (t 6)) 14 (t 1)) 15 v11) 16 v12, H, n + 4⟩)
noncomputable def S12 (C : Calling) (L : Body → Body) (t : Tm) (H : Hp) (n : Nat) : Option (Value × Hp × Nat) :=
  (vcells (t 0)).bind fun c2 =>
  let H1 := H.set (n) (some (.row c2 0 true))
  let H3 := H1.set (n + 1) (some (.row [nilS] 0 true))
  (ld true 1 (ptr (n) 0) H3).bind fun v4 =>
  (C 49 [v4] H3 (n + 6)).bind fun q5 =>
  (un .not q5.1).bind fun v6 =>
  csel v6
    ((bld [nilS] []).bind fun v7 =>
     (st true 1 (ptr (n + 1) 0) v7 q5.2.1).bind fun H8 =>
     (ld true 1 (ptr (n + 1) 0) H8).bind fun v9 =>
     iteK ([v9, .int .i64 (-1)].all notTup) <|
     some (.tuple ⟨[v9, .int .i64 (-1)]⟩, H8, q5.2.2 + 3))
    ((L (S12L0 C L) (put (put (put (put (put (put (put t 2 (ptr (n) 0)) 4 (ptr (n + 1) 0)) 5 (.int .i64 0)) 9 v4) 10 q5.1) 11 v6) 6 (.int .i64 0)) q5.2.1 (q5.2.2 + 1)).bind fun (o10 : Out) =>
     let o22 := outOf 0 o10
     thenK o22
       ((fieldA 0 (o22.t 2)).bind fun v23 =>
        (ld false 1 v23 o22.H).bind fun v24 =>
        (lenV false v24).bind fun v25 =>
        (binK .plain .add v25 (.int .i64 1)).bind fun v26 =>
        (lenV false (o22.t 1)).bind fun v27 =>
        (binK .plain .add v26 v27).bind fun v28 =>
        (binK .plain .gtr v28 (.int .i64 3000)).bind fun v29 =>
        csel v29
          ((ld true 1 (o22.t 2) o22.H).bind fun v30 =>
           (C 51 [v30] o22.H (o22.n + 12)).bind fun q31 =>
           (st true 1 (o22.t 4) q31.1 q31.2.1).bind fun H32 =>
           (ld true 1 (o22.t 4) H32).bind fun v33 =>
           iteK ([v33, .int .i64 (-1)].all notTup) <|
           some (.tuple ⟨[v33, .int .i64 (-1)]⟩, H32, q31.2.2))
          ((ld true 1 (o22.t 2) o22.H).bind fun v34 =>
           (C 51 [v34] o22.H (o22.n + 12)).bind fun q35 =>
           let H36 := q35.2.1.set (o22.n + 10) (some (.row [nilS] 0 true))
           (st true 1 (ptr (o22.n + 10) 0) q35.1 H36).bind fun H37 =>
           (C 52 [ptr (o22.n + 10) 0, o22.t 1] H37 (q35.2.2 + 3)).bind fun q38 =>
           (ld true 1 (ptr (o22.n + 10) 0) q38.2.1).bind fun v39 =>
           (st true 1 (o22.t 4) v39 q38.2.1).bind fun H40 =>
           (ld true 1 (o22.t 4) H40).bind fun v41 =>
           iteK ([v41, q38.1].all notTup) <|
           some (.tuple ⟨[v41, q38.1]⟩, H40, q38.2.2 + 4)))
       (finE o22.e
          ((ld true 1 (o22.t 4) o22.H).bind fun v42 =>
           iteK ([v42, o22.t 5].all notTup) <|
           some (.tuple ⟨[v42, o22.t 5]⟩, o22.H, o22.n))))
theorem s12 (C : Calling) (L : Body → Body) (t : Tm) (H : Hp) (n : Nat) : bodyK Try.prog C L Try.f12 t H n = S12 C L t H n := by kernel_rfl
theorem c12 (args : List Value) (H : Hp) (n : Nat) : Call Try.prog 12 args H n = S12 (Call Try.prog) Loop (argsT args) H n := (Call_body Try.func12 args H n).trans (s12 ..)
/-! 13: impl.ListOf -/
noncomputable def S13 (C : Calling) (L : Body → Body) (t : Tm) (H : Hp) (n : Nat) : Option (Value × Hp × Nat) :=
  (vcells (t 0)).bind fun c2 =>
  let H1 := H.set (n) (some (.row c2 0 true))
  (ld true 1 (ptr (n) 0) H1).bind fun v3 =>
  (C 38 [v3] H1 (n + 12)).bind fun q4 =>
  (un .not q4.1).bind fun v5 =>
  let t7 : Tm := put (put (put (put (put (put (put t 2 (ptr (n) 0)) 4 nilS) 5 (.bool false)) 8 v3) 9 q4.1) 10 v5) 11 v5
  (gsel v5 false
    ((ld true 1 (ptr (n) 0) q4.2.1).bind fun v8 =>
     (C 46 [v8, t7 1] q4.2.1 (q4.2.2)).bind fun q9 =>
     (un .not q9.1).bind fun v10 =>
     some (put (put (put (put t7 12 v8) 13 (t7 1)) 14 q9.1) 15 v10, q9.2.1, q9.2.2))
    (some (put (put (put (put t7 12 (.tuple #[])) 13 (.tuple #[])) 14 (.tuple #[])) 15 (.tuple #[]), q4.2.1, q4.2.2))
  ).bind fun (q6 : R3) =>
  (pickV (q6.1 11) (.bool true) (q6.1 15)).bind fun v11 =>
  csel v11
    (iteK ([nilS, .bool false].all notTup) <|
     some (.tuple ⟨[nilS, .bool false]⟩, q6.2.1, q6.2.2 + 2))
    ((C 53 [q6.1 2, q6.1 1] q6.2.1 (q6.2.2 + 7)).bind fun q12 =>
     (ext 0 q12.1).bind fun v13 =>
     (ext 1 q12.1).bind fun v14 =>
     (un .not v14).bind fun v15 =>
     csel v15
       (iteK ([nilS, .bool false].all notTup) <|
        some (.tuple ⟨[nilS, .bool false]⟩, q12.2.1, q12.2.2 + 4))
       (iteK ([v13, .bool true].all notTup) <|
        some (.tuple ⟨[v13, .bool true]⟩, q12.2.1, q12.2.2 + 5)))
theorem s13 (C : Calling) (L : Body → Body) (t : Tm) (H : Hp) (n : Nat) : bodyK Try.prog C L Try.f13 t H n = S13 C L t H n := by kernel_rfl
theorem c13 (args : List Value) (H : Hp) (n : Nat) : Call Try.prog 13 args H n = S13 (Call Try.prog) Loop (argsT args) H n := (Call_body Try.func13 args H n).trans (s13 ..)
/-! 14: spec.DrawListOf -/
noncomputable def S14L0 (C : Calling) (L : Body → Body) : Body := fun t H n =>
  (C 41 [t 4, .int .i64 5] H (n + 4)).bind fun q29 =>
  (binK .plain .lss (t 7) q29.1).bind fun v30 =>
  csel v30
    ((fieldA 0 (t 5)).bind fun v31 =>
     (ld false 1 v31 q29.2.1).bind fun v32 =>
     (lenV false v32).bind fun v33 =>
     (C 41 [t 4, v33] q29.2.1 (q29.2.2 + 9)).bind fun q34 =>
     (bsl (q29.2.2 + 6) 1 1 [.int .i64 0] [(0, 1, q34.1)] q34.2.1).bind fun p35 =>
     (app (q29.2.2 + 7) 1 8 (t 6) p35.1 p35.2).bind fun p36 =>
     (binK .plain .add (t 7) (.int .i64 1)).bind fun v37 =>
     some ⟨.normal, put (put (put (put (put (put (put (put (put (put (put (put (put (put (put (put t 33 (t 7)) 34 (t 4)) 35 q29.1) 36 v30) 39 (t 6)) 40 (t 4)) 41 v31) 42 v32) 43 v33) 44 q34.1) 45 p35.1) 46 p36.1) 6 p36.1) 37 (t 7)) 38 v37) 7 v37, p36.2, q34.2.2 + 3⟩)
    (some ⟨(.exit 0), put (put (put (put t 33 (t 7)) 34 (t 4)) 35 q29.1) 36 v30, q29.2.1, q29.2.2⟩)
noncomputable def S14 (C : Calling) (L : Body → Body) (t : Tm) (H : Hp) (n : Nat) : Option (Value × Hp × Nat) :=
  let H1 := H.set (n) (some (.row [nilS] 0 true))
  (C 39 [t 0] H1 (n + 5)).bind fun q2 =>
  (C 40 [q2.1] q2.2.1 (q2.2.2 + 4)).bind fun q3 =>
  let H4 := q3.2.1.set (q2.2.2 + 2) (some (.row [nilS] 0 true))
  (st true 1 (ptr (q2.2.2 + 2) 0) q3.1 H4).bind fun H5 =>
  (ld true 1 (ptr (q2.2.2 + 2) 0) H5).bind fun v6 =>
  (C 49 [v6] H5 (q3.2.2 + 19)).bind fun q7 =>
  let t9 : Tm := put (put (put (put (put (put (put (put (put (put (put t 2 (ptr (n) 0)) 3 (.int .i64 0)) 9 (t 0)) 10 q2.1) 4 q2.1) 11 q2.1) 12 q3.1) 5 (ptr (q2.2.2 + 2) 0)) 13 v6) 14 q7.1) 15 q7.1
  (gsel q7.1 true
    ((fieldA 0 (ptr (q2.2.2 + 2) 0)).bind fun v10 =>
     (ld false 1 v10 q7.2.1).bind fun v11 =>
     (lenV false v11).bind fun v12 =>
     (binK .plain .gtr v12 (.int .i64 0)).bind fun v13 =>
     some (put (put (put (put t9 16 v10) 17 v11) 18 v12) 19 v13, q7.2.1, q7.2.2))
    (some (put (put (put (put t9 16 (.tuple #[])) 17 (.tuple #[])) 18 (.tuple #[])) 19 (.tuple #[]), q7.2.1, q7.2.2))
  ).bind fun (q8 : R3) =>
  (pickV (q8.1 15) (q8.1 19) (.bool false)).bind fun v14 =>
  let t16 : Tm := put (put q8.1 20 v14) 21 v14
  (gsel v14 true
    ((fieldA 0 (t16 5)).bind fun v17 =>
     (ld false 1 v17 q8.2.1).bind fun v18 =>
     (lenV false v18).bind fun v19 =>
     (binK .plain .lss v19 (.int .i64 40)).bind fun v20 =>
     some (put (put (put (put t16 22 v17) 23 v18) 24 v19) 25 v20, q8.2.1, q8.2.2))
    (some (put (put (put (put t16 22 (.tuple #[])) 23 (.tuple #[])) 24 (.tuple #[])) 25 (.tuple #[]), q8.2.1, q8.2.2))
  ).bind fun (q15 : R3) =>
  (pickV (q15.1 21) (q15.1 25) (.bool false)).bind fun v21 =>
  let t23 : Tm := put (put q15.1 26 v21) 27 v21
  (gsel v21 true
    ((C 54 [t23 4, .int .i64 3] q15.2.1 (q15.2.2)).bind fun q24 =>
     (un .not q24.1).bind fun v25 =>
     some (put (put (put t23 28 (t23 4)) 29 q24.1) 30 v25, q24.2.1, q24.2.2))
    (some (put (put (put t23 28 (.tuple #[])) 29 (.tuple #[])) 30 (.tuple #[]), q15.2.1, q15.2.2))
  ).bind fun (q22 : R3) =>
  (pickV (q22.1 27) (q22.1 30) (.bool false)).bind fun v26 =>
  csel v26
    ((bsl (q22.2.2) 1 0 [.int .i64 0] [] q22.2.1).bind fun p27 =>
     (L (S14L0 C L) (put (put (put (put q22.1 31 v26) 32 p27.1) 6 p27.1) 7 (.int .i64 0)) p27.2 (q22.2.2 + 3)).bind fun (o28 : Out) =>
     (C 52 [o28.t 5, o28.t 6] o28.H (o28.n + 3)).bind fun q38 =>
     (ld true 1 (o28.t 5) q38.2.1).bind fun v39 =>
     (st true 1 (o28.t 2) v39 q38.2.1).bind fun H40 =>
     (ld true 1 (o28.t 2) H40).bind fun v41 =>
     iteK ([v41, q38.1].all notTup) <|
     some (.tuple ⟨[v41, q38.1]⟩, H40, q38.2.2 + 4))
    ((ld true 1 (q22.1 5) q22.2.1).bind fun v42 =>
     (ld true 1 (q22.1 5) q22.2.1).bind fun v43 =>
     (C 42 [q22.1 4, v43] q22.2.1 (q22.2.2 + 6)).bind fun q44 =>
     ask (ld true 1 (q22.1 5) q44.2.1 = some v42) <|
     (st true 1 (q22.1 2) v42 q44.2.1).bind fun H45 =>
     (ld true 1 (q22.1 2) H45).bind fun v46 =>
     iteK ([v46, q44.1].all notTup) <|
     some (.tuple ⟨[v46, q44.1]⟩, H45, q44.2.2))
theorem s14 (C : Calling) (L : Body → Body) (t : Tm) (H : Hp) (n : Nat) : bodyK Try.prog C L Try.f14 t H n = S14 C L t H n := by kernel_rfl
theorem c14 (args : List Value) (H : Hp) (n : Nat) : Call Try.prog 14 args H n = S14 (Call Try.prog) Loop (argsT args) H n := (Call_body Try.func14 args H n).trans (s14 ..)
/-! 15: spec.ListOf -/
noncomputable def S15 (C : Calling) (L : Body → Body) (t : Tm) (H : Hp) (n : Nat) : Option (Value × Hp × Nat) :=
  (vcells (t 0)).bind fun c2 =>
  let H1 := H.set (n) (some (.row c2 0 true))
  (ld true 1 (ptr (n) 0) H1).bind fun v3 =>
  (C 49 [v3] H1 (n + 12)).bind fun q4 =>
  (un .not q4.1).bind fun v5 =>
  let t7 : Tm := put (put (put (put (put (put (put t 2 (ptr (n) 0)) 4 nilS) 5 (.bool false)) 6 v3) 7 q4.1) 8 v5) 9 v5
  (gsel v5 false
    ((ld true 1 (ptr (n) 0) q4.2.1).bind fun v8 =>
     (C 50 [v8, t7 1] q4.2.1 (q4.2.2)).bind fun q9 =>
     (un .not q9.1).bind fun v10 =>
     some (put (put (put (put t7 10 v8) 11 (t7 1)) 12 q9.1) 13 v10, q9.2.1, q9.2.2))
    (some (put (put (put (put t7 10 (.tuple #[])) 11 (.tuple #[])) 12 (.tuple #[])) 13 (.tuple #[]), q4.2.1, q4.2.2))
  ).bind fun (q6 : R3) =>
  (pickV (q6.1 9) (.bool true) (q6.1 13)).bind fun v11 =>
  csel v11
    ((bsl (q6.2.2) 1 0 [.int .i64 0] [] q6.2.1).bind fun p12 =>
     iteK ([p12.1, .bool false].all notTup) <|
     some (.tuple ⟨[p12.1, .bool false]⟩, p12.2, q6.2.2 + 3))
    ((ld true 1 (q6.1 2) q6.2.1).bind fun v13 =>
     (C 55 [v13, q6.1 1] q6.2.1 (q6.2.2 + 7)).bind fun q14 =>
     (ext 0 q14.1).bind fun v15 =>
     (ext 1 q14.1).bind fun v16 =>
     iteK ([v15, v16].all notTup) <|
     some (.tuple ⟨[v15, v16]⟩, q14.2.1, q14.2.2))
theorem s15 (C : Calling) (L : Body → Body) (t : Tm) (H : Hp) (n : Nat) : bodyK Try.prog C L Try.f15 t H n = S15 C L t H n := by kernel_rfl
theorem c15 (args : List Value) (H : Hp) (n : Nat) : Call Try.prog 15 args H n = S15 (Call Try.prog) Loop (argsT args) H n := (Call_body Try.func15 args H n).trans (s15 ..)
/-! 16: laws.sameInts -/
noncomputable def S16L0 (C : Calling) (L : Body → Body) : Body := fun t H n =>
  (lenV false (t 0)).bind fun v5 =>
  (binK .plain .lss (t 5) v5).bind fun v6 =>
  csel v6
    ((idxA 1 (t 0) (t 5)).bind fun v7 =>
     (ld false 1 v7 H).bind fun v8 =>
     (idxA 1 (t 1) (t 5)).bind fun v9 =>
     (ld false 1 v9 H).bind fun v10 =>
     (binK .plain .neq v8 v10).bind fun v11 =>
     csel v11
       (some ⟨.ret, put (put (put (put (put (put (put (put (put (put (put (put (put (put t 11 (t 5)) 12 (t 0)) 13 v5) 14 v6) 17 (t 0)) 18 (t 5)) 19 v7) 20 v8) 21 (t 1)) 22 (t 5)) 23 v9) 24 v10) 25 v11) 4 (.bool false), H, n + 14⟩)
       ((binK .plain .add (t 5) (.int .i64 1)).bind fun v12 =>
        some ⟨.normal, put (put (put (put (put (put (put (put (put (put (put (put (put (put (put (put t 11 (t 5)) 12 (t 0)) 13 v5) 14 v6) 17 (t 0)) 18 (t 5)) 19 v7) 20 v8) 21 (t 1)) 22 (t 5)) 23 v9) 24 v10) 25 v11) 15 (t 5)) 16 v12) 5 v12, H, n + 16⟩))
    (some ⟨(.exit 0), put (put (put (put t 11 (t 5)) 12 (t 0)) 13 v5) 14 v6, H, n + 4⟩)
noncomputable def S16 (C : Calling) (L : Body → Body) (t : Tm) (H : Hp) (n : Nat) : Option (Value × Hp × Nat) :=
  (lenV false (t 0)).bind fun v1 =>
  (lenV false (t 1)).bind fun v2 =>
  (binK .plain .neq v1 v2).bind fun v3 =>
  csel v3
    (some (.bool false, H, n + 7))
    ((L (S16L0 C L) (put (put (put (put (put (put (put t 4 (.bool false)) 6 (t 0)) 7 v1) 8 (t 1)) 9 v2) 10 v3) 5 (.int .i64 0)) H (n + 7)).bind fun (o4 : Out) =>
     let o13 := outOf 0 o4
     thenK o13
       (some (.bool true, o13.H, o13.n + 1))
       (finE o13.e
          (some (o13.t 4, o13.H, o13.n))))
theorem s16 (C : Calling) (L : Body → Body) (t : Tm) (H : Hp) (n : Nat) : bodyK Try.prog C L Try.f16 t H n = S16 C L t H n := by kernel_rfl
theorem c16 (args : List Value) (H : Hp) (n : Nat) : Call Try.prog 16 args H n = S16 (Call Try.prog) Loop (argsT args) H n := (Call_body Try.func16 args H n).trans (s16 ..)
/-! 17: laws.szPool -/
noncomputable def S17 (C : Calling) (L : Body → Body) (t : Tm) (H : Hp) (n : Nat) : Option (Value × Hp × Nat) :=
  (vcells (t 0)).bind fun c2 =>
  let H1 := H.set (n) (some (.row c2 0 true))
  (fieldA 0 (ptr (n) 0)).bind fun v3 =>
  (ld false 1 v3 H1).bind fun v4 =>
  (C 56 [v4, t 1] H1 (n + 7)).bind fun q5 =>
  (binK .plain .lss q5.1 (.int .i64 0)).bind fun v6 =>
  csel v6
    (some (.int .i64 (-1), q5.2.1, q5.2.2 + 3))
    (some (q5.1, q5.2.1, q5.2.2 + 4))
theorem s17 (C : Calling) (L : Body → Body) (t : Tm) (H : Hp) (n : Nat) : bodyK Try.prog C L Try.f17 t H n = S17 C L t H n := by kernel_rfl
theorem c17 (args : List Value) (H : Hp) (n : Nat) : Call Try.prog 17 args H n = S17 (Call Try.prog) Loop (argsT args) H n := (Call_body Try.func17 args H n).trans (s17 ..)
/-! 18: spec.ValuePack -/
noncomputable def S18 (C : Calling) (L : Body → Body) (t : Tm) (H : Hp) (n : Nat) : Option (Value × Hp × Nat) :=
  (vcells (t 0)).bind fun c2 =>
  let H1 := H.set (n) (some (.row c2 0 true))
  (ld true 1 (ptr (n) 0) H1).bind fun v3 =>
  (C 49 [v3] H1 (n + 12)).bind fun q4 =>
  (un .not q4.1).bind fun v5 =>
  let t7 : Tm := put (put (put (put (put (put (put t 2 (ptr (n) 0)) 4 (.string ⟨#[]⟩)) 5 (.bool false)) 8 v3) 9 q4.1) 10 v5) 11 v5
  (gsel v5 false
    ((ld true 1 (ptr (n) 0) q4.2.1).bind fun v8 =>
     (C 50 [v8, t7 1] q4.2.1 (q4.2.2)).bind fun q9 =>
     (un .not q9.1).bind fun v10 =>
     some (put (put (put (put t7 12 v8) 13 (t7 1)) 14 q9.1) 15 v10, q9.2.1, q9.2.2))
    (some (put (put (put (put t7 12 (.tuple #[])) 13 (.tuple #[])) 14 (.tuple #[])) 15 (.tuple #[]), q4.2.1, q4.2.2))
  ).bind fun (q6 : R3) =>
  (pickV (q6.1 11) (.bool true) (q6.1 15)).bind fun v11 =>
  csel v11
    (iteK ([.string ⟨#[]⟩, .bool false].all notTup) <|
     some (.tuple ⟨[.string ⟨#[]⟩, .bool false]⟩, q6.2.1, q6.2.2 + 2))
    ((ld true 1 (q6.1 2) q6.2.1).bind fun v12 =>
     (bsl (q6.2.2 + 2) 1 1 [.int .i64 0] [(0, 1, q6.1 1)] q6.2.1).bind fun p13 =>
     (C 57 [v12, p13.1] p13.2 (q6.2.2 + 10)).bind fun q14 =>
     (ext 0 q14.1).bind fun v15 =>
     (ext 1 q14.1).bind fun v16 =>
     let H17 := q14.2.1.set (q6.2.2 + 7) (some (.row [nilS] 0 true))
     (st true 1 (ptr (q6.2.2 + 7) 0) v15 H17).bind fun H18 =>
     (ld true 1 (ptr (q6.2.2 + 7) 0) H18).bind fun v19 =>
     (C 58 [v19] H18 (q14.2.2 + 5)).bind fun q20 =>
     (conv .bytesToStr (q14.2.2 + 2) q20.1 q20.2.1).bind fun p21 =>
     iteK ([p21.1, .bool true].all notTup) <|
     some (.tuple ⟨[p21.1, .bool true]⟩, p21.2, q20.2.2))
theorem s18 (C : Calling) (L : Body → Body) (t : Tm) (H : Hp) (n : Nat) : bodyK Try.prog C L Try.f18 t H n = S18 C L t H n := by kernel_rfl
theorem c18 (args : List Value) (H : Hp) (n : Nat) : Call Try.prog 18 args H n = S18 (Call Try.prog) Loop (argsT args) H n := (Call_body Try.func18 args H n).trans (s18 ..)
/-! 19: laws.toPool -/
noncomputable def S19 (C : Calling) (L : Body → Body) (t : Tm) (H : Hp) (n : Nat) : Option (Value × Hp × Nat) :=
  (vcells (t 0)).bind fun c2 =>
  let H1 := H.set (n) (some (.row c2 0 true))
  let H3 := H1.set (n + 1) (some (.row [nilS] 0 true))
  let H4 := H3.set (n + 2) (some (.row [nilS] 0 true))
  (fieldA 0 (ptr (n) 0)).bind fun v5 =>
  (ld false 1 v5 H4).bind fun v6 =>
  (C 59 [v6] H4 (n + 8)).bind fun q7 =>
  (fieldA 0 (ptr (n + 2) 0)).bind fun v8 =>
  (st false 1 v8 q7.1 q7.2.1).bind fun H9 =>
  (ld true 1 (ptr (n + 2) 0) H9).bind fun v10 =>
  (st true 1 (ptr (n + 1) 0) v10 H9).bind fun H11 =>
  (ld true 1 (ptr (n + 1) 0) H11).bind fun v12 =>
  some (v12, H11, q7.2.2 + 2)
theorem s19 (C : Calling) (L : Body → Body) (t : Tm) (H : Hp) (n : Nat) : bodyK Try.prog C L Try.f19 t H n = S19 C L t H n := by kernel_rfl
theorem c19 (args : List Value) (H : Hp) (n : Nat) : Call Try.prog 19 args H n = S19 (Call Try.prog) Loop (argsT args) H n := (Call_body Try.func19 args H n).trans (s19 ..)
/-! 20: impl.ValuePack -/
noncomputable def S20 (C : Calling) (L : Body → Body) (t : Tm) (H : Hp) (n : Nat) : Option (Value × Hp × Nat) :=
  (vcells (t 0)).bind fun c2 =>
  let H1 := H.set (n) (some (.row c2 0 true))
  (ld true 1 (ptr (n) 0) H1).bind fun v3 =>
  (C 38 [v3] H1 (n + 12)).bind fun q4 =>
  (un .not q4.1).bind fun v5 =>
  let t7 : Tm := put (put (put (put (put (put (put t 2 (ptr (n) 0)) 4 (.string ⟨#[]⟩)) 5 (.bool false)) 8 v3) 9 q4.1) 10 v5) 11 v5
  (gsel v5 false
    ((ld true 1 (ptr (n) 0) q4.2.1).bind fun v8 =>
     (C 46 [v8, t7 1] q4.2.1 (q4.2.2)).bind fun q9 =>
     (un .not q9.1).bind fun v10 =>
     some (put (put (put (put t7 12 v8) 13 (t7 1)) 14 q9.1) 15 v10, q9.2.1, q9.2.2))
    (some (put (put (put (put t7 12 (.tuple #[])) 13 (.tuple #[])) 14 (.tuple #[])) 15 (.tuple #[]), q4.2.1, q4.2.2))
  ).bind fun (q6 : R3) =>
  (pickV (q6.1 11) (.bool true) (q6.1 15)).bind fun v11 =>
  csel v11
    (iteK ([.string ⟨#[]⟩, .bool false].all notTup) <|
     some (.tuple ⟨[.string ⟨#[]⟩, .bool false]⟩, q6.2.1, q6.2.2 + 2))
    ((ld true 1 (q6.1 2) q6.2.1).bind fun v12 =>
     (bsl (q6.2.2 + 2) 1 1 [.int .i64 0] [(0, 1, q6.1 1)] q6.2.1).bind fun p13 =>
     (C 60 [v12, p13.1] p13.2 (q6.2.2 + 10)).bind fun q14 =>
     (ext 0 q14.1).bind fun v15 =>
     (ext 1 q14.1).bind fun v16 =>
     let H17 := q14.2.1.set (q6.2.2 + 7) (some (.row [nilS] 0 true))
     (st true 1 (ptr (q6.2.2 + 7) 0) v15 H17).bind fun H18 =>
     (ld true 1 (ptr (q6.2.2 + 7) 0) H18).bind fun v19 =>
     (C 61 [v19] H18 (q14.2.2 + 5)).bind fun q20 =>
     (conv .bytesToStr (q14.2.2 + 2) q20.1 q20.2.1).bind fun p21 =>
     iteK ([p21.1, .bool true].all notTup) <|
     some (.tuple ⟨[p21.1, .bool true]⟩, p21.2, q20.2.2))
theorem s20 (C : Calling) (L : Body → Body) (t : Tm) (H : Hp) (n : Nat) : bodyK Try.prog C L Try.f20 t H n = S20 C L t H n := by kernel_rfl
theorem c20 (args : List Value) (H : Hp) (n : Nat) : Call Try.prog 20 args H n = S20 (Call Try.prog) Loop (argsT args) H n := (Call_body Try.func20 args H n).trans (s20 ..)
/-! 21: laws.eqPool -/
noncomputable def S21 (C : Calling) (L : Body → Body) (t : Tm) (H : Hp) (n : Nat) : Option (Value × Hp × Nat) :=
  (vcells (t 0)).bind fun c2 =>
  let H1 := H.set (n) (some (.row c2 0 true))
  (vcells (t 1)).bind fun c4 =>
  let H3 := H1.set (n + 1) (some (.row c4 0 true))
  (fieldA 0 (ptr (n) 0)).bind fun v5 =>
  (ld false 1 v5 H3).bind fun v6 =>
  (fieldA 0 (ptr (n + 1) 0)).bind fun v7 =>
  (ld false 1 v7 H3).bind fun v8 =>
  (C 62 [v6, v8] H3 (n + 9)).bind fun q9 =>
  (un .not q9.1).bind fun v10 =>
  csel v10
    (some (.bool false, q9.2.1, q9.2.2 + 1))
    (some (.bool true, q9.2.1, q9.2.2 + 1))
theorem s21 (C : Calling) (L : Body → Body) (t : Tm) (H : Hp) (n : Nat) : bodyK Try.prog C L Try.f21 t H n = S21 C L t H n := by kernel_rfl
theorem c21 (args : List Value) (H : Hp) (n : Nat) : Call Try.prog 21 args H n = S21 (Call Try.prog) Loop (argsT args) H n := (Call_body Try.func21 args H n).trans (s21 ..)
/-! 22: spec.DrawSame -/
noncomputable def S22L0 (C : Calling) (L : Body → Body) : Body := fun t H n =>
  (binK .plain .lss (t 8) (t 7)).bind fun v30 =>
  csel v30
    ((fieldA 0 (t 6)).bind fun v31 =>
     (ld false 1 v31 H).bind fun v32 =>
     (idxA 5 v32 (t 8)).bind fun v33 =>
     (ld true 5 v33 H).bind fun v34 =>
     let H35 := H.set (n + 8) (some (.row [.int .i64 0, .int .i64 0, .string ⟨#[]⟩, .int .i64 0, .int .i64 0] 0 true))
     (st true 5 (ptr (n + 8) 0) v34 H35).bind fun H36 =>
     (fieldA 0 (ptr (n + 8) 0)).bind fun v37 =>
     (ld false 1 v37 H36).bind fun v38 =>
     (binK .plain .eql v38 (.int .i64 5)).bind fun v39 =>
     let t41 : Tm := put (put (put (put (put (put (put (put (put (put (put (put (put t 37 (t 8)) 38 (t 7)) 39 v30) 42 v31) 43 v32) 44 (t 8)) 45 v33) 46 v34) 9 (ptr (n + 8) 0)) 47 v37) 48 v38) 49 v39) 50 v39
     (gsel v39 false
       ((fieldA 0 (ptr (n + 8) 0)).bind fun v42 =>
        (ld false 1 v42 H36).bind fun v43 =>
        (binK .plain .eql v43 (.int .i64 6)).bind fun v44 =>
        some (put (put (put t41 51 v42) 52 v43) 53 v44, H36, n + 23))
       (some (put (put (put t41 51 (.tuple #[])) 52 (.tuple #[])) 53 (.tuple #[]), H36, n + 23))
     ).bind fun (q40 : R3) =>
     (pickV (q40.1 50) (.bool true) (q40.1 53)).bind fun v45 =>
     let t47 : Tm := put (put q40.1 54 v45) 55 v45
     (gsel v45 false
       ((fieldA 0 (t47 9)).bind fun v48 =>
        (ld false 1 v48 q40.2.1).bind fun v49 =>
        (binK .plain .eql v49 (.int .i64 7)).bind fun v50 =>
        some (put (put (put t47 56 v48) 57 v49) 58 v50, q40.2.1, q40.2.2))
       (some (put (put (put t47 56 (.tuple #[])) 57 (.tuple #[])) 58 (.tuple #[]), q40.2.1, q40.2.2))
     ).bind fun (q46 : R3) =>
     (pickV (q46.1 55) (.bool true) (q46.1 58)).bind fun v51 =>
     let t53 : Tm := put q46.1 59 v51
     (csel v51
       ((fieldA 3 (t53 9)).bind fun v54 =>
        (ld false 1 v54 q46.2.1).bind fun v55 =>
        (C 41 [t53 5, .int .i64 2] q46.2.1 (q46.2.2 + 9)).bind fun q56 =>
        ask (ld false 1 v54 q56.2.1 = some v55) <|
        (binK .plain .mul (t53 7) q56.1).bind fun v57 =>
        (binK .plain .add v55 v57).bind fun v58 =>
        (fieldA 3 (t53 9)).bind fun v59 =>
        (st false 1 v59 v58 q56.2.1).bind fun H60 =>
        some ⟨.normal, put (put (put (put (put (put (put (put t53 60 v54) 61 v55) 62 (t53 7)) 63 (t53 5)) 64 q56.1) 65 v57) 66 v58) 67 v59, H60, q56.2.2⟩)
       (some ⟨.normal, t53, q46.2.1, q46.2.2⟩)
     ).bind fun (o52 : Out) =>
     (fieldA 0 (o52.t 9)).bind fun v61 =>
     (ld false 1 v61 o52.H).bind fun v62 =>
     (binK .plain .eql v62 (.int .i64 5)).bind fun v63 =>
     let t65 : Tm := put (put (put o52.t 68 v61) 69 v62) 70 v63
     (csel v63
       ((fieldA 4 (t65 9)).bind fun v66 =>
        (ld false 1 v66 o52.H).bind fun v67 =>
        (C 41 [t65 5, .int .i64 2] o52.H (o52.n + 12)).bind fun q68 =>
        ask (ld false 1 v66 q68.2.1 = some v67) <|
        (binK .plain .mul (t65 7) q68.1).bind fun v69 =>
        (binK .plain .add v67 v69).bind fun v70 =>
        (fieldA 4 (t65 9)).bind fun v71 =>
        (st false 1 v71 v70 q68.2.1).bind fun H72 =>
        some ⟨.normal, put (put (put (put (put (put (put (put t65 71 v66) 72 v67) 73 (t65 7)) 74 (t65 5)) 75 q68.1) 76 v69) 77 v70) 78 v71, H72, q68.2.2⟩)
       (some ⟨.normal, t65, o52.H, o52.n + 3⟩)
     ).bind fun (o64 : Out) =>
     (ld true 5 (o64.t 9) o64.H).bind fun v73 =>
     (C 63 [o64.t 6, v73] o64.H (o64.n + 2)).bind fun q74 =>
     (binK .plain .add (o64.t 8) (.int .i64 1)).bind fun v75 =>
     some ⟨.normal, put (put (put (put (put o64.t 79 v73) 80 q74.1) 40 (o64.t 8)) 41 v75) 8 v75, q74.2.1, q74.2.2 + 3⟩)
    (some ⟨(.exit 0), put (put (put t 37 (t 8)) 38 (t 7)) 39 v30, H, n + 3⟩)
noncomputable def S22 (C : Calling) (L : Body → Body) (t : Tm) (H : Hp) (n : Nat) : Option (Value × Hp × Nat) :=
  let H1 := H.set (n) (some (.row [nilS] 0 true))
  (C 39 [t 0] H1 (n + 6)).bind fun q2 =>
  (C 40 [q2.1] q2.2.1 (q2.2.2 + 4)).bind fun q3 =>
  let H4 := q3.2.1.set (q2.2.2 + 2) (some (.row [nilS] 0 true))
  (st true 1 (ptr (q2.2.2 + 2) 0) q3.1 H4).bind fun H5 =>
  (ld true 1 (ptr (q2.2.2 + 2) 0) H5).bind fun v6 =>
  (C 49 [v6] H5 (q3.2.2 + 18)).bind fun q7 =>
  let t9 : Tm := put (put (put (put (put (put (put (put (put (put (put (put t 2 (ptr (n) 0)) 3 (.int .i64 0)) 4 (.int .i64 0)) 12 (t 0)) 13 q2.1) 5 q2.1) 14 q2.1) 15 q3.1) 6 (ptr (q2.2.2 + 2) 0)) 16 v6) 17 q7.1) 18 q7.1
  (gsel q7.1 true
    ((fieldA 0 (ptr (q2.2.2 + 2) 0)).bind fun v10 =>
     (ld false 1 v10 q7.2.1).bind fun v11 =>
     (lenV false v11).bind fun v12 =>
     (binK .plain .gtr v12 (.int .i64 0)).bind fun v13 =>
     some (put (put (put (put t9 19 v10) 20 v11) 21 v12) 22 v13, q7.2.1, q7.2.2))
    (some (put (put (put (put t9 19 (.tuple #[])) 20 (.tuple #[])) 21 (.tuple #[])) 22 (.tuple #[]), q7.2.1, q7.2.2))
  ).bind fun (q8 : R3) =>
  (pickV (q8.1 18) (q8.1 22) (.bool false)).bind fun v14 =>
  let t16 : Tm := put (put q8.1 23 v14) 24 v14
  (gsel v14 true
    ((fieldA 0 (t16 6)).bind fun v17 =>
     (ld false 1 v17 q8.2.1).bind fun v18 =>
     (lenV false v18).bind fun v19 =>
     (binK .plain .lss v19 (.int .i64 40)).bind fun v20 =>
     some (put (put (put (put t16 25 v17) 26 v18) 27 v19) 28 v20, q8.2.1, q8.2.2))
    (some (put (put (put (put t16 25 (.tuple #[])) 26 (.tuple #[])) 27 (.tuple #[])) 28 (.tuple #[]), q8.2.1, q8.2.2))
  ).bind fun (q15 : R3) =>
  (pickV (q15.1 24) (q15.1 28) (.bool false)).bind fun v21 =>
  let t23 : Tm := put (put q15.1 29 v21) 30 v21
  (gsel v21 true
    ((C 54 [t23 5, .int .i64 2] q15.2.1 (q15.2.2)).bind fun q24 =>
     some (put (put t23 31 (t23 5)) 32 q24.1, q24.2.1, q24.2.2))
    (some (put (put t23 31 (.tuple #[])) 32 (.tuple #[]), q15.2.1, q15.2.2))
  ).bind fun (q22 : R3) =>
  (pickV (q22.1 30) (q22.1 32) (.bool false)).bind fun v25 =>
  csel v25
    ((fieldA 0 (q22.1 6)).bind fun v26 =>
     (ld false 1 v26 q22.2.1).bind fun v27 =>
     (lenV false v27).bind fun v28 =>
     (L (S22L0 C L) (put (put (put (put (put (put q22.1 33 v25) 34 v26) 35 v27) 36 v28) 7 v28) 8 (.int .i64 0)) q22.2.1 (q22.2.2 + 5)).bind fun (o29 : Out) =>
     (C 41 [o29.t 5, o29.t 7] o29.H (o29.n + 4)).bind fun q76 =>
     (ld true 1 (o29.t 6) q76.2.1).bind fun v77 =>
     (binK .plain .add (o29.t 7) q76.1).bind fun v78 =>
     (st true 1 (o29.t 2) v77 q76.2.1).bind fun H79 =>
     (ld true 1 (o29.t 2) H79).bind fun v80 =>
     iteK ([v80, q76.1, v78].all notTup) <|
     some (.tuple ⟨[v80, q76.1, v78]⟩, H79, q76.2.2 + 8))
    ((ld true 1 (q22.1 6) q22.2.1).bind fun v81 =>
     (C 42 [q22.1 5, v81] q22.2.1 (q22.2.2 + 4)).bind fun q82 =>
     (ld true 1 (q22.1 6) q82.2.1).bind fun v83 =>
     (ld true 1 (q22.1 6) q82.2.1).bind fun v84 =>
     (C 42 [q22.1 5, v84] q82.2.1 (q82.2.2 + 8)).bind fun q85 =>
     ask (ld true 1 (q22.1 6) q85.2.1 = some v83) <|
     (st true 1 (q22.1 2) v83 q85.2.1).bind fun H86 =>
     (ld true 1 (q22.1 2) H86).bind fun v87 =>
     iteK ([v87, q82.1, q85.1].all notTup) <|
     some (.tuple ⟨[v87, q82.1, q85.1]⟩, H86, q85.2.2))
theorem s22 (C : Calling) (L : Body → Body) (t : Tm) (H : Hp) (n : Nat) : bodyK Try.prog C L Try.f22 t H n = S22 C L t H n := by kernel_rfl
theorem c22 (args : List Value) (H : Hp) (n : Nat) : Call Try.prog 22 args H n = S22 (Call Try.prog) Loop (argsT args) H n := (Call_body Try.func22 args H n).trans (s22 ..)
/-! 23: impl.Same -/
noncomputable def S23 (C : Calling) (L : Body → Body) (t : Tm) (H : Hp) (n : Nat) : Option (Value × Hp × Nat) :=
  (vcells (t 0)).bind fun c2 =>
  let H1 := H.set (n) (some (.row c2 0 true))
  (ld true 1 (ptr (n) 0) H1).bind fun v3 =>
  (C 38 [v3] H1 (n + 17)).bind fun q4 =>
  (un .not q4.1).bind fun v5 =>
  let t7 : Tm := put (put (put (put (put (put t 3 (ptr (n) 0)) 6 (.bool false)) 8 v3) 9 q4.1) 10 v5) 11 v5
  (gsel v5 false
    ((ld true 1 (ptr (n) 0) q4.2.1).bind fun v8 =>
     (C 46 [v8, t7 1] q4.2.1 (q4.2.2)).bind fun q9 =>
     (un .not q9.1).bind fun v10 =>
     some (put (put (put (put t7 12 v8) 13 (t7 1)) 14 q9.1) 15 v10, q9.2.1, q9.2.2))
    (some (put (put (put (put t7 12 (.tuple #[])) 13 (.tuple #[])) 14 (.tuple #[])) 15 (.tuple #[]), q4.2.1, q4.2.2))
  ).bind fun (q6 : R3) =>
  (pickV (q6.1 11) (.bool true) (q6.1 15)).bind fun v11 =>
  let t13 : Tm := put (put q6.1 16 v11) 17 v11
  (gsel v11 false
    ((ld true 1 (t13 3) q6.2.1).bind fun v14 =>
     (C 46 [v14, t13 2] q6.2.1 (q6.2.2)).bind fun q15 =>
     (un .not q15.1).bind fun v16 =>
     some (put (put (put (put t13 18 v14) 19 (t13 2)) 20 q15.1) 21 v16, q15.2.1, q15.2.2))
    (some (put (put (put (put t13 18 (.tuple #[])) 19 (.tuple #[])) 20 (.tuple #[])) 21 (.tuple #[]), q6.2.1, q6.2.2))
  ).bind fun (q12 : R3) =>
  (pickV (q12.1 17) (.bool true) (q12.1 21)).bind fun v17 =>
  csel v17
    (some (.bool false, q12.2.1, q12.2.2 + 1))
    ((ld true 1 (q12.1 3) q12.2.1).bind fun v18 =>
     (C 64 [v18] q12.2.1 (q12.2.2 + 3)).bind fun q19 =>
     (idxA 1 q19.1 (q12.1 1)).bind fun v20 =>
     (ld false 1 v20 q19.2.1).bind fun v21 =>
     (idxA 1 q19.1 (q12.1 2)).bind fun v22 =>
     (ld false 1 v22 q19.2.1).bind fun v23 =>
     (binK .plain .eql v21 v23).bind fun v24 =>
     some (v24, q19.2.1, q19.2.2 + 10))
theorem s23 (C : Calling) (L : Body → Body) (t : Tm) (H : Hp) (n : Nat) : bodyK Try.prog C L Try.f23 t H n = S23 C L t H n := by kernel_rfl
theorem c23 (args : List Value) (H : Hp) (n : Nat) : Call Try.prog 23 args H n = S23 (Call Try.prog) Loop (argsT args) H n := (Call_body Try.func23 args H n).trans (s23 ..)
/-! 24: spec.Same -/
noncomputable def S24 (C : Calling) (L : Body → Body) (t : Tm) (H : Hp) (n : Nat) : Option (Value × Hp × Nat) :=
  (vcells (t 0)).bind fun c2 =>
  let H1 := H.set (n) (some (.row c2 0 true))
  (ld true 1 (ptr (n) 0) H1).bind fun v3 =>
  (C 49 [v3] H1 (n + 17)).bind fun q4 =>
  (un .not q4.1).bind fun v5 =>
  let t7 : Tm := put (put (put (put (put (put t 3 (ptr (n) 0)) 6 (.bool false)) 8 v3) 9 q4.1) 10 v5) 11 v5
  (gsel v5 false
    ((ld true 1 (ptr (n) 0) q4.2.1).bind fun v8 =>
     (C 50 [v8, t7 1] q4.2.1 (q4.2.2)).bind fun q9 =>
     (un .not q9.1).bind fun v10 =>
     some (put (put (put (put t7 12 v8) 13 (t7 1)) 14 q9.1) 15 v10, q9.2.1, q9.2.2))
    (some (put (put (put (put t7 12 (.tuple #[])) 13 (.tuple #[])) 14 (.tuple #[])) 15 (.tuple #[]), q4.2.1, q4.2.2))
  ).bind fun (q6 : R3) =>
  (pickV (q6.1 11) (.bool true) (q6.1 15)).bind fun v11 =>
  let t13 : Tm := put (put q6.1 16 v11) 17 v11
  (gsel v11 false
    ((ld true 1 (t13 3) q6.2.1).bind fun v14 =>
     (C 50 [v14, t13 2] q6.2.1 (q6.2.2)).bind fun q15 =>
     (un .not q15.1).bind fun v16 =>
     some (put (put (put (put t13 18 v14) 19 (t13 2)) 20 q15.1) 21 v16, q15.2.1, q15.2.2))
    (some (put (put (put (put t13 18 (.tuple #[])) 19 (.tuple #[])) 20 (.tuple #[])) 21 (.tuple #[]), q6.2.1, q6.2.2))
  ).bind fun (q12 : R3) =>
  (pickV (q12.1 17) (.bool true) (q12.1 21)).bind fun v17 =>
  csel v17
    (some (.bool false, q12.2.1, q12.2.2 + 1))
    ((ld true 1 (q12.1 3) q12.2.1).bind fun v18 =>
     (C 65 [v18] q12.2.1 (q12.2.2 + 3)).bind fun q19 =>
     (idxA 1 q19.1 (q12.1 1)).bind fun v20 =>
     (ld false 1 v20 q19.2.1).bind fun v21 =>
     (idxA 1 q19.1 (q12.1 2)).bind fun v22 =>
     (ld false 1 v22 q19.2.1).bind fun v23 =>
     (binK .plain .eql v21 v23).bind fun v24 =>
     some (v24, q19.2.1, q19.2.2 + 10))
theorem s24 (C : Calling) (L : Body → Body) (t : Tm) (H : Hp) (n : Nat) : bodyK Try.prog C L Try.f24 t H n = S24 C L t H n := by kernel_rfl
theorem c24 (args : List Value) (H : Hp) (n : Nat) : Call Try.prog 24 args H n = S24 (Call Try.prog) Loop (argsT args) H n := (Call_body Try.func24 args H n).trans (s24 ..)
/-! 25: impl.SizeOf -/
noncomputable def S25L0 (C : Calling) (L : Body → Body) : Body := fun t H n =>
  (binK .plain .lss (t 22) (t 21)).bind fun v17 =>
  csel v17
    ((idxA 5 (t 20) (t 22)).bind fun v18 =>
     (ld true 5 v18 H).bind fun v19 =>
     let H20 := H.set (n + 3) (some (.row [.int .i64 0, .int .i64 0, .string ⟨#[]⟩, .int .i64 0, .int .i64 0] 0 true))
     (st true 5 (ptr (n + 3) 0) v19 H20).bind fun H21 =>
     (fieldA 0 (ptr (n + 3) 0)).bind fun v22 =>
     (ld false 1 v22 H21).bind fun v23 =>
     (binK .plain .eql v23 (.int .i64 5)).bind fun v24 =>
     let t26 : Tm := put (put (put (put (put (put (put (put (put t 23 v17) 24 v18) 25 v19) 7 (ptr (n + 3) 0)) 8 (.int .i64 1)) 26 v22) 27 v23) 29 v24) 28 v24
     (csel v24
       ((fieldA 3 (ptr (n + 3) 0)).bind fun v27 =>
        (ld false 1 v27 H21).bind fun v28 =>
        (idxA 1 (t26 5) v28).bind fun v29 =>
        (ld false 1 v29 H21).bind fun v30 =>
        (fieldA 4 (ptr (n + 3) 0)).bind fun v31 =>
        (ld false 1 v31 H21).bind fun v32 =>
        (idxA 1 (t26 5) v32).bind fun v33 =>
        (ld false 1 v33 H21).bind fun v34 =>
        (binK .plain .add v30 v34).bind fun v35 =>
        (binK .plain .add (.int .i64 1) v35).bind fun v36 =>
        some ⟨.normal, put (put (put (put (put (put (put (put (put (put (put (put (put (put t26 30 (.int .i64 1)) 31 (t26 5)) 32 v27) 33 v28) 34 v29) 35 v30) 36 (t26 5)) 37 v31) 38 v32) 39 v33) 40 v34) 41 v35) 42 v36) 8 v36, H21, n + 24⟩)
       ((binK .plain .eql v23 (.int .i64 6)).bind fun v37 =>
        let t39 : Tm := put (put t26 44 v37) 43 v37
        (csel v37
          (some ⟨.normal, t39, H21, n + 12⟩)
          ((binK .plain .eql v23 (.int .i64 7)).bind fun v40 =>
           some ⟨.normal, put (put t39 45 v40) 43 v40, H21, n + 14⟩)
        ).bind fun (o38 : Out) =>
        (csel (o38.t 43)
          ((fieldA 3 (o38.t 7)).bind fun v43 =>
           (ld false 1 v43 o38.H).bind fun v44 =>
           (idxA 1 (o38.t 5) v44).bind fun v45 =>
           (ld false 1 v45 o38.H).bind fun v46 =>
           (binK .plain .add (o38.t 8) v46).bind fun v47 =>
           some ⟨.normal, put (put (put (put (put (put (put (put o38.t 46 (o38.t 8)) 47 (o38.t 5)) 48 v43) 49 v44) 50 v45) 51 v46) 52 v47) 8 v47, o38.H, o38.n + 8⟩)
          (some ⟨.normal, o38.t, o38.H, o38.n⟩)
        ).bind fun (o41 : Out) =>
        some ⟨.normal, o41.t, o41.H, o41.n⟩)
     ).bind fun (o25 : Out) =>
     (minV (o25.t 8) (.int .i64 1000000000)).bind fun v48 =>
     (bsl (o25.n + 3) 1 1 [.int .i64 0] [(0, 1, v48)] o25.H).bind fun p49 =>
     (app (o25.n + 4) 1 8 (o25.t 5) p49.1 p49.2).bind fun p50 =>
     (binK .plain .add (o25.t 22) (.int .i64 1)).bind fun v51 =>
     some ⟨.normal, put (put (put (put (put (put (put (put o25.t 53 (o25.t 5)) 54 (o25.t 8)) 55 v48) 56 p49.1) 57 p50.1) 5 p50.1) 58 v51) 22 v51, p50.2, o25.n + 8⟩)
    (some ⟨(.exit 0), put t 23 v17, H, n + 1⟩)
noncomputable def S25 (C : Calling) (L : Body → Body) (t : Tm) (H : Hp) (n : Nat) : Option (Value × Hp × Nat) :=
  (vcells (t 0)).bind fun c2 =>
  let H1 := H.set (n) (some (.row c2 0 true))
  (ld true 1 (ptr (n) 0) H1).bind fun v3 =>
  (C 38 [v3] H1 (n + 11)).bind fun q4 =>
  (un .not q4.1).bind fun v5 =>
  let t7 : Tm := put (put (put (put (put (put t 2 (ptr (n) 0)) 4 (.int .i64 0)) 9 v3) 10 q4.1) 11 v5) 12 v5
  (gsel v5 false
    ((ld true 1 (ptr (n) 0) q4.2.1).bind fun v8 =>
     (C 46 [v8, t7 1] q4.2.1 (q4.2.2)).bind fun q9 =>
     (un .not q9.1).bind fun v10 =>
     some (put (put (put (put t7 13 v8) 14 (t7 1)) 15 q9.1) 16 v10, q9.2.1, q9.2.2))
    (some (put (put (put (put t7 13 (.tuple #[])) 14 (.tuple #[])) 15 (.tuple #[])) 16 (.tuple #[]), q4.2.1, q4.2.2))
  ).bind fun (q6 : R3) =>
  (pickV (q6.1 12) (.bool true) (q6.1 16)).bind fun v11 =>
  csel v11
    (some (.int .i64 0, q6.2.1, q6.2.2 + 1))
    ((bsl (q6.2.2) 1 0 [.int .i64 0] [] q6.2.1).bind fun p12 =>
     (fieldA 0 (q6.1 2)).bind fun v13 =>
     (ld false 1 v13 p12.2).bind fun v14 =>
     (lenV false v14).bind fun v15 =>
     (L (S25L0 C L) (put (put (put (put (put (put (put q6.1 17 v11) 18 p12.1) 5 p12.1) 19 v13) 20 v14) 21 v15) 22 (.int .i64 0)) p12.2 (q6.2.2 + 6)).bind fun (o16 : Out) =>
     (idxA 1 (o16.t 5) (o16.t 1)).bind fun v52 =>
     (ld false 1 v52 o16.H).bind fun v53 =>
     some (v53, o16.H, o16.n + 5))
theorem s25 (C : Calling) (L : Body → Body) (t : Tm) (H : Hp) (n : Nat) : bodyK Try.prog C L Try.f25 t H n = S25 C L t H n := by kernel_rfl
theorem c25 (args : List Value) (H : Hp) (n : Nat) : Call Try.prog 25 args H n = S25 (Call Try.prog) Loop (argsT args) H n := (Call_body Try.func25 args H n).trans (s25 ..)
/-! 26: impl.Write -/
noncomputable def S26 (C : Calling) (L : Body → Body) (t : Tm) (H : Hp) (n : Nat) : Option (Value × Hp × Nat) :=
  (vcells (t 0)).bind fun c2 =>
  let H1 := H.set (n) (some (.row c2 0 true))
  (ld true 1 (ptr (n) 0) H1).bind fun v3 =>
  (C 38 [v3] H1 (n + 11)).bind fun q4 =>
  (un .not q4.1).bind fun v5 =>
  let t7 : Tm := put (put (put (put (put (put t 2 (ptr (n) 0)) 4 (.string ⟨#[]⟩)) 6 v3) 7 q4.1) 8 v5) 9 v5
  (gsel v5 false
    ((ld true 1 (ptr (n) 0) q4.2.1).bind fun v8 =>
     (C 46 [v8, t7 1] q4.2.1 (q4.2.2)).bind fun q9 =>
     (un .not q9.1).bind fun v10 =>
     some (put (put (put (put t7 10 v8) 11 (t7 1)) 12 q9.1) 13 v10, q9.2.1, q9.2.2))
    (some (put (put (put (put t7 10 (.tuple #[])) 11 (.tuple #[])) 12 (.tuple #[])) 13 (.tuple #[]), q4.2.1, q4.2.2))
  ).bind fun (q6 : R3) =>
  (pickV (q6.1 9) (.bool true) (q6.1 13)).bind fun v11 =>
  csel v11
    (some (.string ⟨#[]⟩, q6.2.1, q6.2.2 + 1))
    ((ld true 1 (q6.1 2) q6.2.1).bind fun v12 =>
     (bld [nilS, nilS] [(0, 1, v12)]).bind fun v13 =>
     (vcells v13).bind fun c15 =>
     let H14 := q6.2.1.set (q6.2.2 + 2) (some (.row c15 0 true))
     (fieldA 0 (q6.1 2)).bind fun v16 =>
     (ld false 1 v16 H14).bind fun v17 =>
     (idxA 5 v17 (q6.1 1)).bind fun v18 =>
     (fieldA 0 v18).bind fun v19 =>
     (ld false 1 v19 H14).bind fun v20 =>
     (binK .plain .eql v20 (.int .i64 1)).bind fun v21 =>
     csel v21
       (some (.string ⟨#[40, 41]⟩, H14, q6.2.2 + 12))
       ((C 66 [ptr (q6.2.2 + 2) 0, q6.1 1] H14 (q6.2.2 + 14)).bind fun q22 =>
        (C 67 [ptr (q6.2.2 + 2) 0] q22.2.1 (q22.2.2 + 2)).bind fun q23 =>
        csel q23.1
          (some (.string ⟨#[]⟩, q23.2.1, q23.2.2 + 1))
          ((nilchk (ptr (q6.2.2 + 2) 0)).bind fun v24 =>
           (fieldA 1 v24).bind fun v25 =>
           (ld false 1 v25 q23.2.1).bind fun v26 =>
           (conv .bytesToStr (q23.2.2 + 4) v26 q23.2.1).bind fun p27 =>
           some (p27.1, p27.2, q23.2.2 + 6))))
theorem s26 (C : Calling) (L : Body → Body) (t : Tm) (H : Hp) (n : Nat) : bodyK Try.prog C L Try.f26 t H n = S26 C L t H n := by kernel_rfl
theorem c26 (args : List Value) (H : Hp) (n : Nat) : Call Try.prog 26 args H n = S26 (Call Try.prog) Loop (argsT args) H n := (Call_body Try.func26 args H n).trans (s26 ..)
/-! 27: spec.Copy -/
noncomputable def S27 (C : Calling) (L : Body → Body) (t : Tm) (H : Hp) (n : Nat) : Option (Value × Hp × Nat) :=
  (vcells (t 0)).bind fun c2 =>
  let H1 := H.set (n) (some (.row c2 0 true))
  (vcells (t 1)).bind fun c4 =>
  let H3 := H1.set (n + 1) (some (.row c4 0 true))
  let H5 := H3.set (n + 2) (some (.row [nilS] 0 true))
  (ld true 1 (ptr (n) 0) H5).bind fun v6 =>
  (C 49 [v6] H5 (n + 7)).bind fun q7 =>
  (un .not q7.1).bind fun v8 =>
  csel v8
    ((bld [nilS] []).bind fun v9 =>
     (st true 1 (ptr (n + 2) 0) v9 q7.2.1).bind fun H10 =>
     (ld true 1 (ptr (n + 2) 0) H10).bind fun v11 =>
     iteK ([v11, .int .i64 (-1)].all notTup) <|
     some (.tuple ⟨[v11, .int .i64 (-1)]⟩, H10, q7.2.2 + 3))
    ((ld true 1 (ptr (n + 1) 0) q7.2.1).bind fun v12 =>
     (C 49 [v12] q7.2.1 (q7.2.2 + 9)).bind fun q13 =>
     (un .not q13.1).bind fun v14 =>
     let t16 : Tm := put (put (put (put (put (put (put (put (put (put (put t 3 (ptr (n) 0)) 4 (ptr (n + 1) 0)) 6 (ptr (n + 2) 0)) 7 (.int .i64 0)) 10 v6) 11 q7.1) 12 v8) 14 v12) 15 q13.1) 16 v14) 17 v14
     (gsel v14 false
       ((ld true 1 (ptr (n + 1) 0) q13.2.1).bind fun v17 =>
        (C 50 [v17, t16 2] q13.2.1 (q13.2.2)).bind fun q18 =>
        (un .not q18.1).bind fun v19 =>
        some (put (put (put (put t16 18 v17) 19 (t16 2)) 20 q18.1) 21 v19, q18.2.1, q18.2.2))
       (some (put (put (put (put t16 18 (.tuple #[])) 19 (.tuple #[])) 20 (.tuple #[])) 21 (.tuple #[]), q13.2.1, q13.2.2))
     ).bind fun (q15 : R3) =>
     (pickV (q15.1 17) (.bool true) (q15.1 21)).bind fun v20 =>
     csel v20
       ((ld true 1 (q15.1 3) q15.2.1).bind fun v21 =>
        (C 51 [v21] q15.2.1 (q15.2.2 + 4)).bind fun q22 =>
        (st true 1 (q15.1 6) q22.1 q22.2.1).bind fun H23 =>
        (ld true 1 (q15.1 6) H23).bind fun v24 =>
        iteK ([v24, .int .i64 (-1)].all notTup) <|
        some (.tuple ⟨[v24, .int .i64 (-1)]⟩, H23, q22.2.2))
       ((ld true 1 (q15.1 3) q15.2.1).bind fun v25 =>
        (C 51 [v25] q15.2.1 (q15.2.2 + 4)).bind fun q26 =>
        let H27 := q26.2.1.set (q15.2.2 + 2) (some (.row [nilS] 0 true))
        (st true 1 (ptr (q15.2.2 + 2) 0) q26.1 H27).bind fun H28 =>
        (ld true 1 (q15.1 4) H28).bind fun v29 =>
        (C 68 [ptr (q15.2.2 + 2) 0, v29, q15.1 2] H28 (q26.2.2 + 4)).bind fun q30 =>
        (fieldA 0 (ptr (q15.2.2 + 2) 0)).bind fun v31 =>
        (ld false 1 v31 q30.2.1).bind fun v32 =>
        (lenV false v32).bind fun v33 =>
        (binK .plain .gtr v33 (.int .i64 3000)).bind fun v34 =>
        csel v34
          ((ld true 1 (q15.1 3) q30.2.1).bind fun v35 =>
           (C 51 [v35] q30.2.1 (q30.2.2 + 8)).bind fun q36 =>
           (st true 1 (q15.1 6) q36.1 q36.2.1).bind fun H37 =>
           (ld true 1 (q15.1 6) H37).bind fun v38 =>
           iteK ([v38, .int .i64 (-1)].all notTup) <|
           some (.tuple ⟨[v38, .int .i64 (-1)]⟩, H37, q36.2.2))
          ((ld true 1 (ptr (q15.2.2 + 2) 0) q30.2.1).bind fun v39 =>
           (st true 1 (q15.1 6) v39 q30.2.1).bind fun H40 =>
           (ld true 1 (q15.1 6) H40).bind fun v41 =>
           iteK ([v41, q30.1].all notTup) <|
           some (.tuple ⟨[v41, q30.1]⟩, H40, q30.2.2 + 8))))
theorem s27 (C : Calling) (L : Body → Body) (t : Tm) (H : Hp) (n : Nat) : bodyK Try.prog C L Try.f27 t H n = S27 C L t H n := by kernel_rfl
theorem c27 (args : List Value) (H : Hp) (n : Nat) : Call Try.prog 27 args H n = S27 (Call Try.prog) Loop (argsT args) H n := (Call_body Try.func27 args H n).trans (s27 ..)
/-! 28: impl.Copy -/
noncomputable def S28 (C : Calling) (L : Body → Body) (t : Tm) (H : Hp) (n : Nat) : Option (Value × Hp × Nat) :=
  (vcells (t 0)).bind fun c2 =>
  let H1 := H.set (n) (some (.row c2 0 true))
  (vcells (t 1)).bind fun c4 =>
  let H3 := H1.set (n + 1) (some (.row c4 0 true))
  let H5 := H3.set (n + 2) (some (.row [nilS] 0 true))
  (ld true 1 (ptr (n) 0) H5).bind fun v6 =>
  (C 38 [v6] H5 (n + 7)).bind fun q7 =>
  (un .not q7.1).bind fun v8 =>
  csel v8
    ((bld [nilS] []).bind fun v9 =>
     (st true 1 (ptr (n + 2) 0) v9 q7.2.1).bind fun H10 =>
     (ld true 1 (ptr (n + 2) 0) H10).bind fun v11 =>
     iteK ([v11, .int .i64 (-1)].all notTup) <|
     some (.tuple ⟨[v11, .int .i64 (-1)]⟩, H10, q7.2.2 + 3))
    ((ld true 1 (ptr (n) 0) q7.2.1).bind fun v12 =>
     (C 43 [v12] q7.2.1 (q7.2.2 + 4)).bind fun q13 =>
     let H14 := q13.2.1.set (q7.2.2 + 2) (some (.row [nilS] 0 true))
     (st true 1 (ptr (q7.2.2 + 2) 0) q13.1 H14).bind fun H15 =>
     (ld true 1 (ptr (n + 1) 0) H15).bind fun v16 =>
     (C 38 [v16] H15 (q13.2.2 + 9)).bind fun q17 =>
     (un .not q17.1).bind fun v18 =>
     let t20 : Tm := put (put (put (put (put (put (put (put (put (put (put (put (put (put t 3 (ptr (n) 0)) 4 (ptr (n + 1) 0)) 6 (ptr (n + 2) 0)) 7 (.int .i64 0)) 10 v6) 11 q7.1) 12 v8) 14 v12) 15 q13.1) 8 (ptr (q7.2.2 + 2) 0)) 16 v16) 17 q17.1) 18 v18) 19 v18
     (gsel v18 false
       ((ld true 1 (ptr (n + 1) 0) q17.2.1).bind fun v21 =>
        (C 46 [v21, t20 2] q17.2.1 (q17.2.2)).bind fun q22 =>
        (un .not q22.1).bind fun v23 =>
        some (put (put (put (put t20 20 v21) 21 (t20 2)) 22 q22.1) 23 v23, q22.2.1, q22.2.2))
       (some (put (put (put (put t20 20 (.tuple #[])) 21 (.tuple #[])) 22 (.tuple #[])) 23 (.tuple #[]), q17.2.1, q17.2.2))
     ).bind fun (q19 : R3) =>
     (pickV (q19.1 19) (.bool true) (q19.1 23)).bind fun v24 =>
     csel v24
       ((ld true 1 (q19.1 8) q19.2.1).bind fun v25 =>
        (st true 1 (q19.1 6) v25 q19.2.1).bind fun H26 =>
        (ld true 1 (q19.1 6) H26).bind fun v27 =>
        iteK ([v27, .int .i64 (-1)].all notTup) <|
        some (.tuple ⟨[v27, .int .i64 (-1)]⟩, H26, q19.2.2 + 3))
       ((ld true 1 (q19.1 4) q19.2.1).bind fun v28 =>
        (C 69 [q19.1 8, v28, q19.1 2] q19.2.1 (q19.2.2 + 4)).bind fun q29 =>
        (fieldA 0 (q19.1 8)).bind fun v30 =>
        (ld false 1 v30 q29.2.1).bind fun v31 =>
        (lenV false v31).bind fun v32 =>
        (binK .plain .gtr v32 (.int .i64 3000)).bind fun v33 =>
        csel v33
          ((ld true 1 (q19.1 3) q29.2.1).bind fun v34 =>
           (C 43 [v34] q29.2.1 (q29.2.2 + 8)).bind fun q35 =>
           (st true 1 (q19.1 6) q35.1 q35.2.1).bind fun H36 =>
           (ld true 1 (q19.1 6) H36).bind fun v37 =>
           iteK ([v37, .int .i64 (-1)].all notTup) <|
           some (.tuple ⟨[v37, .int .i64 (-1)]⟩, H36, q35.2.2))
          ((ld true 1 (q19.1 8) q29.2.1).bind fun v38 =>
           (st true 1 (q19.1 6) v38 q29.2.1).bind fun H39 =>
           (ld true 1 (q19.1 6) H39).bind fun v40 =>
           iteK ([v40, q29.1].all notTup) <|
           some (.tuple ⟨[v40, q29.1]⟩, H39, q29.2.2 + 8))))
theorem s28 (C : Calling) (L : Body → Body) (t : Tm) (H : Hp) (n : Nat) : bodyK Try.prog C L Try.f28 t H n = S28 C L t H n := by kernel_rfl
theorem c28 (args : List Value) (H : Hp) (n : Nat) : Call Try.prog 28 args H n = S28 (Call Try.prog) Loop (argsT args) H n := (Call_body Try.func28 args H n).trans (s28 ..)
/-! 29: laws.markPool -/
noncomputable def S29 (C : Calling) (L : Body → Body) (t : Tm) (H : Hp) (n : Nat) : Option (Value × Hp × Nat) :=
  (vcells (t 0)).bind fun c2 =>
  let H1 := H.set (n) (some (.row c2 0 true))
  (fieldA 0 (ptr (n) 0)).bind fun v3 =>
  (ld false 1 v3 H1).bind fun v4 =>
  (C 70 [v4, t 1] H1 (n + 7)).bind fun q5 =>
  some (q5.1, q5.2.1, q5.2.2 + 2)
theorem s29 (C : Calling) (L : Body → Body) (t : Tm) (H : Hp) (n : Nat) : bodyK Try.prog C L Try.f29 t H n = S29 C L t H n := by kernel_rfl
theorem c29 (args : List Value) (H : Hp) (n : Nat) : Call Try.prog 29 args H n = S29 (Call Try.prog) Loop (argsT args) H n := (Call_body Try.func29 args H n).trans (s29 ..)
/-! 30: laws.heldPool -/
noncomputable def S30 (C : Calling) (L : Body → Body) (t : Tm) (H : Hp) (n : Nat) : Option (Value × Hp × Nat) :=
  (vcells (t 0)).bind fun c2 =>
  let H1 := H.set (n) (some (.row c2 0 true))
  (fieldA 0 (ptr (n) 0)).bind fun v3 =>
  (ld false 1 v3 H1).bind fun v4 =>
  (C 71 [v4, t 1] H1 (n + 7)).bind fun q5 =>
  (binK .plain .lss q5.1 (.int .i64 0)).bind fun v6 =>
  csel v6
    (some (.int .i64 (-1), q5.2.1, q5.2.2 + 3))
    (some (q5.1, q5.2.1, q5.2.2 + 4))
theorem s30 (C : Calling) (L : Body → Body) (t : Tm) (H : Hp) (n : Nat) : bodyK Try.prog C L Try.f30 t H n = S30 C L t H n := by kernel_rfl
theorem c30 (args : List Value) (H : Hp) (n : Nat) : Call Try.prog 30 args H n = S30 (Call Try.prog) Loop (argsT args) H n := (Call_body Try.func30 args H n).trans (s30 ..)
/-! 31: spec.Keep -/
noncomputable def S31 (C : Calling) (L : Body → Body) (t : Tm) (H : Hp) (n : Nat) : Option (Value × Hp × Nat) :=
  (vcells (t 0)).bind fun c2 =>
  let H1 := H.set (n) (some (.row c2 0 true))
  let H3 := H1.set (n + 1) (some (.row [nilS] 0 true))
  (ld true 1 (ptr (n) 0) H3).bind fun v4 =>
  (C 72 [v4, t 1] H3 (n + 7)).bind fun q5 =>
  (un .not q5.1).bind fun v6 =>
  csel v6
    ((bld [nilS] []).bind fun v7 =>
     (bsl (q5.2.2 + 1) 1 0 [.int .i64 0] [] q5.2.1).bind fun p8 =>
     (st true 1 (ptr (n + 1) 0) v7 p8.2).bind fun H9 =>
     (ld true 1 (ptr (n + 1) 0) H9).bind fun v10 =>
     iteK ([v10, p8.1].all notTup) <|
     some (.tuple ⟨[v10, p8.1]⟩, H9, q5.2.2 + 4))
    ((ld true 1 (ptr (n) 0) q5.2.1).bind fun v11 =>
     (C 57 [v11, t 1] q5.2.1 (q5.2.2 + 7)).bind fun q12 =>
     (ext 0 q12.1).bind fun v13 =>
     (ext 1 q12.1).bind fun v14 =>
     (st true 1 (ptr (n + 1) 0) v13 q12.2.1).bind fun H15 =>
     (ld true 1 (ptr (n + 1) 0) H15).bind fun v16 =>
     iteK ([v16, v14].all notTup) <|
     some (.tuple ⟨[v16, v14]⟩, H15, q12.2.2))
theorem s31 (C : Calling) (L : Body → Body) (t : Tm) (H : Hp) (n : Nat) : bodyK Try.prog C L Try.f31 t H n = S31 C L t H n := by kernel_rfl
theorem c31 (args : List Value) (H : Hp) (n : Nat) : Call Try.prog 31 args H n = S31 (Call Try.prog) Loop (argsT args) H n := (Call_body Try.func31 args H n).trans (s31 ..)
/-! 32: laws.toIntS -/
noncomputable def S32L0 (C : Calling) (L : Body → Body) : Body := fun t H n =>
  (lenV false (t 0)).bind fun v4 =>
  (binK .plain .lss (t 4) v4).bind fun v5 =>
  csel v5
    ((idxA 1 (t 0) (t 4)).bind fun v6 =>
     (ld false 1 v6 H).bind fun v7 =>
     (idxA 1 (t 3) (t 4)).bind fun v8 =>
     (st false 1 v8 v7 H).bind fun H9 =>
     (binK .plain .add (t 4) (.int .i64 1)).bind fun v10 =>
     some ⟨.normal, put (put (put (put (put (put (put (put (put (put (put (put (put (put t 8 (t 4)) 9 (t 0)) 10 v4) 11 v5) 14 (t 3)) 15 (t 4)) 16 (t 0)) 17 (t 4)) 18 v6) 19 v7) 20 v8) 12 (t 4)) 13 v10) 4 v10, H9, n + 15⟩)
    (some ⟨(.exit 0), put (put (put (put t 8 (t 4)) 9 (t 0)) 10 v4) 11 v5, H, n + 4⟩)
noncomputable def S32 (C : Calling) (L : Body → Body) (t : Tm) (H : Hp) (n : Nat) : Option (Value × Hp × Nat) :=
  (lenV false (t 0)).bind fun v1 =>
  (mks (n + 3) 1 8 [.int .i64 0] v1 v1 H).bind fun p2 =>
  (L (S32L0 C L) (put (put (put (put (put (put t 2 nilS) 5 (t 0)) 6 v1) 7 p2.1) 3 p2.1) 4 (.int .i64 0)) p2.2 (n + 6)).bind fun (o3 : Out) =>
  some (o3.t 3, o3.H, o3.n + 2)
theorem s32 (C : Calling) (L : Body → Body) (t : Tm) (H : Hp) (n : Nat) : bodyK Try.prog C L Try.f32 t H n = S32 C L t H n := by kernel_rfl
theorem c32 (args : List Value) (H : Hp) (n : Nat) : Call Try.prog 32 args H n = S32 (Call Try.prog) Loop (argsT args) H n := (Call_body Try.func32 args H n).trans (s32 ..)
end Go.Proofs.Ytfdnlokpadbjnaa.Ax
