/- What the bodies of some functions of the program come to in the abstract machine. -/
import Derived.Test.YtpkaeflmonpliaaProg
import Derived.Test.YtpkaeflmonpliaaAx3
set_option linter.unusedVariables false
namespace Go.Proofs.Ytpkaeflmonpliaa.Ax
open Go
set_option maxRecDepth 100000
/-! 3: laws.FnExactPutNum -/
noncomputable def S3 (C : Calling) (L : Body → Body) (t : Tm) (H : Hp) (n : Nat) : Option (Value × Hp × Nat) :=
  (C 9 [t 0] H (n + 4)).bind fun q1 =>
  (C 10 [t 0] q1.2.1 (q1.2.2 + 3)).bind fun q2 =>
  (C 11 [q2.1, q1.1] q2.2.1 (q2.2.2 + 4)).bind fun q3 =>
  (un .not q3.1).bind fun v4 =>
  csel v4
    (some (.bool false, q3.2.1, q3.2.2 + 1))
    ((C 12 [q2.1, .int .i64 1] q3.2.1 (q3.2.2 + 5)).bind fun q5 =>
     (C 13 [q2.1, .int .i64 1] q5.2.1 (q5.2.2 + 5)).bind fun q6 =>
     (binK .plain .lss q6.1 (.int .i64 0)).bind fun v7 =>
     csel v7
       (some (.bool false, q6.2.1, q6.2.2 + 3))
       ((binK .plain .neq q6.1 q5.1).bind fun v8 =>
        csel v8
          (some (.bool false, q6.2.1, q6.2.2 + 6))
          ((C 10 [t 0] q6.2.1 (q6.2.2 + 8)).bind fun q9 =>
           (C 11 [q9.1, q1.1] q9.2.1 (q9.2.2 + 4)).bind fun q10 =>
           (un .not q10.1).bind fun v11 =>
           csel v11
             (some (.bool false, q10.2.1, q10.2.2 + 1))
             ((C 13 [q2.1, .int .i64 1] q10.2.1 (q10.2.2 + 5)).bind fun q12 =>
              (binK .plain .lss q12.1 (.int .i64 0)).bind fun v13 =>
              csel v13
                (some (.bool false, q12.2.1, q12.2.2 + 3))
                ((binK .plain .neq q12.1 q5.1).bind fun v14 =>
                 csel v14
                   (some (.bool false, q12.2.1, q12.2.2 + 6))
                   (some (.bool true, q12.2.1, q12.2.2 + 6)))))))
theorem s3 (C : Calling) (L : Body → Body) (t : Tm) (H : Hp) (n : Nat) : bodyK Try.prog C L Try.f3 t H n = S3 C L t H n := by kernel_rfl
theorem c3 (args : List Value) (H : Hp) (n : Nat) : Call Try.prog 3 args H n = S3 (Call Try.prog) Loop (argsT args) H n := (Call_body Try.func3 args H n).trans (s3 ..)
/-! 4: laws.FnExactPutText -/
noncomputable def S4 (C : Calling) (L : Body → Body) (t : Tm) (H : Hp) (n : Nat) : Option (Value × Hp × Nat) :=
  (lenV true (t 0)).bind fun v1 =>
  (binK .plain .gtr v1 (.int .i64 1048576)).bind fun v2 =>
  csel v2
    (some (.bool true, H, n + 5))
    ((C 14 [t 0] H (n + 7)).bind fun q3 =>
     (C 15 [t 0] q3.2.1 (q3.2.2 + 3)).bind fun q4 =>
     (C 11 [q4.1, q3.1] q4.2.1 (q4.2.2 + 4)).bind fun q5 =>
     (un .not q5.1).bind fun v6 =>
     csel v6
       (some (.bool false, q5.2.1, q5.2.2 + 1))
       ((C 12 [q4.1, .int .i64 1] q5.2.1 (q5.2.2 + 5)).bind fun q7 =>
        (C 13 [q4.1, .int .i64 1] q7.2.1 (q7.2.2 + 5)).bind fun q8 =>
        (binK .plain .lss q8.1 (.int .i64 0)).bind fun v9 =>
        csel v9
          (some (.bool false, q8.2.1, q8.2.2 + 3))
          ((binK .plain .neq q8.1 q7.1).bind fun v10 =>
           csel v10
             (some (.bool false, q8.2.1, q8.2.2 + 6))
             ((C 15 [t 0] q8.2.1 (q8.2.2 + 8)).bind fun q11 =>
              (C 11 [q11.1, q3.1] q11.2.1 (q11.2.2 + 4)).bind fun q12 =>
              (un .not q12.1).bind fun v13 =>
              csel v13
                (some (.bool false, q12.2.1, q12.2.2 + 1))
                ((C 13 [q4.1, .int .i64 1] q12.2.1 (q12.2.2 + 5)).bind fun q14 =>
                 (binK .plain .lss q14.1 (.int .i64 0)).bind fun v15 =>
                 csel v15
                   (some (.bool false, q14.2.1, q14.2.2 + 3))
                   ((binK .plain .neq q14.1 q7.1).bind fun v16 =>
                    csel v16
                      (some (.bool false, q14.2.1, q14.2.2 + 6))
                      (some (.bool true, q14.2.1, q14.2.2 + 6))))))))
theorem s4 (C : Calling) (L : Body → Body) (t : Tm) (H : Hp) (n : Nat) : bodyK Try.prog C L Try.f4 t H n = S4 C L t H n := by kernel_rfl
theorem c4 (args : List Value) (H : Hp) (n : Nat) : Call Try.prog 4 args H n = S4 (Call Try.prog) Loop (argsT args) H n := (Call_body Try.func4 args H n).trans (s4 ..)
/-! 5: laws.FnExactGetNum -/
noncomputable def S5 (C : Calling) (L : Body → Body) (t : Tm) (H : Hp) (n : Nat) : Option (Value × Hp × Nat) :=
  (lenV false (t 0)).bind fun v1 =>
  (binK .plain .gtr v1 (.int .i64 1048576)).bind fun v2 =>
  csel v2
    (some (.bool true, H, n + 5))
    ((C 17 [t 0] H (n + 15)).bind fun q3 =>
     (C 16 [q3.1, t 1] q3.2.1 (q3.2.2)).bind fun q4 =>
     (ext 0 q4.1).bind fun v5 =>
     (ext 1 q4.1).bind fun v6 =>
     (ext 2 q4.1).bind fun v7 =>
     (C 17 [t 0] q4.2.1 (q4.2.2 + 3)).bind fun q8 =>
     (C 18 [q8.1, t 1] q8.2.1 (q8.2.2 + 10)).bind fun q9 =>
     (ext 0 q9.1).bind fun v10 =>
     (ext 1 q9.1).bind fun v11 =>
     (ext 2 q9.1).bind fun v12 =>
     (binK .plain .neq v10 v5).bind fun v13 =>
     let t15 : Tm := put (put (put (put (put (put (put (put (put (put (put (put (put (put (put (put (put (put (put (put (put (put (put (put (put (put (put (put (put (put (put (put t 4 (.bool false)) 12 (t 0)) 13 v1) 14 v2) 16 (t 0)) 17 q3.1) 18 (t 1)) 19 q4.1) 15 q4.1) 20 v5) 21 v6) 22 v7) 5 v5) 6 v6) 7 v7) 23 (t 0)) 24 q8.1) 8 q8.1) 26 q8.1) 27 (t 1)) 28 q9.1) 25 q9.1) 29 v10) 30 v11) 31 v12) 9 v10) 10 v11) 11 v12) 32 v10) 33 v5) 34 v13) 35 v13
     (gsel v13 false
       ((binK .plain .neq v11 v6).bind fun v16 =>
        some (put (put (put t15 36 v11) 37 v6) 38 v16, q9.2.1, q9.2.2 + 13))
       (some (put (put (put t15 36 (.tuple #[])) 37 (.tuple #[])) 38 (.tuple #[]), q9.2.1, q9.2.2 + 13))
     ).bind fun (q14 : R3) =>
     (pickV (q14.1 35) (.bool true) (q14.1 38)).bind fun v17 =>
     let t19 : Tm := put (put q14.1 39 v17) 40 v17
     (gsel v17 false
       ((binK .bool .neq (t19 11) (t19 7)).bind fun v20 =>
        some (put (put (put t19 41 (t19 11)) 42 (t19 7)) 43 v20, q14.2.1, q14.2.2))
       (some (put (put (put t19 41 (.tuple #[])) 42 (.tuple #[])) 43 (.tuple #[]), q14.2.1, q14.2.2))
     ).bind fun (q18 : R3) =>
     (pickV (q18.1 40) (.bool true) (q18.1 43)).bind fun v21 =>
     csel v21
       (some (.bool false, q18.2.1, q18.2.2 + 1))
       ((C 17 [q18.1 0] q18.2.1 (q18.2.2 + 5)).bind fun q22 =>
        (C 11 [q18.1 8, q22.1] q22.2.1 (q22.2.2)).bind fun q23 =>
        (un .not q23.1).bind fun v24 =>
        csel v24
          (some (.bool false, q23.2.1, q23.2.2 + 1))
          (some (.bool true, q23.2.1, q23.2.2 + 1))))
theorem s5 (C : Calling) (L : Body → Body) (t : Tm) (H : Hp) (n : Nat) : bodyK Try.prog C L Try.f5 t H n = S5 C L t H n := by kernel_rfl
theorem c5 (args : List Value) (H : Hp) (n : Nat) : Call Try.prog 5 args H n = S5 (Call Try.prog) Loop (argsT args) H n := (Call_body Try.func5 args H n).trans (s5 ..)
/-! 6: laws.FnExactGetText -/
noncomputable def S6 (C : Calling) (L : Body → Body) (t : Tm) (H : Hp) (n : Nat) : Option (Value × Hp × Nat) :=
  (lenV false (t 0)).bind fun v1 =>
  (binK .plain .gtr v1 (.int .i64 1048576)).bind fun v2 =>
  csel v2
    (some (.bool true, H, n + 5))
    ((C 17 [t 0] H (n + 15)).bind fun q3 =>
     (C 19 [q3.1, t 1] q3.2.1 (q3.2.2)).bind fun q4 =>
     (ext 0 q4.1).bind fun v5 =>
     (ext 1 q4.1).bind fun v6 =>
     (ext 2 q4.1).bind fun v7 =>
     (C 17 [t 0] q4.2.1 (q4.2.2 + 3)).bind fun q8 =>
     (C 20 [q8.1, t 1] q8.2.1 (q8.2.2 + 10)).bind fun q9 =>
     (ext 0 q9.1).bind fun v10 =>
     (ext 1 q9.1).bind fun v11 =>
     (ext 2 q9.1).bind fun v12 =>
     (binK .plain .neq v10 v5).bind fun v13 =>
     let t15 : Tm := put (put (put (put (put (put (put (put (put (put (put (put (put (put (put (put (put (put (put (put (put (put (put (put (put (put (put (put (put (put (put (put t 4 (.bool false)) 12 (t 0)) 13 v1) 14 v2) 16 (t 0)) 17 q3.1) 18 (t 1)) 19 q4.1) 15 q4.1) 20 v5) 21 v6) 22 v7) 5 v5) 6 v6) 7 v7) 23 (t 0)) 24 q8.1) 8 q8.1) 26 q8.1) 27 (t 1)) 28 q9.1) 25 q9.1) 29 v10) 30 v11) 31 v12) 9 v10) 10 v11) 11 v12) 32 v10) 33 v5) 34 v13) 35 v13
     (gsel v13 false
       ((binK .plain .neq v11 v6).bind fun v16 =>
        some (put (put (put t15 36 v11) 37 v6) 38 v16, q9.2.1, q9.2.2 + 13))
       (some (put (put (put t15 36 (.tuple #[])) 37 (.tuple #[])) 38 (.tuple #[]), q9.2.1, q9.2.2 + 13))
     ).bind fun (q14 : R3) =>
     (pickV (q14.1 35) (.bool true) (q14.1 38)).bind fun v17 =>
     let t19 : Tm := put (put q14.1 39 v17) 40 v17
     (gsel v17 false
       ((binK .bool .neq (t19 11) (t19 7)).bind fun v20 =>
        some (put (put (put t19 41 (t19 11)) 42 (t19 7)) 43 v20, q14.2.1, q14.2.2))
       (some (put (put (put t19 41 (.tuple #[])) 42 (.tuple #[])) 43 (.tuple #[]), q14.2.1, q14.2.2))
     ).bind fun (q18 : R3) =>
     (pickV (q18.1 40) (.bool true) (q18.1 43)).bind fun v21 =>
     csel v21
       (some (.bool false, q18.2.1, q18.2.2 + 1))
       ((C 17 [q18.1 0] q18.2.1 (q18.2.2 + 5)).bind fun q22 =>
        (C 11 [q18.1 8, q22.1] q22.2.1 (q22.2.2)).bind fun q23 =>
        (un .not q23.1).bind fun v24 =>
        csel v24
          (some (.bool false, q23.2.1, q23.2.2 + 1))
          (some (.bool true, q23.2.1, q23.2.2 + 1))))
theorem s6 (C : Calling) (L : Body → Body) (t : Tm) (H : Hp) (n : Nat) : bodyK Try.prog C L Try.f6 t H n = S6 C L t H n := by kernel_rfl
theorem c6 (args : List Value) (H : Hp) (n : Nat) : Call Try.prog 6 args H n = S6 (Call Try.prog) Loop (argsT args) H n := (Call_body Try.func6 args H n).trans (s6 ..)
/-! 7: laws.FnNums -/
noncomputable def S7 (C : Calling) (L : Body → Body) (t : Tm) (H : Hp) (n : Nat) : Option (Value × Hp × Nat) :=
  (C 21 [t 0] H (n + 3)).bind fun q1 =>
  csel q1.1
    (some (.bool true, q1.2.1, q1.2.2 + 1))
    ((C 22 [t 0] q1.2.1 (q1.2.2 + 3)).bind fun q2 =>
     (C 10 [q2.1] q2.2.1 (q2.2.2 + 3)).bind fun q3 =>
     (binK .plain .lss q2.1 (.int .i64 0)).bind fun v4 =>
     csel v4
       ((lenV false q3.1).bind fun v5 =>
        (binK .plain .eql v5 (.int .i64 0)).bind fun v6 =>
        some (v6, q3.2.1, q3.2.2 + 6))
       ((bsl (q3.2.2 + 2) 1 1 [.int .u8 0] [(0, 1, .int .u8 9)] q3.2.1).bind fun p7 =>
        (app (q3.2.2 + 4) 1 1 p7.1 q3.1 p7.2).bind fun p8 =>
        (C 23 [t 0, .int .i64 1] p8.2 (q3.2.2 + 18)).bind fun q9 =>
        (conv (.toInt .u8) (q3.2.2 + 7) q9.1 q9.2.1).bind fun p10 =>
        (bsl (q3.2.2 + 8) 1 1 [.int .u8 0] [(0, 1, p10.1)] p10.2).bind fun p11 =>
        (app (q3.2.2 + 9) 1 1 p8.1 p11.1 p11.2).bind fun p12 =>
        (C 18 [p12.1, .int .i64 1] p12.2 (q9.2.2)).bind fun q13 =>
        (ext 0 q13.1).bind fun v14 =>
        (ext 1 q13.1).bind fun v15 =>
        (ext 2 q13.1).bind fun v16 =>
        (C 24 [t 0] q13.2.1 (q13.2.2 + 3)).bind fun q17 =>
        (C 15 [q17.1] q17.2.1 (q17.2.2 + 3)).bind fun q18 =>
        (bsl (q18.2.2) 1 0 [.int .u8 0] [] q18.2.1).bind fun p19 =>
        (app (q18.2.2 + 2) 1 1 p19.1 q18.1 p19.2).bind fun p20 =>
        (C 23 [t 0, .int .i64 2] p20.2 (q18.2.2 + 16)).bind fun q21 =>
        (conv (.toInt .u8) (q18.2.2 + 5) q21.1 q21.2.1).bind fun p22 =>
        (bsl (q18.2.2 + 6) 1 1 [.int .u8 0] [(0, 1, p22.1)] p22.2).bind fun p23 =>
        (app (q18.2.2 + 7) 1 1 p20.1 p23.1 p23.2).bind fun p24 =>
        (C 20 [p24.1, .int .i64 0] p24.2 (q21.2.2)).bind fun q25 =>
        (ext 0 q25.1).bind fun v26 =>
        (ext 1 q25.1).bind fun v27 =>
        (ext 2 q25.1).bind fun v28 =>
        let t30 : Tm := put (put (put (put (put (put (put (put (put (put (put (put (put (put (put (put (put (put (put (put (put (put (put (put (put (put (put (put (put (put (put (put (put (put (put (put (put (put (put (put (put (put (put (put (put (put (put (put (put (put (put t 2 (.bool false)) 13 (t 0)) 14 q1.1) 15 (t 0)) 16 q2.1) 3 q2.1) 17 q2.1) 18 q3.1) 4 q3.1) 19 q2.1) 20 v4) 25 p7.1) 26 q3.1) 27 p8.1) 28 (t 0)) 29 q9.1) 30 p10.1) 31 p11.1) 32 p12.1) 33 q13.1) 24 q13.1) 34 v14) 35 v15) 36 v16) 5 v14) 6 v15) 7 v16) 37 (t 0)) 38 q17.1) 8 q17.1) 39 q17.1) 40 q18.1) 9 q18.1) 42 p19.1) 43 q18.1) 44 p20.1) 45 (t 0)) 46 q21.1) 47 p22.1) 48 p23.1) 49 p24.1) 50 q25.1) 41 q25.1) 51 v26) 52 v27) 53 v28) 10 v26) 11 v27) 12 v28) 54 v16) 55 v16
        (gsel v16 true
          ((binK .plain .eql v14 q2.1).bind fun v31 =>
           some (put (put (put t30 56 v14) 57 q2.1) 58 v31, q25.2.1, q25.2.2 + 28))
          (some (put (put (put t30 56 (.tuple #[])) 57 (.tuple #[])) 58 (.tuple #[]), q25.2.1, q25.2.2 + 28))
        ).bind fun (q29 : R3) =>
        (pickV (q29.1 55) (q29.1 58) (.bool false)).bind fun v32 =>
        let t34 : Tm := put (put q29.1 59 v32) 60 v32
        (gsel v32 true
          ((lenV false (t34 4)).bind fun v35 =>
           (binK .plain .add (.int .i64 1) v35).bind fun v36 =>
           (binK .plain .eql (t34 6) v36).bind fun v37 =>
           some (put (put (put (put (put t34 61 (t34 6)) 62 (t34 4)) 63 v35) 64 v36) 65 v37, q29.2.1, q29.2.2))
          (some (put (put (put (put (put t34 61 (.tuple #[])) 62 (.tuple #[])) 63 (.tuple #[])) 64 (.tuple #[])) 65 (.tuple #[]), q29.2.1, q29.2.2))
        ).bind fun (q33 : R3) =>
        (pickV (q33.1 60) (q33.1 65) (.bool false)).bind fun v38 =>
        (pickV v38 (gsel v38 true (q33.1 12) (.tuple #[])) (.bool false)).bind fun v39 =>
        let t41 : Tm := put (put (put (put (put q33.1 66 v38) 67 v38) 68 (gsel v38 true (q33.1 12) (.tuple #[]))) 69 v39) 70 v39
        (gsel v39 true
          ((binK .plain .eql (t41 10) (t41 8)).bind fun v42 =>
           some (put (put (put t41 71 (t41 10)) 72 (t41 8)) 73 v42, q33.2.1, q33.2.2))
          (some (put (put (put t41 71 (.tuple #[])) 72 (.tuple #[])) 73 (.tuple #[]), q33.2.1, q33.2.2))
        ).bind fun (q40 : R3) =>
        (pickV (q40.1 70) (q40.1 73) (.bool false)).bind fun v43 =>
        let t45 : Tm := put (put q40.1 74 v43) 75 v43
        (gsel v43 true
          ((lenV false (t45 9)).bind fun v46 =>
           (binK .plain .eql (t45 11) v46).bind fun v47 =>
           some (put (put (put (put t45 76 (t45 11)) 77 (t45 9)) 78 v46) 79 v47, q40.2.1, q40.2.2))
          (some (put (put (put (put t45 76 (.tuple #[])) 77 (.tuple #[])) 78 (.tuple #[])) 79 (.tuple #[]), q40.2.1, q40.2.2))
        ).bind fun (q44 : R3) =>
        (pickV (q44.1 75) (q44.1 79) (.bool false)).bind fun v48 =>
        some (v48, q44.2.1, q44.2.2)))
theorem s7 (C : Calling) (L : Body → Body) (t : Tm) (H : Hp) (n : Nat) : bodyK Try.prog C L Try.f7 t H n = S7 C L t H n := by kernel_rfl
theorem c7 (args : List Value) (H : Hp) (n : Nat) : Call Try.prog 7 args H n = S7 (Call Try.prog) Loop (argsT args) H n := (Call_body Try.func7 args H n).trans (s7 ..)
/-! 8: laws.FnNames -/
noncomputable def S8 (C : Calling) (L : Body → Body) (t : Tm) (H : Hp) (n : Nat) : Option (Value × Hp × Nat) :=
  (C 21 [t 0] H (n + 3)).bind fun q1 =>
  csel q1.1
    (some (.bool true, q1.2.1, q1.2.2 + 1))
    ((C 25 [t 0] q1.2.1 (q1.2.2 + 3)).bind fun q2 =>
     (C 26 [q2.1] q2.2.1 (q2.2.2 + 3)).bind fun q3 =>
     (C 27 [t 0] q3.2.1 (q3.2.2 + 3)).bind fun q4 =>
     (C 28 [q2.1] q4.2.1 (q4.2.2 + 18)).bind fun q5 =>
     (binK .plain .neq q3.1 q5.1).bind fun v6 =>
     let t8 : Tm := put (put (put (put (put (put (put (put (put (put (put (put (put (put (put (put (put t 2 (.bool false)) 6 (t 0)) 7 q1.1) 8 (t 0)) 9 q2.1) 3 q2.1) 10 q2.1) 11 q3.1) 4 q3.1) 12 (t 0)) 13 q4.1) 5 q4.1) 14 q3.1) 15 q2.1) 16 q5.1) 17 v6) 18 v6
     (gsel v6 false
       ((C 29 [q4.1] q5.2.1 (q5.2.2)).bind fun q9 =>
        (C 30 [q4.1] q9.2.1 (q9.2.2)).bind fun q10 =>
        (binK .plain .neq q9.1 q10.1).bind fun v11 =>
        some (put (put (put (put (put t8 19 q4.1) 20 q9.1) 21 q4.1) 22 q10.1) 23 v11, q10.2.1, q10.2.2))
       (some (put (put (put (put (put t8 19 (.tuple #[])) 20 (.tuple #[])) 21 (.tuple #[])) 22 (.tuple #[])) 23 (.tuple #[]), q5.2.1, q5.2.2))
     ).bind fun (q7 : R3) =>
     (pickV (q7.1 18) (.bool true) (q7.1 23)).bind fun v12 =>
     let t14 : Tm := put (put q7.1 24 v12) 25 v12
     (gsel v12 false
       ((C 31 [t14 5] q7.2.1 (q7.2.2)).bind fun q15 =>
        (C 32 [t14 5] q15.2.1 (q15.2.2)).bind fun q16 =>
        (binK .plain .neq q15.1 q16.1).bind fun v17 =>
        some (put (put (put (put (put t14 26 (t14 5)) 27 q15.1) 28 (t14 5)) 29 q16.1) 30 v17, q16.2.1, q16.2.2))
       (some (put (put (put (put (put t14 26 (.tuple #[])) 27 (.tuple #[])) 28 (.tuple #[])) 29 (.tuple #[])) 30 (.tuple #[]), q7.2.1, q7.2.2))
     ).bind fun (q13 : R3) =>
     (pickV (q13.1 25) (.bool true) (q13.1 30)).bind fun v18 =>
     csel v18
       (some (.bool false, q13.2.1, q13.2.2 + 1))
       ((binK .plain .gtr (q13.1 4) (.int .i64 0)).bind fun v19 =>
        let t21 : Tm := put (put (put (put q13.1 31 v18) 32 (q13.1 4)) 33 v19) 34 v19
        (gsel v19 true
          ((C 29 [t21 4] q13.2.1 (q13.2.2 + 13)).bind fun q22 =>
           (binK .plain .neq q22.1 (t21 3)).bind fun v23 =>
           some (put (put (put (put (put t21 35 (t21 4)) 36 q22.1) 37 (t21 3)) 38 v23) 39 v23, q22.2.1, q22.2.2))
          (some (put (put (put (put (put t21 35 (.tuple #[])) 36 (.tuple #[])) 37 (.tuple #[])) 38 (.tuple #[])) 39 (.tuple #[]), q13.2.1, q13.2.2 + 13))
        ).bind fun (q20 : R3) =>
        let t25 : Tm := q20.1
        (gsel (q20.1 39) false
          ((C 31 [t25 4] q20.2.1 (q20.2.2)).bind fun q26 =>
           (binK .plain .lss q26.1 (.int .i64 0)).bind fun v27 =>
           some (put (put (put t25 40 (t25 4)) 41 q26.1) 42 v27, q26.2.1, q26.2.2))
          (some (put (put (put t25 40 (.tuple #[])) 41 (.tuple #[])) 42 (.tuple #[]), q20.2.1, q20.2.2))
        ).bind fun (q24 : R3) =>
        let t29 : Tm := q24.1
        (gsel (q24.1 34) true
          ((pickV (t29 39) (.bool true) (t29 42)).bind fun v30 =>
           some (put t29 43 v30, q24.2.1, q24.2.2))
          (some (put t29 43 (.tuple #[]), q24.2.1, q24.2.2))
        ).bind fun (q28 : R3) =>
        (pickV (q28.1 34) (q28.1 43) (.bool false)).bind fun v31 =>
        csel v31
          (some (.bool false, q28.2.1, q28.2.2 + 1))
          ((binK .plain .geq (q28.1 5) (.int .i64 1)).bind fun v32 =>
           let t34 : Tm := put (put (put (put q28.1 44 v31) 45 (q28.1 5)) 46 v32) 47 v32
           (gsel v32 true
             ((binK .plain .leq (t34 5) (.int .i64 19)).bind fun v35 =>
              some (put (put t34 48 (t34 5)) 49 v35, q28.2.1, q28.2.2 + 30))
             (some (put (put t34 48 (.tuple #[])) 49 (.tuple #[]), q28.2.1, q28.2.2 + 30))
           ).bind fun (q33 : R3) =>
           (pickV (q33.1 47) (q33.1 49) (.bool false)).bind fun v36 =>
           (C 29 [q33.1 5] q33.2.1 (q33.2.2)).bind fun q37 =>
           (binK .plain .neq q37.1 (.string ⟨#[]⟩)).bind fun v38 =>
           (binK .bool .eql v36 v38).bind fun v39 =>
           let t41 : Tm := put (put (put (put (put (put q33.1 50 v36) 51 (q33.1 5)) 52 q37.1) 53 v38) 54 v39) 55 v39
           (gsel v39 true
             ((C 29 [t41 5] q37.2.1 (q37.2.2)).bind fun q42 =>
              (binK .plain .eql q42.1 (.string ⟨#[]⟩)).bind fun v43 =>
              some (put (put (put (put t41 56 (t41 5)) 57 q42.1) 58 v43) 59 v43, q42.2.1, q42.2.2))
             (some (put (put (put (put t41 56 (.tuple #[])) 57 (.tuple #[])) 58 (.tuple #[])) 59 (.tuple #[]), q37.2.1, q37.2.2))
           ).bind fun (q40 : R3) =>
           let t45 : Tm := q40.1
           (gsel (q40.1 59) false
             ((C 29 [t45 5] q40.2.1 (q40.2.2)).bind fun q46 =>
              (C 26 [q46.1] q46.2.1 (q46.2.2)).bind fun q47 =>
              (binK .plain .eql q47.1 (t45 5)).bind fun v48 =>
              some (put (put (put (put (put t45 60 (t45 5)) 61 q46.1) 62 q47.1) 63 (t45 5)) 64 v48, q47.2.1, q47.2.2))
             (some (put (put (put (put (put t45 60 (.tuple #[])) 61 (.tuple #[])) 62 (.tuple #[])) 63 (.tuple #[])) 64 (.tuple #[]), q40.2.1, q40.2.2))
           ).bind fun (q44 : R3) =>
           let t50 : Tm := q44.1
           (gsel (q44.1 55) true
             ((pickV (t50 59) (.bool true) (t50 64)).bind fun v51 =>
              some (put t50 65 v51, q44.2.1, q44.2.2))
             (some (put t50 65 (.tuple #[]), q44.2.1, q44.2.2))
           ).bind fun (q49 : R3) =>
           (pickV (q49.1 55) (q49.1 65) (.bool false)).bind fun v52 =>
           let t54 : Tm := put (put q49.1 66 v52) 67 v52
           (gsel v52 true
             ((C 33 [t54 3] q49.2.1 (q49.2.2)).bind fun q55 =>
              (C 34 [t54 3] q55.2.1 (q55.2.2)).bind fun q56 =>
              (binK .bool .eql q55.1 q56.1).bind fun v57 =>
              some (put (put (put (put (put t54 68 (t54 3)) 69 q55.1) 70 (t54 3)) 71 q56.1) 72 v57, q56.2.1, q56.2.2))
             (some (put (put (put (put (put t54 68 (.tuple #[])) 69 (.tuple #[])) 70 (.tuple #[])) 71 (.tuple #[])) 72 (.tuple #[]), q49.2.1, q49.2.2))
           ).bind fun (q53 : R3) =>
           (pickV (q53.1 67) (q53.1 72) (.bool false)).bind fun v58 =>
           some (v58, q53.2.1, q53.2.2))))
theorem s8 (C : Calling) (L : Body → Body) (t : Tm) (H : Hp) (n : Nat) : bodyK Try.prog C L Try.f8 t H n = S8 C L t H n := by kernel_rfl
theorem c8 (args : List Value) (H : Hp) (n : Nat) : Call Try.prog 8 args H n = S8 (Call Try.prog) Loop (argsT args) H n := (Call_body Try.func8 args H n).trans (s8 ..)
/-! 9: spec.PutNum -/
noncomputable def S9L0 (C : Calling) (L : Body → Body) : Body := fun t H n =>
  (binK .plain .gtr (t 0) (.int .i64 127)).bind fun v4 =>
  csel v4
    ((binK .plain .rem (t 0) (.int .i64 128)).bind fun v5 =>
     (binK .plain .add v5 (.int .i64 128)).bind fun v6 =>
     (conv (.toInt .u8) (n + 6) v6 H).bind fun p7 =>
     (bsl (n + 7) 1 1 [.int .u8 0] [(0, 1, p7.1)] p7.2).bind fun p8 =>
     (app (n + 8) 1 1 (t 3) p8.1 p8.2).bind fun p9 =>
     (binK .plain .quo (t 0) (.int .i64 128)).bind fun v10 =>
     some ⟨.normal, put (put (put (put (put (put (put (put (put (put (put (put (put t 8 (t 0)) 9 v4) 10 (t 3)) 11 (t 0)) 12 v5) 13 v6) 14 p7.1) 15 p8.1) 16 p9.1) 3 p9.1) 17 (t 0)) 18 v10) 0 v10, p9.2, n + 13⟩)
    (some ⟨(.exit 0), put (put t 8 (t 0)) 9 v4, H, n + 2⟩)
noncomputable def S9 (C : Calling) (L : Body → Body) (t : Tm) (H : Hp) (n : Nat) : Option (Value × Hp × Nat) :=
  (bsl (n + 1) 1 0 [.int .u8 0] [] H).bind fun p1 =>
  (binK .plain .lss (t 0) (.int .i64 0)).bind fun v2 =>
  csel v2
    (some (p1.1, p1.2, n + 7))
    ((L (S9L0 C L) (put (put (put (put (put t 2 nilS) 4 p1.1) 3 p1.1) 5 (t 0)) 6 v2) p1.2 (n + 5)).bind fun (o3 : Out) =>
     (conv (.toInt .u8) (o3.n + 2) (o3.t 0) o3.H).bind fun p11 =>
     (bsl (o3.n + 3) 1 1 [.int .u8 0] [(0, 1, p11.1)] p11.2).bind fun p12 =>
     (app (o3.n + 4) 1 1 (o3.t 3) p12.1 p12.2).bind fun p13 =>
     some (p13.1, p13.2, o3.n + 6))
theorem s9 (C : Calling) (L : Body → Body) (t : Tm) (H : Hp) (n : Nat) : bodyK Try.prog C L Try.f9 t H n = S9 C L t H n := by kernel_rfl
theorem c9 (args : List Value) (H : Hp) (n : Nat) : Call Try.prog 9 args H n = S9 (Call Try.prog) Loop (argsT args) H n := (Call_body Try.func9 args H n).trans (s9 ..)
/-! 10: impl.PutNum -/
noncomputable def S10L0 (C : Calling) (L : Body → Body) : Body := fun t H n =>
  (binK .plain .gtr (t 0) (.int .i64 127)).bind fun v4 =>
  csel v4
    ((binK .plain .rem (t 0) (.int .i64 128)).bind fun v5 =>
     (binK .plain .add v5 (.int .i64 128)).bind fun v6 =>
     (conv (.toInt .u8) (n + 6) v6 H).bind fun p7 =>
     (bsl (n + 7) 1 1 [.int .u8 0] [(0, 1, p7.1)] p7.2).bind fun p8 =>
     (app (n + 8) 1 1 (t 3) p8.1 p8.2).bind fun p9 =>
     (binK .plain .quo (t 0) (.int .i64 128)).bind fun v10 =>
     some ⟨.normal, put (put (put (put (put (put (put (put (put (put (put (put (put t 7 (t 0)) 8 v4) 9 (t 3)) 10 (t 0)) 11 v5) 12 v6) 13 p7.1) 14 p8.1) 15 p9.1) 3 p9.1) 16 (t 0)) 17 v10) 0 v10, p9.2, n + 13⟩)
    (some ⟨(.exit 0), put (put t 7 (t 0)) 8 v4, H, n + 2⟩)
noncomputable def S10 (C : Calling) (L : Body → Body) (t : Tm) (H : Hp) (n : Nat) : Option (Value × Hp × Nat) :=
  (binK .plain .lss (t 0) (.int .i64 0)).bind fun v1 =>
  csel v1
    (some (nilS, H, n + 4))
    ((bsl (n + 3) 1 0 [.int .u8 0] [] H).bind fun p2 =>
     (L (S10L0 C L) (put (put (put (put (put t 2 nilS) 4 (t 0)) 5 v1) 6 p2.1) 3 p2.1) p2.2 (n + 5)).bind fun (o3 : Out) =>
     (conv (.toInt .u8) (o3.n + 2) (o3.t 0) o3.H).bind fun p11 =>
     (bsl (o3.n + 3) 1 1 [.int .u8 0] [(0, 1, p11.1)] p11.2).bind fun p12 =>
     (app (o3.n + 4) 1 1 (o3.t 3) p12.1 p12.2).bind fun p13 =>
     some (p13.1, p13.2, o3.n + 6))
theorem s10 (C : Calling) (L : Body → Body) (t : Tm) (H : Hp) (n : Nat) : bodyK Try.prog C L Try.f10 t H n = S10 C L t H n := by kernel_rfl
theorem c10 (args : List Value) (H : Hp) (n : Nat) : Call Try.prog 10 args H n = S10 (Call Try.prog) Loop (argsT args) H n := (Call_body Try.func10 args H n).trans (s10 ..)
/-! 11: laws.eqByteS -/
noncomputable def S11L0 (C : Calling) (L : Body → Body) : Body := fun t H n =>
  (lenV false (t 0)).bind fun v5 =>
  (binK .plain .lss (t 5) v5).bind fun v6 =>
  csel v6
    ((idxA 1 (t 0) (t 5)).bind fun v7 =>
     (ld false 1 v7 H).bind fun v8 =>
     (idxA 1 (t 1) (t 5)).bind fun v9 =>
     (ld false 1 v9 H).bind fun v10 =>
     (binK .plain .neq v8 v10).bind fun v11 =>
     csel v11
       (some ⟨.ret, put (put (put (put (put (put (put (put (put (put (put (put (put (put t 11 (t 5)) 12 (t 0)) 13 v5) 14 v6) 17 (t 0)) 18 (t 5)) 19 v7) 20 v8) 21 (t 1)) 22 (t 5)) 23 v9) 24 v10) 25 v11) 4 (.bool false), H, n + 14⟩)
       ((binK .plain .add (t 5) (.int .i64 1)).bind fun v12 =>
        some ⟨.normal, put (put (put (put (put (put (put (put (put (put (put (put (put (put (put (put t 11 (t 5)) 12 (t 0)) 13 v5) 14 v6) 17 (t 0)) 18 (t 5)) 19 v7) 20 v8) 21 (t 1)) 22 (t 5)) 23 v9) 24 v10) 25 v11) 15 (t 5)) 16 v12) 5 v12, H, n + 16⟩))
    (some ⟨(.exit 0), put (put (put (put t 11 (t 5)) 12 (t 0)) 13 v5) 14 v6, H, n + 4⟩)
noncomputable def S11 (C : Calling) (L : Body → Body) (t : Tm) (H : Hp) (n : Nat) : Option (Value × Hp × Nat) :=
  (lenV false (t 0)).bind fun v1 =>
  (lenV false (t 1)).bind fun v2 =>
  (binK .plain .neq v1 v2).bind fun v3 =>
  csel v3
    (some (.bool false, H, n + 7))
    ((L (S11L0 C L) (put (put (put (put (put (put (put t 4 (.bool false)) 6 (t 0)) 7 v1) 8 (t 1)) 9 v2) 10 v3) 5 (.int .i64 0)) H (n + 7)).bind fun (o4 : Out) =>
     let o13 := outOf 0 o4
     thenK o13
       (some (.bool true, o13.H, o13.n + 1))
       (finE o13.e
          (some (o13.t 4, o13.H, o13.n))))
theorem s11 (C : Calling) (L : Body → Body) (t : Tm) (H : Hp) (n : Nat) : bodyK Try.prog C L Try.f11 t H n = S11 C L t H n := by kernel_rfl
theorem c11 (args : List Value) (H : Hp) (n : Nat) : Call Try.prog 11 args H n = S11 (Call Try.prog) Loop (argsT args) H n := (Call_body Try.func11 args H n).trans (s11 ..)
/-! 12: laws.markByteS -/
noncomputable def S12L0 (C : Calling) (L : Body → Body) : Body := fun t H n =>
  (lenV false (t 0)).bind fun v2 =>
  (binK .plain .lss (t 5) v2).bind fun v3 =>
  csel v3
    ((conv (.toInt .u8) (n + 7) (t 1) H).bind fun p4 =>
     (idxA 1 (t 0) (t 5)).bind fun v5 =>
     (st false 1 v5 p4.1 p4.2).bind fun H6 =>
     (binK .plain .add (t 1) (.int .i64 1)).bind fun v7 =>
     (binK .plain .add (t 5) (.int .i64 1)).bind fun v8 =>
     some ⟨.normal, put (put (put (put (put (put (put (put (put (put (put (put (put (put (put t 6 (t 5)) 7 (t 0)) 8 v2) 9 v3) 12 (t 0)) 13 (t 5)) 14 (t 1)) 15 p4.1) 16 v5) 17 (t 1)) 18 v7) 1 v7) 10 (t 5)) 11 v8) 5 v8, H6, n + 16⟩)
    (some ⟨(.exit 0), put (put (put (put t 6 (t 5)) 7 (t 0)) 8 v2) 9 v3, H, n + 4⟩)
noncomputable def S12 (C : Calling) (L : Body → Body) (t : Tm) (H : Hp) (n : Nat) : Option (Value × Hp × Nat) :=
  (L (S12L0 C L) (put (put t 4 (.int .i64 0)) 5 (.int .i64 0)) H (n + 2)).bind fun (o1 : Out) =>
  some (o1.t 1, o1.H, o1.n + 2)
theorem s12 (C : Calling) (L : Body → Body) (t : Tm) (H : Hp) (n : Nat) : bodyK Try.prog C L Try.f12 t H n = S12 C L t H n := by kernel_rfl
theorem c12 (args : List Value) (H : Hp) (n : Nat) : Call Try.prog 12 args H n = S12 (Call Try.prog) Loop (argsT args) H n := (Call_body Try.func12 args H n).trans (s12 ..)
/-! 13: laws.heldByteS -/
noncomputable def S13L0 (C : Calling) (L : Body → Body) : Body := fun t H n =>
  (lenV false (t 0)).bind fun v2 =>
  (binK .plain .lss (t 5) v2).bind fun v3 =>
  csel v3
    ((idxA 1 (t 0) (t 5)).bind fun v4 =>
     (ld false 1 v4 H).bind fun v5 =>
     (conv (.toInt .u8) (n + 9) (t 1) H).bind fun p6 =>
     (binK .plain .neq v5 p6.1).bind fun v7 =>
     csel v7
       (some ⟨.ret, put (put (put (put (put (put (put (put (put (put (put (put t 6 (t 5)) 7 (t 0)) 8 v2) 9 v3) 12 (t 0)) 13 (t 5)) 14 v4) 15 v5) 16 (t 1)) 17 p6.1) 18 v7) 4 (.int .i64 (-1)), p6.2, n + 12⟩)
       ((binK .plain .add (t 1) (.int .i64 1)).bind fun v8 =>
        (binK .plain .add (t 5) (.int .i64 1)).bind fun v9 =>
        some ⟨.normal, put (put (put (put (put (put (put (put (put (put (put (put (put (put (put (put (put t 6 (t 5)) 7 (t 0)) 8 v2) 9 v3) 12 (t 0)) 13 (t 5)) 14 v4) 15 v5) 16 (t 1)) 17 p6.1) 18 v7) 19 (t 1)) 20 v8) 1 v8) 10 (t 5)) 11 v9) 5 v9, p6.2, n + 17⟩))
    (some ⟨(.exit 0), put (put (put (put t 6 (t 5)) 7 (t 0)) 8 v2) 9 v3, H, n + 4⟩)
noncomputable def S13 (C : Calling) (L : Body → Body) (t : Tm) (H : Hp) (n : Nat) : Option (Value × Hp × Nat) :=
  (L (S13L0 C L) (put (put t 4 (.int .i64 0)) 5 (.int .i64 0)) H (n + 2)).bind fun (o1 : Out) =>
  let o10 := outOf 0 o1
  thenK o10
    (some (o10.t 1, o10.H, o10.n + 2))
    (finE o10.e
       (some (o10.t 4, o10.H, o10.n)))
theorem s13 (C : Calling) (L : Body → Body) (t : Tm) (H : Hp) (n : Nat) : bodyK Try.prog C L Try.f13 t H n = S13 C L t H n := by kernel_rfl
theorem c13 (args : List Value) (H : Hp) (n : Nat) : Call Try.prog 13 args H n = S13 (Call Try.prog) Loop (argsT args) H n := (Call_body Try.func13 args H n).trans (s13 ..)
/-! 14: spec.PutText -/
noncomputable def S14 (C : Calling) (L : Body → Body) (t : Tm) (H : Hp) (n : Nat) : Option (Value × Hp × Nat) :=
  (lenV true (t 0)).bind fun v1 =>
  (C 9 [v1] H (n + 8)).bind fun q2 =>
  (conv .strToBytes (n + 5) (t 0) q2.2.1).bind fun p3 =>
  (app (n + 6) 1 1 q2.1 p3.1 p3.2).bind fun p4 =>
  some (p4.1, p4.2, q2.2.2)
theorem s14 (C : Calling) (L : Body → Body) (t : Tm) (H : Hp) (n : Nat) : bodyK Try.prog C L Try.f14 t H n = S14 C L t H n := by kernel_rfl
theorem c14 (args : List Value) (H : Hp) (n : Nat) : Call Try.prog 14 args H n = S14 (Call Try.prog) Loop (argsT args) H n := (Call_body Try.func14 args H n).trans (s14 ..)
/-! 15: impl.PutText -/
noncomputable def S15 (C : Calling) (L : Body → Body) (t : Tm) (H : Hp) (n : Nat) : Option (Value × Hp × Nat) :=
  (lenV true (t 0)).bind fun v1 =>
  (C 10 [v1] H (n + 7)).bind fun q2 =>
  (app (n + 5) 1 1 q2.1 (t 0) q2.2.1).bind fun p3 =>
  some (p3.1, p3.2, q2.2.2)
theorem s15 (C : Calling) (L : Body → Body) (t : Tm) (H : Hp) (n : Nat) : bodyK Try.prog C L Try.f15 t H n = S15 C L t H n := by kernel_rfl
theorem c15 (args : List Value) (H : Hp) (n : Nat) : Call Try.prog 15 args H n = S15 (Call Try.prog) Loop (argsT args) H n := (Call_body Try.func15 args H n).trans (s15 ..)
/-! 16: spec.GetNum -/
noncomputable def S16L0 (C : Calling) (L : Body → Body) : Body := fun t H n =>
  (binK .plain .lss (t 9) (.int .i64 9)).bind fun v8 =>
  let t10 : Tm := put (put (put t 19 (t 9)) 20 v8) 21 v8
  (gsel v8 true
    ((binK .plain .add (t10 1) (t10 9)).bind fun v11 =>
     (lenV false (t10 0)).bind fun v12 =>
     (binK .plain .lss v11 v12).bind fun v13 =>
     some (put (put (put (put (put (put t10 22 (t10 1)) 23 (t10 9)) 24 v11) 25 (t10 0)) 26 v12) 27 v13, H, n + 10))
    (some (put (put (put (put (put (put t10 22 (.tuple #[])) 23 (.tuple #[])) 24 (.tuple #[])) 25 (.tuple #[])) 26 (.tuple #[])) 27 (.tuple #[]), H, n + 10))
  ).bind fun (q9 : R3) =>
  (pickV (q9.1 21) (q9.1 27) (.bool false)).bind fun v14 =>
  csel v14
    ((binK .plain .add (q9.1 1) (q9.1 9)).bind fun v15 =>
     (idxA 1 (q9.1 0) v15).bind fun v16 =>
     (ld false 1 v16 q9.2.1).bind fun v17 =>
     (conv (.toInt .i64) (q9.2.2 + 6) v17 q9.2.1).bind fun p18 =>
     (binK .plain .rem p18.1 (.int .i64 128)).bind fun v19 =>
     (binK .plain .mul v19 (q9.1 8)).bind fun v20 =>
     (binK .plain .add (q9.1 7) v20).bind fun v21 =>
     (binK .plain .lss p18.1 (.int .i64 128)).bind fun v22 =>
     csel v22
       ((binK .plain .eql p18.1 (.int .i64 0)).bind fun v23 =>
        let t25 : Tm := put (put (put (put (put (put (put (put (put (put (put (put (put (put (put (put (put (put (put (put (put q9.1 28 v14) 31 (q9.1 0)) 32 (q9.1 1)) 33 (q9.1 9)) 34 v15) 35 v16) 36 v17) 37 p18.1) 10 p18.1) 38 (q9.1 7)) 39 p18.1) 40 v19) 41 (q9.1 8)) 42 v20) 43 v21) 7 v21) 44 p18.1) 45 v22) 46 p18.1) 47 v23) 48 v23
        (gsel v23 true
          ((binK .plain .gtr (t25 9) (.int .i64 0)).bind fun v26 =>
           some (put (put t25 49 (t25 9)) 50 v26, p18.2, q9.2.2 + 23))
          (some (put (put t25 49 (.tuple #[])) 50 (.tuple #[]), p18.2, q9.2.2 + 23))
        ).bind fun (q24 : R3) =>
        (pickV (q24.1 48) (q24.1 50) (.bool false)).bind fun v27 =>
        csel v27
          (some ⟨.ret, put (put (put (put q24.1 51 v27) 4 (.int .i64 0)) 5 (.int .i64 0)) 6 (.bool false), q24.2.1, q24.2.2 + 3⟩)
          ((binK .plain .add (q24.1 1) (q24.1 9)).bind fun v28 =>
           (binK .plain .add v28 (.int .i64 1)).bind fun v29 =>
           some ⟨.ret, put (put (put (put (put (put (put (put (put q24.1 51 v27) 52 (q24.1 7)) 53 (q24.1 1)) 54 (q24.1 9)) 55 v28) 56 v29) 4 (q24.1 7)) 5 v29) 6 (.bool true), q24.2.1, q24.2.2 + 8⟩))
       ((binK .plain .mul (q9.1 8) (.int .i64 128)).bind fun v30 =>
        (binK .plain .add (q9.1 9) (.int .i64 1)).bind fun v31 =>
        some ⟨.normal, put (put (put (put (put (put (put (put (put (put (put (put (put (put (put (put (put (put (put (put (put (put (put (put q9.1 28 v14) 31 (q9.1 0)) 32 (q9.1 1)) 33 (q9.1 9)) 34 v15) 35 v16) 36 v17) 37 p18.1) 10 p18.1) 38 (q9.1 7)) 39 p18.1) 40 v19) 41 (q9.1 8)) 42 v20) 43 v21) 7 v21) 44 p18.1) 45 v22) 57 (q9.1 8)) 58 v30) 8 v30) 29 (q9.1 9)) 30 v31) 9 v31, p18.2, q9.2.2 + 23⟩))
    (some ⟨(.exit 0), put q9.1 28 v14, q9.2.1, q9.2.2⟩)
noncomputable def S16 (C : Calling) (L : Body → Body) (t : Tm) (H : Hp) (n : Nat) : Option (Value × Hp × Nat) :=
  (binK .plain .lss (t 1) (.int .i64 0)).bind fun v1 =>
  let t3 : Tm := put (put (put (put (put (put t 4 (.int .i64 0)) 5 (.int .i64 0)) 6 (.bool false)) 11 (t 1)) 12 v1) 13 v1
  (gsel v1 false
    ((lenV false (t3 0)).bind fun v4 =>
     (binK .plain .geq (t3 1) v4).bind fun v5 =>
     some (put (put (put (put t3 14 (t3 1)) 15 (t3 0)) 16 v4) 17 v5, H, n + 11))
    (some (put (put (put (put t3 14 (.tuple #[])) 15 (.tuple #[])) 16 (.tuple #[])) 17 (.tuple #[]), H, n + 11))
  ).bind fun (q2 : R3) =>
  (pickV (q2.1 13) (.bool true) (q2.1 17)).bind fun v6 =>
  csel v6
    (iteK ([.int .i64 0, .int .i64 0, .bool false].all notTup) <|
     some (.tuple ⟨[.int .i64 0, .int .i64 0, .bool false]⟩, q2.2.1, q2.2.2 + 3))
    ((L (S16L0 C L) (put (put (put (put q2.1 18 v6) 7 (.int .i64 0)) 8 (.int .i64 1)) 9 (.int .i64 0)) q2.2.1 (q2.2.2 + 3)).bind fun (o7 : Out) =>
     let o32 := outOf 0 o7
     thenK o32
       (iteK ([.int .i64 0, .int .i64 0, .bool false].all notTup) <|
        some (.tuple ⟨[.int .i64 0, .int .i64 0, .bool false]⟩, o32.H, o32.n + 3))
       (finE o32.e
          (iteK ([o32.t 4, o32.t 5, o32.t 6].all notTup) <|
           some (.tuple ⟨[o32.t 4, o32.t 5, o32.t 6]⟩, o32.H, o32.n))))
theorem s16 (C : Calling) (L : Body → Body) (t : Tm) (H : Hp) (n : Nat) : bodyK Try.prog C L Try.f16 t H n = S16 C L t H n := by kernel_rfl
theorem c16 (args : List Value) (H : Hp) (n : Nat) : Call Try.prog 16 args H n = S16 (Call Try.prog) Loop (argsT args) H n := (Call_body Try.func16 args H n).trans (s16 ..)
/-! 17: laws.toByteS -/
noncomputable def S17L0 (C : Calling) (L : Body → Body) : Body := fun t H n =>
  (lenV false (t 0)).bind fun v4 =>
  (binK .plain .lss (t 4) v4).bind fun v5 =>
  csel v5
    ((idxA 1 (t 0) (t 4)).bind fun v6 =>
     (ld false 1 v6 H).bind fun v7 =>
     (idxA 1 (t 3) (t 4)).bind fun v8 =>
     (st false 1 v8 v7 H).bind fun H9 =>
     (binK .plain .add (t 4) (.int .i64 1)).bind fun v10 =>
     some ⟨.normal, put (put (put (put (put (put (put (put (put (put (put (put (put (put t 8 (t 4)) 9 (t 0)) 10 v4) 11 v5) 14 (t 3)) 15 (t 4)) 16 (t 0)) 17 (t 4)) 18 v6) 19 v7) 20 v8) 12 (t 4)) 13 v10) 4 v10, H9, n + 15⟩)
    (some ⟨(.exit 0), put (put (put (put t 8 (t 4)) 9 (t 0)) 10 v4) 11 v5, H, n + 4⟩)
noncomputable def S17 (C : Calling) (L : Body → Body) (t : Tm) (H : Hp) (n : Nat) : Option (Value × Hp × Nat) :=
  (lenV false (t 0)).bind fun v1 =>
  (mks (n + 3) 1 1 [.int .u8 0] v1 v1 H).bind fun p2 =>
  (L (S17L0 C L) (put (put (put (put (put (put t 2 nilS) 5 (t 0)) 6 v1) 7 p2.1) 3 p2.1) 4 (.int .i64 0)) p2.2 (n + 6)).bind fun (o3 : Out) =>
  some (o3.t 3, o3.H, o3.n + 2)
theorem s17 (C : Calling) (L : Body → Body) (t : Tm) (H : Hp) (n : Nat) : bodyK Try.prog C L Try.f17 t H n = S17 C L t H n := by kernel_rfl
theorem c17 (args : List Value) (H : Hp) (n : Nat) : Call Try.prog 17 args H n = S17 (Call Try.prog) Loop (argsT args) H n := (Call_body Try.func17 args H n).trans (s17 ..)
/-! 18: impl.GetNum -/
noncomputable def S18L0 (C : Calling) (L : Body → Body) : Body := fun t H n =>
  (binK .plain .lss (t 8) (.int .i64 9)).bind fun v6 =>
  let t8 : Tm := put (put (put t 16 (t 8)) 17 v6) 18 v6
  (gsel v6 true
    ((binK .plain .add (t8 1) (t8 8)).bind fun v9 =>
     (lenV false (t8 0)).bind fun v10 =>
     (binK .plain .lss v9 v10).bind fun v11 =>
     some (put (put (put (put (put (put t8 19 (t8 1)) 20 (t8 8)) 21 v9) 22 (t8 0)) 23 v10) 24 v11, H, n + 10))
    (some (put (put (put (put (put (put t8 19 (.tuple #[])) 20 (.tuple #[])) 21 (.tuple #[])) 22 (.tuple #[])) 23 (.tuple #[])) 24 (.tuple #[]), H, n + 10))
  ).bind fun (q7 : R3) =>
  (pickV (q7.1 18) (q7.1 24) (.bool false)).bind fun v12 =>
  csel v12
    ((binK .plain .add (q7.1 1) (q7.1 8)).bind fun v13 =>
     (idxA 1 (q7.1 0) v13).bind fun v14 =>
     (ld false 1 v14 q7.2.1).bind fun v15 =>
     (binK .plain .rem v15 (.int .u8 128)).bind fun v16 =>
     (conv (.toInt .i64) (q7.2.2 + 10) v16 q7.2.1).bind fun p17 =>
     (binK .plain .mul (.int .i64 7) (q7.1 8)).bind fun v18 =>
     (binK .plain .shl p17.1 v18).bind fun v19 =>
     (binK .plain .or (q7.1 7) v19).bind fun v20 =>
     (binK .plain .lss v15 (.int .u8 128)).bind fun v21 =>
     csel v21
       ((binK .plain .eql v15 (.int .u8 0)).bind fun v22 =>
        let t24 : Tm := put (put (put (put (put (put (put (put (put (put (put (put (put (put (put (put (put (put (put (put (put (put q7.1 25 v12) 28 (q7.1 0)) 29 (q7.1 1)) 30 (q7.1 8)) 31 v13) 32 v14) 33 v15) 9 v15) 34 (q7.1 7)) 35 v15) 36 v16) 37 p17.1) 38 (q7.1 8)) 39 v18) 40 v19) 41 v20) 7 v20) 42 v15) 43 v21) 44 v15) 45 v22) 46 v22
        (gsel v22 true
          ((binK .plain .gtr (t24 8) (.int .i64 0)).bind fun v25 =>
           some (put (put t24 47 (t24 8)) 48 v25, p17.2, q7.2.2 + 24))
          (some (put (put t24 47 (.tuple #[])) 48 (.tuple #[]), p17.2, q7.2.2 + 24))
        ).bind fun (q23 : R3) =>
        (pickV (q23.1 46) (q23.1 48) (.bool false)).bind fun v26 =>
        csel v26
          (some ⟨.ret, put (put (put (put q23.1 49 v26) 4 (.int .i64 0)) 5 (.int .i64 0)) 6 (.bool false), q23.2.1, q23.2.2 + 3⟩)
          ((binK .plain .add (q23.1 1) (q23.1 8)).bind fun v27 =>
           (binK .plain .add v27 (.int .i64 1)).bind fun v28 =>
           some ⟨.ret, put (put (put (put (put (put (put (put (put q23.1 49 v26) 50 (q23.1 7)) 51 (q23.1 1)) 52 (q23.1 8)) 53 v27) 54 v28) 4 (q23.1 7)) 5 v28) 6 (.bool true), q23.2.1, q23.2.2 + 8⟩))
       ((binK .plain .add (q7.1 8) (.int .i64 1)).bind fun v29 =>
        some ⟨.normal, put (put (put (put (put (put (put (put (put (put (put (put (put (put (put (put (put (put (put (put (put (put q7.1 25 v12) 28 (q7.1 0)) 29 (q7.1 1)) 30 (q7.1 8)) 31 v13) 32 v14) 33 v15) 9 v15) 34 (q7.1 7)) 35 v15) 36 v16) 37 p17.1) 38 (q7.1 8)) 39 v18) 40 v19) 41 v20) 7 v20) 42 v15) 43 v21) 26 (q7.1 8)) 27 v29) 8 v29, p17.2, q7.2.2 + 21⟩))
    (some ⟨(.exit 0), put q7.1 25 v12, q7.2.1, q7.2.2⟩)
noncomputable def S18 (C : Calling) (L : Body → Body) (t : Tm) (H : Hp) (n : Nat) : Option (Value × Hp × Nat) :=
  (lenV false (t 0)).bind fun v1 =>
  (binK .plain .sub v1 (.int .i64 1)).bind fun v2 =>
  (C 35 [t 1, .int .i64 0, v2] H (n + 9)).bind fun q3 =>
  (un .not q3.1).bind fun v4 =>
  csel v4
    (iteK ([.int .i64 0, .int .i64 0, .bool false].all notTup) <|
     some (.tuple ⟨[.int .i64 0, .int .i64 0, .bool false]⟩, q3.2.1, q3.2.2 + 3))
    ((L (S18L0 C L) (put (put (put (put (put (put (put (put (put (put (put t 4 (.int .i64 0)) 5 (.int .i64 0)) 6 (.bool false)) 10 (t 1)) 11 (t 0)) 12 v1) 13 v2) 14 q3.1) 15 v4) 7 (.int .i64 0)) 8 (.int .i64 0)) q3.2.1 (q3.2.2 + 2)).bind fun (o5 : Out) =>
     let o30 := outOf 0 o5
     thenK o30
       (iteK ([.int .i64 0, .int .i64 0, .bool false].all notTup) <|
        some (.tuple ⟨[.int .i64 0, .int .i64 0, .bool false]⟩, o30.H, o30.n + 3))
       (finE o30.e
          (iteK ([o30.t 4, o30.t 5, o30.t 6].all notTup) <|
           some (.tuple ⟨[o30.t 4, o30.t 5, o30.t 6]⟩, o30.H, o30.n))))
theorem s18 (C : Calling) (L : Body → Body) (t : Tm) (H : Hp) (n : Nat) : bodyK Try.prog C L Try.f18 t H n = S18 C L t H n := by kernel_rfl
theorem c18 (args : List Value) (H : Hp) (n : Nat) : Call Try.prog 18 args H n = S18 (Call Try.prog) Loop (argsT args) H n := (Call_body Try.func18 args H n).trans (s18 ..)
/-! 19: spec.GetText -/
noncomputable def S19 (C : Calling) (L : Body → Body) (t : Tm) (H : Hp) (n : Nat) : Option (Value × Hp × Nat) :=
  (C 16 [t 0, t 1] H (n + 13)).bind fun q1 =>
  (ext 0 q1.1).bind fun v2 =>
  (ext 1 q1.1).bind fun v3 =>
  (ext 2 q1.1).bind fun v4 =>
  (un .not v4).bind fun v5 =>
  let t7 : Tm := put (put (put (put (put (put (put (put (put (put (put (put (put (put (put (put t 4 (.string ⟨#[]⟩)) 5 (.int .i64 0)) 6 (.bool false)) 11 (t 0)) 12 (t 1)) 13 q1.1) 10 q1.1) 14 v2) 15 v3) 16 v4) 7 v2) 8 v3) 9 v4) 17 v4) 18 v5) 19 v5
  (gsel v5 false
    ((lenV false (t7 0)).bind fun v8 =>
     (binK .plain .sub v8 v3).bind fun v9 =>
     (binK .plain .gtr v2 v9).bind fun v10 =>
     some (put (put (put (put (put (put t7 20 v2) 21 (t7 0)) 22 v8) 23 v3) 24 v9) 25 v10, q1.2.1, q1.2.2 + 10))
    (some (put (put (put (put (put (put t7 20 (.tuple #[])) 21 (.tuple #[])) 22 (.tuple #[])) 23 (.tuple #[])) 24 (.tuple #[])) 25 (.tuple #[]), q1.2.1, q1.2.2 + 10))
  ).bind fun (q6 : R3) =>
  (pickV (q6.1 19) (.bool true) (q6.1 25)).bind fun v11 =>
  csel v11
    (iteK ([.string ⟨#[]⟩, .int .i64 0, .bool false].all notTup) <|
     some (.tuple ⟨[.string ⟨#[]⟩, .int .i64 0, .bool false]⟩, q6.2.1, q6.2.2 + 3))
    ((binK .plain .add (q6.1 8) (q6.1 7)).bind fun v12 =>
     (sliceV 1 (q6.1 0) (some (q6.1 8)) (some v12)).bind fun v13 =>
     (conv .bytesToStr (q6.2.2 + 6) v13 q6.2.1).bind fun p14 =>
     (binK .plain .add (q6.1 8) (q6.1 7)).bind fun v15 =>
     iteK ([p14.1, v15, .bool true].all notTup) <|
     some (.tuple ⟨[p14.1, v15, .bool true]⟩, p14.2, q6.2.2 + 13))
theorem s19 (C : Calling) (L : Body → Body) (t : Tm) (H : Hp) (n : Nat) : bodyK Try.prog C L Try.f19 t H n = S19 C L t H n := by kernel_rfl
theorem c19 (args : List Value) (H : Hp) (n : Nat) : Call Try.prog 19 args H n = S19 (Call Try.prog) Loop (argsT args) H n := (Call_body Try.func19 args H n).trans (s19 ..)
/-! 20: impl.GetText -/
noncomputable def S20 (C : Calling) (L : Body → Body) (t : Tm) (H : Hp) (n : Nat) : Option (Value × Hp × Nat) :=
  (C 18 [t 0, t 1] H (n + 13)).bind fun q1 =>
  (ext 0 q1.1).bind fun v2 =>
  (ext 1 q1.1).bind fun v3 =>
  (ext 2 q1.1).bind fun v4 =>
  (un .not v4).bind fun v5 =>
  let t7 : Tm := put (put (put (put (put (put (put (put (put (put (put (put (put (put (put (put t 4 (.string ⟨#[]⟩)) 5 (.int .i64 0)) 6 (.bool false)) 11 (t 0)) 12 (t 1)) 13 q1.1) 10 q1.1) 14 v2) 15 v3) 16 v4) 7 v2) 8 v3) 9 v4) 17 v4) 18 v5) 19 v5
  (gsel v5 false
    ((lenV false (t7 0)).bind fun v8 =>
     (binK .plain .sub v8 v3).bind fun v9 =>
     (binK .plain .gtr v2 v9).bind fun v10 =>
     some (put (put (put (put (put (put t7 20 v2) 21 (t7 0)) 22 v8) 23 v3) 24 v9) 25 v10, q1.2.1, q1.2.2 + 10))
    (some (put (put (put (put (put (put t7 20 (.tuple #[])) 21 (.tuple #[])) 22 (.tuple #[])) 23 (.tuple #[])) 24 (.tuple #[])) 25 (.tuple #[]), q1.2.1, q1.2.2 + 10))
  ).bind fun (q6 : R3) =>
  (pickV (q6.1 19) (.bool true) (q6.1 25)).bind fun v11 =>
  csel v11
    (iteK ([.string ⟨#[]⟩, .int .i64 0, .bool false].all notTup) <|
     some (.tuple ⟨[.string ⟨#[]⟩, .int .i64 0, .bool false]⟩, q6.2.1, q6.2.2 + 3))
    ((binK .plain .add (q6.1 8) (q6.1 7)).bind fun v12 =>
     (sliceV 1 (q6.1 0) (some (q6.1 8)) (some v12)).bind fun v13 =>
     (conv .bytesToStr (q6.2.2 + 6) v13 q6.2.1).bind fun p14 =>
     (binK .plain .add (q6.1 8) (q6.1 7)).bind fun v15 =>
     iteK ([p14.1, v15, .bool true].all notTup) <|
     some (.tuple ⟨[p14.1, v15, .bool true]⟩, p14.2, q6.2.2 + 13))
theorem s20 (C : Calling) (L : Body → Body) (t : Tm) (H : Hp) (n : Nat) : bodyK Try.prog C L Try.f20 t H n = S20 C L t H n := by kernel_rfl
theorem c20 (args : List Value) (H : Hp) (n : Nat) : Call Try.prog 20 args H n = S20 (Call Try.prog) Loop (argsT args) H n := (Call_body Try.func20 args H n).trans (s20 ..)
/-! 21: laws.big -/
noncomputable def S21 (C : Calling) (L : Body → Body) (t : Tm) (H : Hp) (n : Nat) : Option (Value × Hp × Nat) :=
  (lenV false (t 0)).bind fun v1 =>
  (binK .plain .gtr v1 (.int .i64 1048576)).bind fun v2 =>
  some (v2, H, n + 5)
theorem s21 (C : Calling) (L : Body → Body) (t : Tm) (H : Hp) (n : Nat) : bodyK Try.prog C L Try.f21 t H n = S21 C L t H n := by kernel_rfl
theorem c21 (args : List Value) (H : Hp) (n : Nat) : Call Try.prog 21 args H n = S21 (Call Try.prog) Loop (argsT args) H n := (Call_body Try.func21 args H n).trans (s21 ..)
/-! 22: spec.DrawPutNum -/
noncomputable def S22 (C : Calling) (L : Body → Body) (t : Tm) (H : Hp) (n : Nat) : Option (Value × Hp × Nat) :=
  (C 36 [t 0] H (n + 4)).bind fun q1 =>
  (C 38 [q1.1, .int .i64 100000] q1.2.1 (q1.2.2 + 6)).bind fun q2 =>
  (bsl (q1.2.2 + 3) 1 9 [.int .i64 0] [(0, 1, .int .i64 0), (1, 1, .int .i64 1), (2, 1, .int .i64 127), (3, 1, .int .i64 128), (4, 1, .int .i64 16383), (5, 1, .int .i64 16384), (6, 1, .int .i64 (-1)), (7, 1, .int .i64 9223372036854775807), (8, 1, q2.1)] q2.2.1).bind fun p3 =>
  (C 37 [q1.1, p3.1] p3.2 (q2.2.2)).bind fun q4 =>
  some (q4.1, q4.2.1, q4.2.2)
theorem s22 (C : Calling) (L : Body → Body) (t : Tm) (H : Hp) (n : Nat) : bodyK Try.prog C L Try.f22 t H n = S22 C L t H n := by kernel_rfl
theorem c22 (args : List Value) (H : Hp) (n : Nat) : Call Try.prog 22 args H n = S22 (Call Try.prog) Loop (argsT args) H n := (Call_body Try.func22 args H n).trans (s22 ..)
/-! 23: laws.at -/
noncomputable def S23 (C : Calling) (L : Body → Body) (t : Tm) (H : Hp) (n : Nat) : Option (Value × Hp × Nat) :=
  (lenV false (t 0)).bind fun v1 =>
  (binK .plain .lss (t 1) v1).bind fun v2 =>
  csel v2
    ((idxA 1 (t 0) (t 1)).bind fun v3 =>
     (ld false 1 v3 H).bind fun v4 =>
     (conv (.toInt .i64) (n + 9) v4 H).bind fun p5 =>
     some (p5.1, p5.2, n + 11))
    ((binK .plain .mul (t 1) (.int .i64 7)).bind fun v6 =>
     (lenV false (t 0)).bind fun v7 =>
     (binK .plain .add v6 v7).bind fun v8 =>
     (binK .plain .rem v8 (.int .i64 256)).bind fun v9 =>
     some (v9, H, n + 12))
theorem s23 (C : Calling) (L : Body → Body) (t : Tm) (H : Hp) (n : Nat) : bodyK Try.prog C L Try.f23 t H n = S23 C L t H n := by kernel_rfl
theorem c23 (args : List Value) (H : Hp) (n : Nat) : Call Try.prog 23 args H n = S23 (Call Try.prog) Loop (argsT args) H n := (Call_body Try.func23 args H n).trans (s23 ..)
/-! 24: spec.DrawPutText -/
noncomputable def S24 (C : Calling) (L : Body → Body) (t : Tm) (H : Hp) (n : Nat) : Option (Value × Hp × Nat) :=
  (C 36 [t 0] H (n + 8)).bind fun q1 =>
  (C 40 [t 0, .int .i64 40] q1.2.1 (q1.2.2)).bind fun q2 =>
  (C 39 [q1.1, q2.1] q2.2.1 (q2.2.2)).bind fun q3 =>
  (conv .bytesToStr (n + 6) q3.1 q3.2.1).bind fun p4 =>
  some (p4.1, p4.2, q3.2.2)
theorem s24 (C : Calling) (L : Body → Body) (t : Tm) (H : Hp) (n : Nat) : bodyK Try.prog C L Try.f24 t H n = S24 C L t H n := by kernel_rfl
theorem c24 (args : List Value) (H : Hp) (n : Nat) : Call Try.prog 24 args H n = S24 (Call Try.prog) Loop (argsT args) H n := (Call_body Try.func24 args H n).trans (s24 ..)
/-! 25: spec.DrawPrimOf -/
noncomputable def S25 (C : Calling) (L : Body → Body) (t : Tm) (H : Hp) (n : Nat) : Option (Value × Hp × Nat) :=
  (C 36 [t 0] H (n + 4)).bind fun q1 =>
  (C 41 [q1.1, .int .i64 4] q1.2.1 (q1.2.2 + 2)).bind fun q2 =>
  csel q2.1
    ((bsl (q2.2.2 + 1) 1 4 [.string ⟨#[]⟩] [(0, 1, .string ⟨#[]⟩), (1, 1, .string ⟨#[120]⟩), (2, 1, .string ⟨#[67, 97, 114]⟩), (3, 1, .string ⟨#[108, 105, 115, 116]⟩)] q2.2.1).bind fun p3 =>
     (C 42 [q1.1, p3.1] p3.2 (q2.2.2 + 4)).bind fun q4 =>
     some (q4.1, q4.2.1, q4.2.2))
    ((C 43 [] q2.2.1 (q2.2.2 + 7)).bind fun q5 =>
     (C 38 [q1.1, .int .i64 19] q5.2.1 (q5.2.2)).bind fun q6 =>
     (binK .plain .add (.int .i64 1) q6.1).bind fun v7 =>
     (idxA 1 q5.1 v7).bind fun v8 =>
     (ld false 1 v8 q6.2.1).bind fun v9 =>
     some (v9, q6.2.1, q6.2.2))
theorem s25 (C : Calling) (L : Body → Body) (t : Tm) (H : Hp) (n : Nat) : bodyK Try.prog C L Try.f25 t H n = S25 C L t H n := by kernel_rfl
theorem c25 (args : List Value) (H : Hp) (n : Nat) : Call Try.prog 25 args H n = S25 (Call Try.prog) Loop (argsT args) H n := (Call_body Try.func25 args H n).trans (s25 ..)
/-! 26: impl.PrimOf -/
noncomputable def S26 (C : Calling) (L : Body → Body) (t : Tm) (H : Hp) (n : Nat) : Option (Value × Hp × Nat) :=
  (C 45 [] H (n + 6)).bind fun q1 =>
  (C 44 [q1.1, t 0] q1.2.1 (q1.2.2)).bind fun q2 =>
  (binK .plain .add q2.1 (.int .i64 1)).bind fun v3 =>
  some (v3, q2.2.1, q2.2.2)
theorem s26 (C : Calling) (L : Body → Body) (t : Tm) (H : Hp) (n : Nat) : bodyK Try.prog C L Try.f26 t H n = S26 C L t H n := by kernel_rfl
theorem c26 (args : List Value) (H : Hp) (n : Nat) : Call Try.prog 26 args H n = S26 (Call Try.prog) Loop (argsT args) H n := (Call_body Try.func26 args H n).trans (s26 ..)
/-! 27: spec.DrawPrimName -/
noncomputable def S27 (C : Calling) (L : Body → Body) (t : Tm) (H : Hp) (n : Nat) : Option (Value × Hp × Nat) :=
  (C 36 [t 0] H (n + 6)).bind fun q1 =>
  (C 38 [q1.1, .int .i64 22] q1.2.1 (q1.2.2)).bind fun q2 =>
  (binK .plain .sub q2.1 (.int .i64 1)).bind fun v3 =>
  some (v3, q2.2.1, q2.2.2)
theorem s27 (C : Calling) (L : Body → Body) (t : Tm) (H : Hp) (n : Nat) : bodyK Try.prog C L Try.f27 t H n = S27 C L t H n := by kernel_rfl
theorem c27 (args : List Value) (H : Hp) (n : Nat) : Call Try.prog 27 args H n = S27 (Call Try.prog) Loop (argsT args) H n := (Call_body Try.func27 args H n).trans (s27 ..)
/-! 28: spec.PrimOf -/
noncomputable def S28L0 (C : Calling) (L : Body → Body) : Body := fun t H n =>
  (binK .plain .leq (t 4) (.int .i64 19)).bind fun v3 =>
  csel v3
    ((idxA 1 (t 3) (t 4)).bind fun v4 =>
     (ld false 1 v4 H).bind fun v5 =>
     (binK .plain .eql v5 (t 0)).bind fun v6 =>
     csel v6
       (some ⟨.ret, put (put (put (put (put (put (put (put (put (put t 6 (t 4)) 7 v3) 10 (t 3)) 11 (t 4)) 12 v4) 13 v5) 14 (t 0)) 15 v6) 16 (t 4)) 2 (t 4), H, n + 10⟩)
       ((binK .plain .add (t 4) (.int .i64 1)).bind fun v7 =>
        some ⟨.normal, put (put (put (put (put (put (put (put (put (put (put t 6 (t 4)) 7 v3) 10 (t 3)) 11 (t 4)) 12 v4) 13 v5) 14 (t 0)) 15 v6) 8 (t 4)) 9 v7) 4 v7, H, n + 11⟩))
    (some ⟨(.exit 0), put (put t 6 (t 4)) 7 v3, H, n + 2⟩)
noncomputable def S28 (C : Calling) (L : Body → Body) (t : Tm) (H : Hp) (n : Nat) : Option (Value × Hp × Nat) :=
  (C 43 [] H (n + 3)).bind fun q1 =>
  (L (S28L0 C L) (put (put (put (put t 2 (.int .i64 0)) 5 q1.1) 3 q1.1) 4 (.int .i64 1)) q1.2.1 (q1.2.2 + 1)).bind fun (o2 : Out) =>
  let o8 := outOf 0 o2
  thenK o8
    (some (.int .i64 0, o8.H, o8.n + 1))
    (finE o8.e
       (some (o8.t 2, o8.H, o8.n)))
theorem s28 (C : Calling) (L : Body → Body) (t : Tm) (H : Hp) (n : Nat) : bodyK Try.prog C L Try.f28 t H n = S28 C L t H n := by kernel_rfl
theorem c28 (args : List Value) (H : Hp) (n : Nat) : Call Try.prog 28 args H n = S28 (Call Try.prog) Loop (argsT args) H n := (Call_body Try.func28 args H n).trans (s28 ..)
/-! 29: impl.PrimName -/
noncomputable def S29 (C : Calling) (L : Body → Body) (t : Tm) (H : Hp) (n : Nat) : Option (Value × Hp × Nat) :=
  (C 35 [t 0, .int .i64 1, .int .i64 19] H (n + 4)).bind fun q1 =>
  (un .not q1.1).bind fun v2 =>
  csel v2
    (some (.string ⟨#[]⟩, q1.2.1, q1.2.2 + 1))
    ((C 45 [] q1.2.1 (q1.2.2 + 6)).bind fun q3 =>
     (binK .plain .sub (t 0) (.int .i64 1)).bind fun v4 =>
     (idxA 1 q3.1 v4).bind fun v5 =>
     (ld false 1 v5 q3.2.1).bind fun v6 =>
     some (v6, q3.2.1, q3.2.2))
theorem s29 (C : Calling) (L : Body → Body) (t : Tm) (H : Hp) (n : Nat) : bodyK Try.prog C L Try.f29 t H n = S29 C L t H n := by kernel_rfl
theorem c29 (args : List Value) (H : Hp) (n : Nat) : Call Try.prog 29 args H n = S29 (Call Try.prog) Loop (argsT args) H n := (Call_body Try.func29 args H n).trans (s29 ..)
/-! 30: spec.PrimName -/
noncomputable def S30 (C : Calling) (L : Body → Body) (t : Tm) (H : Hp) (n : Nat) : Option (Value × Hp × Nat) :=
  (C 46 [t 0, .int .i64 1, .int .i64 19] H (n + 4)).bind fun q1 =>
  (un .not q1.1).bind fun v2 =>
  csel v2
    (some (.string ⟨#[]⟩, q1.2.1, q1.2.2 + 1))
    ((C 43 [] q1.2.1 (q1.2.2 + 5)).bind fun q3 =>
     (idxA 1 q3.1 (t 0)).bind fun v4 =>
     (ld false 1 v4 q3.2.1).bind fun v5 =>
     some (v5, q3.2.1, q3.2.2))
theorem s30 (C : Calling) (L : Body → Body) (t : Tm) (H : Hp) (n : Nat) : bodyK Try.prog C L Try.f30 t H n = S30 C L t H n := by kernel_rfl
theorem c30 (args : List Value) (H : Hp) (n : Nat) : Call Try.prog 30 args H n = S30 (Call Try.prog) Loop (argsT args) H n := (Call_body Try.func30 args H n).trans (s30 ..)
/-! 31: impl.PrimArgs -/
noncomputable def S31 (C : Calling) (L : Body → Body) (t : Tm) (H : Hp) (n : Nat) : Option (Value × Hp × Nat) :=
  (C 35 [t 0, .int .i64 1, .int .i64 19] H (n + 4)).bind fun q1 =>
  (un .not q1.1).bind fun v2 =>
  csel v2
    (some (.int .i64 (-1), q1.2.1, q1.2.2 + 1))
    ((bsl (q1.2.2) 1 19 [.int .i64 0] [(0, 1, .int .i64 2), (1, 1, .int .i64 2), (2, 1, .int .i64 2), (3, 1, .int .i64 2), (4, 1, .int .i64 2), (5, 1, .int .i64 2), (6, 1, .int .i64 1), (7, 1, .int .i64 1), (8, 1, .int .i64 1), (9, 1, .int .i64 1), (10, 1, .int .i64 2), (11, 1, .int .i64 1), (12, 1, .int .i64 1), (13, 1, .int .i64 0), (14, 1, .int .i64 2), (15, 1, .int .i64 0), (16, 1, .int .i64 1), (17, 1, .int .i64 1), (18, 1, .int .i64 1)] q1.2.1).bind fun p3 =>
     (binK .plain .sub (t 0) (.int .i64 1)).bind fun v4 =>
     (idxA 1 p3.1 v4).bind fun v5 =>
     (ld false 1 v5 p3.2).bind fun v6 =>
     some (v6, p3.2, q1.2.2 + 6))
theorem s31 (C : Calling) (L : Body → Body) (t : Tm) (H : Hp) (n : Nat) : bodyK Try.prog C L Try.f31 t H n = S31 C L t H n := by kernel_rfl
theorem c31 (args : List Value) (H : Hp) (n : Nat) : Call Try.prog 31 args H n = S31 (Call Try.prog) Loop (argsT args) H n := (Call_body Try.func31 args H n).trans (s31 ..)
/-! 32: spec.PrimArgs -/
noncomputable def S32 (C : Calling) (L : Body → Body) (t : Tm) (H : Hp) (n : Nat) : Option (Value × Hp × Nat) :=
  (C 46 [t 0, .int .i64 1, .int .i64 19] H (n + 4)).bind fun q1 =>
  (un .not q1.1).bind fun v2 =>
  csel v2
    (some (.int .i64 (-1), q1.2.1, q1.2.2 + 1))
    ((bsl (q1.2.2) 1 20 [.int .i64 0] [(0, 1, .int .i64 0), (1, 1, .int .i64 2), (2, 1, .int .i64 2), (3, 1, .int .i64 2), (4, 1, .int .i64 2), (5, 1, .int .i64 2), (6, 1, .int .i64 2), (7, 1, .int .i64 1), (8, 1, .int .i64 1), (9, 1, .int .i64 1), (10, 1, .int .i64 1), (11, 1, .int .i64 2), (12, 1, .int .i64 1), (13, 1, .int .i64 1), (14, 1, .int .i64 0), (15, 1, .int .i64 2), (16, 1, .int .i64 0), (17, 1, .int .i64 1), (18, 1, .int .i64 1), (19, 1, .int .i64 1)] q1.2.1).bind fun p3 =>
     (idxA 1 p3.1 (t 0)).bind fun v4 =>
     (ld false 1 v4 p3.2).bind fun v5 =>
     some (v5, p3.2, q1.2.2 + 5))
theorem s32 (C : Calling) (L : Body → Body) (t : Tm) (H : Hp) (n : Nat) : bodyK Try.prog C L Try.f32 t H n = S32 C L t H n := by kernel_rfl
theorem c32 (args : List Value) (H : Hp) (n : Nat) : Call Try.prog 32 args H n = S32 (Call Try.prog) Loop (argsT args) H n := (Call_body Try.func32 args H n).trans (s32 ..)
end Go.Proofs.Ytpkaeflmonpliaa.Ax
