/- What the bodies of some functions of the program come to in the abstract machine. -/
import Derived.Test.YtjbfdaemgpmgjaaProg
import Derived.Test.YtjbfdaemgpmgjaaAx3
set_option linter.unusedVariables false
namespace Go.Proofs.Ytjbfdaemgpmgjaa.Ax
open Go
set_option maxRecDepth 100000
noncomputable def S5 (C : Calling) (L : Body → Body) (t : Tm) (H : Hp) (n : Nat) : Option (Value × Hp × Nat) :=
  (vcells (t 0)).bind fun c2 =>
  let H1 := H.set (n) (some (.row c2 0 true))
  (vcells (t 1)).bind fun c4 =>
  let H3 := H1.set (n + 1) (some (.row c4 0 true))
  (vcells (t 2)).bind fun c6 =>
  let H5 := H3.set (n + 2) (some (.row c6 0 true))
  (ld true 3 (ptr (n) 0) H5).bind fun v7 =>
  (C 8 [v7, .int .i64 1048576] H5 (n + 9)).bind fun q8 =>
  (binK .plain .lss q8.1 (.int .i64 0)).bind fun v9 =>
  csel v9
    (some (.bool true, q8.2.1, q8.2.2 + 3))
    ((ld true 8 (ptr (n + 1) 0) q8.2.1).bind fun v10 =>
     (C 27 [v10, q8.1] q8.2.1 (q8.2.2 + 6)).bind fun q11 =>
     (binK .plain .lss q11.1 (.int .i64 0)).bind fun v12 =>
     csel v12
       (some (.bool true, q11.2.1, q11.2.2 + 3))
       ((ld true 1 (ptr (n + 2) 0) q11.2.1).bind fun v13 =>
        (C 9 [v13, q11.1] q11.2.1 (q11.2.2 + 6)).bind fun q14 =>
        (binK .plain .lss q14.1 (.int .i64 0)).bind fun v15 =>
        csel v15
          (some (.bool true, q14.2.1, q14.2.2 + 3))
          ((ld true 3 (ptr (n) 0) q14.2.1).bind fun v16 =>
           (C 11 [v16] q14.2.1 (q14.2.2 + 12)).bind fun q17 =>
           (ld true 8 (ptr (n + 1) 0) q17.2.1).bind fun v18 =>
           ask (ld true 8 (ptr (n + 1) 0) q14.2.1 = some v18) <|
           (C 29 [v18] q17.2.1 (q17.2.2)).bind fun q19 =>
           (ld true 1 (ptr (n + 2) 0) q19.2.1).bind fun v20 =>
           ask (ld true 1 (ptr (n + 2) 0) q17.2.1 = some v20) <|
           ask (ld true 1 (ptr (n + 2) 0) q14.2.1 = some v20) <|
           (C 12 [v20] q19.2.1 (q19.2.2)).bind fun q21 =>
           (C 28 [q17.1, q19.1, q21.1, t 3] q21.2.1 (q21.2.2)).bind fun q22 =>
           let H23 := q22.2.1.set (q14.2.2 + 10) (some (.row [nilS, .int .i64 0, .int .i64 0, .int .i64 0, .int .i64 0, .int .i64 0, .int .i64 0, .int .i64 0] 0 true))
           (st true 8 (ptr (q14.2.2 + 10) 0) q22.1 H23).bind fun H24 =>
           (ld true 3 (ptr (n) 0) H24).bind fun v25 =>
           (C 11 [v25] H24 (q22.2.2 + 4)).bind fun q26 =>
           let H27 := q26.2.1.set (q22.2.2 + 2) (some (.row [nilS, nilS, nilS] 0 true))
           (st true 3 (ptr (q22.2.2 + 2) 0) q26.1 H27).bind fun H28 =>
           (ld true 8 (ptr (n + 1) 0) H28).bind fun v29 =>
           (C 29 [v29] H28 (q26.2.2 + 4)).bind fun q30 =>
           let H31 := q30.2.1.set (q26.2.2 + 2) (some (.row [nilS, .int .i64 0, .int .i64 0, .int .i64 0, .int .i64 0, .int .i64 0, .int .i64 0, .int .i64 0] 0 true))
           (st true 8 (ptr (q26.2.2 + 2) 0) q30.1 H31).bind fun H32 =>
           (ld true 1 (ptr (n + 2) 0) H32).bind fun v33 =>
           (C 12 [v33] H32 (q30.2.2 + 4)).bind fun q34 =>
           let H35 := q34.2.1.set (q30.2.2 + 2) (some (.row [nilS] 0 true))
           (st true 1 (ptr (q30.2.2 + 2) 0) q34.1 H35).bind fun H36 =>
           (ld true 3 (ptr (q22.2.2 + 2) 0) H36).bind fun v37 =>
           (ld true 8 (ptr (q26.2.2 + 2) 0) H36).bind fun v38 =>
           (ld true 1 (ptr (q30.2.2 + 2) 0) H36).bind fun v39 =>
           (C 30 [v37, v38, v39, t 3] H36 (q34.2.2 + 7)).bind fun q40 =>
           let H41 := q40.2.1.set (q34.2.2 + 5) (some (.row [nilS, .int .i64 0, .int .i64 0, .int .i64 0, .int .i64 0, .int .i64 0, .int .i64 0, .int .i64 0] 0 true))
           (st true 8 (ptr (q34.2.2 + 5) 0) q40.1 H41).bind fun H42 =>
           (ld true 8 (ptr (q34.2.2 + 5) 0) H42).bind fun v43 =>
           (ld true 8 (ptr (q14.2.2 + 10) 0) H42).bind fun v44 =>
           (C 14 [v43, v44] H42 (q40.2.2 + 4)).bind fun q45 =>
           (un .not q45.1).bind fun v46 =>
           csel v46
             (some (.bool false, q45.2.1, q45.2.2 + 1))
             ((ld true 3 (ptr (q22.2.2 + 2) 0) q45.2.1).bind fun v47 =>
              (ld true 3 (ptr (n) 0) q45.2.1).bind fun v48 =>
              (C 11 [v48] q45.2.1 (q45.2.2 + 5)).bind fun q49 =>
              ask (ld true 3 (ptr (q22.2.2 + 2) 0) q49.2.1 = some v47) <|
              (C 15 [v47, q49.1] q49.2.1 (q49.2.2)).bind fun q50 =>
              (un .not q50.1).bind fun v51 =>
              csel v51
                (some (.bool false, q50.2.1, q50.2.2 + 1))
                ((ld true 8 (ptr (q26.2.2 + 2) 0) q50.2.1).bind fun v52 =>
                 (ld true 8 (ptr (n + 1) 0) q50.2.1).bind fun v53 =>
                 (C 29 [v53] q50.2.1 (q50.2.2 + 5)).bind fun q54 =>
                 ask (ld true 8 (ptr (q26.2.2 + 2) 0) q54.2.1 = some v52) <|
                 (C 14 [v52, q54.1] q54.2.1 (q54.2.2)).bind fun q55 =>
                 (un .not q55.1).bind fun v56 =>
                 csel v56
                   (some (.bool false, q55.2.1, q55.2.2 + 1))
                   ((ld true 1 (ptr (q30.2.2 + 2) 0) q55.2.1).bind fun v57 =>
                    (ld true 1 (ptr (n + 2) 0) q55.2.1).bind fun v58 =>
                    (C 12 [v58] q55.2.1 (q55.2.2 + 5)).bind fun q59 =>
                    ask (ld true 1 (ptr (q30.2.2 + 2) 0) q59.2.1 = some v57) <|
                    (C 16 [v57, q59.1] q59.2.1 (q59.2.2)).bind fun q60 =>
                    (un .not q60.1).bind fun v61 =>
                    csel v61
                      (some (.bool false, q60.2.1, q60.2.2 + 1))
                      ((ld true 3 (ptr (q22.2.2 + 2) 0) q60.2.1).bind fun v62 =>
                       (C 17 [v62, .int .i64 1] q60.2.1 (q60.2.2 + 5)).bind fun q63 =>
                       (ld true 8 (ptr (q26.2.2 + 2) 0) q63.2.1).bind fun v64 =>
                       (C 19 [v64, q63.1] q63.2.1 (q63.2.2 + 4)).bind fun q65 =>
                       (ld true 1 (ptr (q30.2.2 + 2) 0) q65.2.1).bind fun v66 =>
                       (C 18 [v66, q65.1] q65.2.1 (q65.2.2 + 4)).bind fun q67 =>
                       (binK .plain .lss q67.1 (.int .i64 0)).bind fun v68 =>
                       let t70 : Tm := put (put (put (put (put (put (put (put (put (put (put (put (put (put (put (put (put (put (put (put (put (put (put (put (put (put (put (put (put (put (put (put (put (put (put (put (put (put (put (put (put (put (put (put (put (put (put (put (put (put (put (put (put (put (put (put (put (put (put (put (put (put (put (put (put (put (put (put (put (put (put (put (put (put (put (put (put (put (put (put (put (put t 4 (ptr (n) 0)) 5 (ptr (n + 1) 0)) 6 (ptr (n + 2) 0)) 8 (.bool false)) 9 (.int .i64 1048576)) 19 v7) 20 (.int .i64 1048576)) 21 q8.1) 9 q8.1) 22 q8.1) 23 v9) 24 v10) 25 q8.1) 26 q11.1) 9 q11.1) 27 q11.1) 28 v12) 29 v13) 30 q11.1) 31 q14.1) 9 q14.1) 32 q14.1) 33 v15) 34 v16) 35 q17.1) 36 v18) 37 q19.1) 38 v20) 39 q21.1) 40 (t 3)) 41 q22.1) 10 (ptr (q14.2.2 + 10) 0)) 42 v25) 43 q26.1) 11 (ptr (q22.2.2 + 2) 0)) 44 v29) 45 q30.1) 12 (ptr (q26.2.2 + 2) 0)) 46 v33) 47 q34.1) 13 (ptr (q30.2.2 + 2) 0)) 48 v37) 49 v38) 50 v39) 51 (t 3)) 52 q40.1) 14 (ptr (q34.2.2 + 5) 0)) 53 v43) 54 v44) 55 q45.1) 56 v46) 57 v47) 58 v48) 59 q49.1) 60 q50.1) 61 v51) 62 v52) 63 v53) 64 q54.1) 65 q55.1) 66 v56) 67 v57) 68 v58) 69 q59.1) 70 q60.1) 71 v61) 15 (.int .i64 1)) 72 v62) 73 (.int .i64 1)) 74 q63.1) 15 q63.1) 75 v64) 76 q63.1) 77 q65.1) 15 q65.1) 78 v66) 79 q65.1) 80 q67.1) 15 q67.1) 81 q67.1) 82 v68) 83 v68
                       (gsel v68 false
                         ((ld true 8 (ptr (q34.2.2 + 5) 0) q67.2.1).bind fun v71 =>
                          (ld true 8 (ptr (q14.2.2 + 10) 0) q67.2.1).bind fun v72 =>
                          (C 14 [v71, v72] q67.2.1 (q67.2.2 + 8)).bind fun q73 =>
                          (un .not q73.1).bind fun v74 =>
                          some (put (put (put (put t70 84 v71) 85 v72) 86 q73.1) 87 v74, q73.2.1, q73.2.2))
                         (some (put (put (put (put t70 84 (.tuple #[])) 85 (.tuple #[])) 86 (.tuple #[])) 87 (.tuple #[]), q67.2.1, q67.2.2 + 8))
                       ).bind fun (q69 : R3) =>
                       (pickV (q69.1 83) (.bool true) (q69.1 87)).bind fun v75 =>
                       csel v75
                         (some (.bool false, q69.2.1, q69.2.2 + 1))
                         ((ld true 8 (q69.1 14) q69.2.1).bind fun v76 =>
                          (C 19 [v76, .int .i64 1] q69.2.1 (q69.2.2 + 5)).bind fun q77 =>
                          (ld true 8 (q69.1 14) q77.2.1).bind fun v78 =>
                          (C 20 [v78, .int .i64 1] q77.2.1 (q77.2.2 + 5)).bind fun q79 =>
                          (binK .plain .lss q79.1 (.int .i64 0)).bind fun v80 =>
                          csel v80
                            (some (.bool false, q79.2.1, q79.2.2 + 3))
                            ((binK .plain .neq q79.1 q77.1).bind fun v81 =>
                             csel v81
                               (some (.bool false, q79.2.1, q79.2.2 + 6))
                               ((ld true 3 (q69.1 4) q79.2.1).bind fun v82 =>
                                (C 11 [v82] q79.2.1 (q79.2.2 + 15)).bind fun q83 =>
                                (ld true 8 (q69.1 5) q83.2.1).bind fun v84 =>
                                ask (ld true 8 (q69.1 5) q79.2.1 = some v84) <|
                                (C 29 [v84] q83.2.1 (q83.2.2)).bind fun q85 =>
                                (ld true 1 (q69.1 6) q85.2.1).bind fun v86 =>
                                ask (ld true 1 (q69.1 6) q83.2.1 = some v86) <|
                                ask (ld true 1 (q69.1 6) q79.2.1 = some v86) <|
                                (C 12 [v86] q85.2.1 (q85.2.2)).bind fun q87 =>
                                (C 30 [q83.1, q85.1, q87.1, q69.1 3] q87.2.1 (q87.2.2)).bind fun q88 =>
                                let H89 := q88.2.1.set (q79.2.2 + 13) (some (.row [nilS, .int .i64 0, .int .i64 0, .int .i64 0, .int .i64 0, .int .i64 0, .int .i64 0, .int .i64 0] 0 true))
                                (st true 8 (ptr (q79.2.2 + 13) 0) q88.1 H89).bind fun H90 =>
                                (ld true 8 (ptr (q79.2.2 + 13) 0) H90).bind fun v91 =>
                                (ld true 8 (q69.1 10) H90).bind fun v92 =>
                                (C 14 [v91, v92] H90 (q88.2.2 + 4)).bind fun q93 =>
                                (un .not q93.1).bind fun v94 =>
                                csel v94
                                  (some (.bool false, q93.2.1, q93.2.2 + 1))
                                  ((ld true 8 (q69.1 14) q93.2.1).bind fun v95 =>
                                   (C 20 [v95, .int .i64 1] q93.2.1 (q93.2.2 + 5)).bind fun q96 =>
                                   (binK .plain .lss q96.1 (.int .i64 0)).bind fun v97 =>
                                   csel v97
                                     (some (.bool false, q96.2.1, q96.2.2 + 3))
                                     ((binK .plain .neq q96.1 q77.1).bind fun v98 =>
                                      csel v98
                                        (some (.bool false, q96.2.1, q96.2.2 + 6))
                                        (some (.bool true, q96.2.1, q96.2.2 + 6))))))))))))))
theorem s5 (C : Calling) (L : Body → Body) (t : Tm) (H : Hp) (n : Nat) : bodyK Try.prog C L Try.f5 t H n = S5 C L t H n := by kernel_rfl
theorem c5 (args : List Value) (H : Hp) (n : Nat) : Call Try.prog 5 args H n = S5 (Call Try.prog) Loop (argsT args) H n := (Call_body Try.func5 args H n).trans (s5 ..)
noncomputable def S8 (C : Calling) (L : Body → Body) (t : Tm) (H : Hp) (n : Nat) : Option (Value × Hp × Nat) :=
  (vcells (t 0)).bind fun c2 =>
  let H1 := H.set (n) (some (.row c2 0 true))
  (fieldA 0 (ptr (n) 0)).bind fun v3 =>
  (ld true 1 v3 H1).bind fun v4 =>
  (C 9 [v4, t 1] H1 (n + 7)).bind fun q5 =>
  (binK .plain .lss q5.1 (.int .i64 0)).bind fun v6 =>
  csel v6
    (some (.int .i64 (-1), q5.2.1, q5.2.2 + 3))
    ((fieldA 1 (ptr (n) 0)).bind fun v7 =>
     (ld false 1 v7 q5.2.1).bind fun v8 =>
     (C 42 [v8, q5.1] q5.2.1 (q5.2.2 + 7)).bind fun q9 =>
     (binK .plain .lss q9.1 (.int .i64 0)).bind fun v10 =>
     csel v10
       (some (.int .i64 (-1), q9.2.1, q9.2.2 + 3))
       ((fieldA 2 (ptr (n) 0)).bind fun v11 =>
        (ld false 1 v11 q9.2.1).bind fun v12 =>
        (C 43 [v12, q9.1] q9.2.1 (q9.2.2 + 7)).bind fun q13 =>
        (binK .plain .lss q13.1 (.int .i64 0)).bind fun v14 =>
        csel v14
          (some (.int .i64 (-1), q13.2.1, q13.2.2 + 3))
          (some (q13.1, q13.2.1, q13.2.2 + 4))))
theorem s8 (C : Calling) (L : Body → Body) (t : Tm) (H : Hp) (n : Nat) : bodyK Try.prog C L Try.f8 t H n = S8 C L t H n := by kernel_rfl
theorem c8 (args : List Value) (H : Hp) (n : Nat) : Call Try.prog 8 args H n = S8 (Call Try.prog) Loop (argsT args) H n := (Call_body Try.func8 args H n).trans (s8 ..)
noncomputable def S9 (C : Calling) (L : Body → Body) (t : Tm) (H : Hp) (n : Nat) : Option (Value × Hp × Nat) :=
  (vcells (t 0)).bind fun c2 =>
  let H1 := H.set (n) (some (.row c2 0 true))
  (fieldA 0 (ptr (n) 0)).bind fun v3 =>
  (ld false 1 v3 H1).bind fun v4 =>
  (C 44 [v4, t 1] H1 (n + 7)).bind fun q5 =>
  (binK .plain .lss q5.1 (.int .i64 0)).bind fun v6 =>
  csel v6
    (some (.int .i64 (-1), q5.2.1, q5.2.2 + 3))
    (some (q5.1, q5.2.1, q5.2.2 + 4))
theorem s9 (C : Calling) (L : Body → Body) (t : Tm) (H : Hp) (n : Nat) : bodyK Try.prog C L Try.f9 t H n = S9 C L t H n := by kernel_rfl
theorem c9 (args : List Value) (H : Hp) (n : Nat) : Call Try.prog 9 args H n = S9 (Call Try.prog) Loop (argsT args) H n := (Call_body Try.func9 args H n).trans (s9 ..)
noncomputable def S11 (C : Calling) (L : Body → Body) (t : Tm) (H : Hp) (n : Nat) : Option (Value × Hp × Nat) :=
  (vcells (t 0)).bind fun c2 =>
  let H1 := H.set (n) (some (.row c2 0 true))
  let H3 := H1.set (n + 1) (some (.row [nilS, nilS, nilS] 0 true))
  let H4 := H3.set (n + 2) (some (.row [nilS, nilS, nilS] 0 true))
  (fieldA 0 (ptr (n) 0)).bind fun v5 =>
  (ld true 1 v5 H4).bind fun v6 =>
  (C 12 [v6] H4 (n + 8)).bind fun q7 =>
  (fieldA 0 (ptr (n + 2) 0)).bind fun v8 =>
  (st true 1 v8 q7.1 q7.2.1).bind fun H9 =>
  (fieldA 1 (ptr (n) 0)).bind fun v10 =>
  (ld false 1 v10 H9).bind fun v11 =>
  (C 49 [v11] H9 (q7.2.2 + 5)).bind fun q12 =>
  (fieldA 1 (ptr (n + 2) 0)).bind fun v13 =>
  (st false 1 v13 q12.1 q12.2.1).bind fun H14 =>
  (fieldA 2 (ptr (n) 0)).bind fun v15 =>
  (ld false 1 v15 H14).bind fun v16 =>
  (C 50 [v16] H14 (q12.2.2 + 5)).bind fun q17 =>
  (fieldA 2 (ptr (n + 2) 0)).bind fun v18 =>
  (st false 1 v18 q17.1 q17.2.1).bind fun H19 =>
  (ld true 3 (ptr (n + 2) 0) H19).bind fun v20 =>
  (st true 3 (ptr (n + 1) 0) v20 H19).bind fun H21 =>
  (ld true 3 (ptr (n + 1) 0) H21).bind fun v22 =>
  some (v22, H21, q17.2.2 + 2)
theorem s11 (C : Calling) (L : Body → Body) (t : Tm) (H : Hp) (n : Nat) : bodyK Try.prog C L Try.f11 t H n = S11 C L t H n := by kernel_rfl
theorem c11 (args : List Value) (H : Hp) (n : Nat) : Call Try.prog 11 args H n = S11 (Call Try.prog) Loop (argsT args) H n := (Call_body Try.func11 args H n).trans (s11 ..)
noncomputable def S12 (C : Calling) (L : Body → Body) (t : Tm) (H : Hp) (n : Nat) : Option (Value × Hp × Nat) :=
  (vcells (t 0)).bind fun c2 =>
  let H1 := H.set (n) (some (.row c2 0 true))
  let H3 := H1.set (n + 1) (some (.row [nilS] 0 true))
  let H4 := H3.set (n + 2) (some (.row [nilS] 0 true))
  (fieldA 0 (ptr (n) 0)).bind fun v5 =>
  (ld false 1 v5 H4).bind fun v6 =>
  (C 51 [v6] H4 (n + 8)).bind fun q7 =>
  (fieldA 0 (ptr (n + 2) 0)).bind fun v8 =>
  (st false 1 v8 q7.1 q7.2.1).bind fun H9 =>
  (ld true 1 (ptr (n + 2) 0) H9).bind fun v10 =>
  (st true 1 (ptr (n + 1) 0) v10 H9).bind fun H11 =>
  (ld true 1 (ptr (n + 1) 0) H11).bind fun v12 =>
  some (v12, H11, q7.2.2 + 2)
theorem s12 (C : Calling) (L : Body → Body) (t : Tm) (H : Hp) (n : Nat) : bodyK Try.prog C L Try.f12 t H n = S12 C L t H n := by kernel_rfl
theorem c12 (args : List Value) (H : Hp) (n : Nat) : Call Try.prog 12 args H n = S12 (Call Try.prog) Loop (argsT args) H n := (Call_body Try.func12 args H n).trans (s12 ..)
noncomputable def S14 (C : Calling) (L : Body → Body) (t : Tm) (H : Hp) (n : Nat) : Option (Value × Hp × Nat) :=
  (vcells (t 0)).bind fun c2 =>
  let H1 := H.set (n) (some (.row c2 0 true))
  (vcells (t 1)).bind fun c4 =>
  let H3 := H1.set (n + 1) (some (.row c4 0 true))
  (fieldA 0 (ptr (n) 0)).bind fun v5 =>
  (ld true 1 v5 H3).bind fun v6 =>
  (fieldA 0 (ptr (n + 1) 0)).bind fun v7 =>
  (ld true 1 v7 H3).bind fun v8 =>
  (C 16 [v6, v8] H3 (n + 9)).bind fun q9 =>
  (un .not q9.1).bind fun v10 =>
  csel v10
    (some (.bool false, q9.2.1, q9.2.2 + 1))
    ((fieldA 1 (ptr (n) 0)).bind fun v11 =>
     (ld false 1 v11 q9.2.1).bind fun v12 =>
     (fieldA 1 (ptr (n + 1) 0)).bind fun v13 =>
     (ld false 1 v13 q9.2.1).bind fun v14 =>
     (binK .plain .neq v12 v14).bind fun v15 =>
     csel v15
       (some (.bool false, q9.2.1, q9.2.2 + 6))
       ((fieldA 2 (ptr (n) 0)).bind fun v16 =>
        (ld false 1 v16 q9.2.1).bind fun v17 =>
        (fieldA 2 (ptr (n + 1) 0)).bind fun v18 =>
        (ld false 1 v18 q9.2.1).bind fun v19 =>
        (binK .plain .neq v17 v19).bind fun v20 =>
        csel v20
          (some (.bool false, q9.2.1, q9.2.2 + 11))
          ((fieldA 3 (ptr (n) 0)).bind fun v21 =>
           (ld false 1 v21 q9.2.1).bind fun v22 =>
           (fieldA 3 (ptr (n + 1) 0)).bind fun v23 =>
           (ld false 1 v23 q9.2.1).bind fun v24 =>
           (binK .plain .neq v22 v24).bind fun v25 =>
           csel v25
             (some (.bool false, q9.2.1, q9.2.2 + 16))
             ((fieldA 4 (ptr (n) 0)).bind fun v26 =>
              (ld false 1 v26 q9.2.1).bind fun v27 =>
              (fieldA 4 (ptr (n + 1) 0)).bind fun v28 =>
              (ld false 1 v28 q9.2.1).bind fun v29 =>
              (binK .plain .neq v27 v29).bind fun v30 =>
              csel v30
                (some (.bool false, q9.2.1, q9.2.2 + 21))
                ((fieldA 5 (ptr (n) 0)).bind fun v31 =>
                 (ld false 1 v31 q9.2.1).bind fun v32 =>
                 (fieldA 5 (ptr (n + 1) 0)).bind fun v33 =>
                 (ld false 1 v33 q9.2.1).bind fun v34 =>
                 (binK .plain .neq v32 v34).bind fun v35 =>
                 csel v35
                   (some (.bool false, q9.2.1, q9.2.2 + 26))
                   ((fieldA 6 (ptr (n) 0)).bind fun v36 =>
                    (ld false 1 v36 q9.2.1).bind fun v37 =>
                    (fieldA 6 (ptr (n + 1) 0)).bind fun v38 =>
                    (ld false 1 v38 q9.2.1).bind fun v39 =>
                    (binK .plain .neq v37 v39).bind fun v40 =>
                    csel v40
                      (some (.bool false, q9.2.1, q9.2.2 + 31))
                      ((fieldA 7 (ptr (n) 0)).bind fun v41 =>
                       (ld false 1 v41 q9.2.1).bind fun v42 =>
                       (fieldA 7 (ptr (n + 1) 0)).bind fun v43 =>
                       (ld false 1 v43 q9.2.1).bind fun v44 =>
                       (binK .plain .neq v42 v44).bind fun v45 =>
                       csel v45
                         (some (.bool false, q9.2.1, q9.2.2 + 36))
                         (some (.bool true, q9.2.1, q9.2.2 + 36)))))))))
theorem s14 (C : Calling) (L : Body → Body) (t : Tm) (H : Hp) (n : Nat) : bodyK Try.prog C L Try.f14 t H n = S14 C L t H n := by kernel_rfl
theorem c14 (args : List Value) (H : Hp) (n : Nat) : Call Try.prog 14 args H n = S14 (Call Try.prog) Loop (argsT args) H n := (Call_body Try.func14 args H n).trans (s14 ..)
noncomputable def S15 (C : Calling) (L : Body → Body) (t : Tm) (H : Hp) (n : Nat) : Option (Value × Hp × Nat) :=
  (vcells (t 0)).bind fun c2 =>
  let H1 := H.set (n) (some (.row c2 0 true))
  (vcells (t 1)).bind fun c4 =>
  let H3 := H1.set (n + 1) (some (.row c4 0 true))
  (fieldA 0 (ptr (n) 0)).bind fun v5 =>
  (ld true 1 v5 H3).bind fun v6 =>
  (fieldA 0 (ptr (n + 1) 0)).bind fun v7 =>
  (ld true 1 v7 H3).bind fun v8 =>
  (C 16 [v6, v8] H3 (n + 9)).bind fun q9 =>
  (un .not q9.1).bind fun v10 =>
  csel v10
    (some (.bool false, q9.2.1, q9.2.2 + 1))
    ((fieldA 1 (ptr (n) 0)).bind fun v11 =>
     (ld false 1 v11 q9.2.1).bind fun v12 =>
     (fieldA 1 (ptr (n + 1) 0)).bind fun v13 =>
     (ld false 1 v13 q9.2.1).bind fun v14 =>
     (C 58 [v12, v14] q9.2.1 (q9.2.2 + 6)).bind fun q15 =>
     (un .not q15.1).bind fun v16 =>
     csel v16
       (some (.bool false, q15.2.1, q15.2.2 + 1))
       ((fieldA 2 (ptr (n) 0)).bind fun v17 =>
        (ld false 1 v17 q15.2.1).bind fun v18 =>
        (fieldA 2 (ptr (n + 1) 0)).bind fun v19 =>
        (ld false 1 v19 q15.2.1).bind fun v20 =>
        (C 59 [v18, v20] q15.2.1 (q15.2.2 + 6)).bind fun q21 =>
        (un .not q21.1).bind fun v22 =>
        csel v22
          (some (.bool false, q21.2.1, q21.2.2 + 1))
          (some (.bool true, q21.2.1, q21.2.2 + 1))))
theorem s15 (C : Calling) (L : Body → Body) (t : Tm) (H : Hp) (n : Nat) : bodyK Try.prog C L Try.f15 t H n = S15 C L t H n := by kernel_rfl
theorem c15 (args : List Value) (H : Hp) (n : Nat) : Call Try.prog 15 args H n = S15 (Call Try.prog) Loop (argsT args) H n := (Call_body Try.func15 args H n).trans (s15 ..)
noncomputable def S16 (C : Calling) (L : Body → Body) (t : Tm) (H : Hp) (n : Nat) : Option (Value × Hp × Nat) :=
  (vcells (t 0)).bind fun c2 =>
  let H1 := H.set (n) (some (.row c2 0 true))
  (vcells (t 1)).bind fun c4 =>
  let H3 := H1.set (n + 1) (some (.row c4 0 true))
  (fieldA 0 (ptr (n) 0)).bind fun v5 =>
  (ld false 1 v5 H3).bind fun v6 =>
  (fieldA 0 (ptr (n + 1) 0)).bind fun v7 =>
  (ld false 1 v7 H3).bind fun v8 =>
  (C 60 [v6, v8] H3 (n + 9)).bind fun q9 =>
  (un .not q9.1).bind fun v10 =>
  csel v10
    (some (.bool false, q9.2.1, q9.2.2 + 1))
    (some (.bool true, q9.2.1, q9.2.2 + 1))
theorem s16 (C : Calling) (L : Body → Body) (t : Tm) (H : Hp) (n : Nat) : bodyK Try.prog C L Try.f16 t H n = S16 C L t H n := by kernel_rfl
theorem c16 (args : List Value) (H : Hp) (n : Nat) : Call Try.prog 16 args H n = S16 (Call Try.prog) Loop (argsT args) H n := (Call_body Try.func16 args H n).trans (s16 ..)
noncomputable def S17 (C : Calling) (L : Body → Body) (t : Tm) (H : Hp) (n : Nat) : Option (Value × Hp × Nat) :=
  (vcells (t 0)).bind fun c2 =>
  let H1 := H.set (n) (some (.row c2 0 true))
  (fieldA 0 (ptr (n) 0)).bind fun v3 =>
  (ld true 1 v3 H1).bind fun v4 =>
  (C 18 [v4, t 1] H1 (n + 7)).bind fun q5 =>
  (fieldA 1 (ptr (n) 0)).bind fun v6 =>
  (ld false 1 v6 q5.2.1).bind fun v7 =>
  (C 61 [v7, q5.1] q5.2.1 (q5.2.2 + 5)).bind fun q8 =>
  (fieldA 2 (ptr (n) 0)).bind fun v9 =>
  (ld false 1 v9 q8.2.1).bind fun v10 =>
  (C 62 [v10, q8.1] q8.2.1 (q8.2.2 + 5)).bind fun q11 =>
  some (q11.1, q11.2.1, q11.2.2 + 2)
theorem s17 (C : Calling) (L : Body → Body) (t : Tm) (H : Hp) (n : Nat) : bodyK Try.prog C L Try.f17 t H n = S17 C L t H n := by kernel_rfl
theorem c17 (args : List Value) (H : Hp) (n : Nat) : Call Try.prog 17 args H n = S17 (Call Try.prog) Loop (argsT args) H n := (Call_body Try.func17 args H n).trans (s17 ..)
noncomputable def S18 (C : Calling) (L : Body → Body) (t : Tm) (H : Hp) (n : Nat) : Option (Value × Hp × Nat) :=
  (vcells (t 0)).bind fun c2 =>
  let H1 := H.set (n) (some (.row c2 0 true))
  (fieldA 0 (ptr (n) 0)).bind fun v3 =>
  (ld false 1 v3 H1).bind fun v4 =>
  (C 63 [v4, t 1] H1 (n + 7)).bind fun q5 =>
  some (q5.1, q5.2.1, q5.2.2 + 2)
theorem s18 (C : Calling) (L : Body → Body) (t : Tm) (H : Hp) (n : Nat) : bodyK Try.prog C L Try.f18 t H n = S18 C L t H n := by kernel_rfl
theorem c18 (args : List Value) (H : Hp) (n : Nat) : Call Try.prog 18 args H n = S18 (Call Try.prog) Loop (argsT args) H n := (Call_body Try.func18 args H n).trans (s18 ..)
noncomputable def S19 (C : Calling) (L : Body → Body) (t : Tm) (H : Hp) (n : Nat) : Option (Value × Hp × Nat) :=
  (vcells (t 0)).bind fun c2 =>
  let H1 := H.set (n) (some (.row c2 0 true))
  (fieldA 0 (ptr (n) 0)).bind fun v3 =>
  (ld true 1 v3 H1).bind fun v4 =>
  (C 18 [v4, t 1] H1 (n + 7)).bind fun q5 =>
  some (q5.1, q5.2.1, q5.2.2 + 2)
theorem s19 (C : Calling) (L : Body → Body) (t : Tm) (H : Hp) (n : Nat) : bodyK Try.prog C L Try.f19 t H n = S19 C L t H n := by kernel_rfl
theorem c19 (args : List Value) (H : Hp) (n : Nat) : Call Try.prog 19 args H n = S19 (Call Try.prog) Loop (argsT args) H n := (Call_body Try.func19 args H n).trans (s19 ..)
noncomputable def S20 (C : Calling) (L : Body → Body) (t : Tm) (H : Hp) (n : Nat) : Option (Value × Hp × Nat) :=
  (vcells (t 0)).bind fun c2 =>
  let H1 := H.set (n) (some (.row c2 0 true))
  (fieldA 0 (ptr (n) 0)).bind fun v3 =>
  (ld true 1 v3 H1).bind fun v4 =>
  (C 64 [v4, t 1] H1 (n + 7)).bind fun q5 =>
  (binK .plain .lss q5.1 (.int .i64 0)).bind fun v6 =>
  csel v6
    (some (.int .i64 (-1), q5.2.1, q5.2.2 + 3))
    (some (q5.1, q5.2.1, q5.2.2 + 4))
theorem s20 (C : Calling) (L : Body → Body) (t : Tm) (H : Hp) (n : Nat) : bodyK Try.prog C L Try.f20 t H n = S20 C L t H n := by kernel_rfl
theorem c20 (args : List Value) (H : Hp) (n : Nat) : Call Try.prog 20 args H n = S20 (Call Try.prog) Loop (argsT args) H n := (Call_body Try.func20 args H n).trans (s20 ..)
noncomputable def S23L1 (C : Calling) (L : Body → Body) : Body := fun t H n =>
  (binK .plain .lss (t 36) (t 35)).bind fun v35 =>
  csel v35
    ((idxA 3 (t 34) (t 36)).bind fun v36 =>
     (ld true 3 v36 H).bind fun v37 =>
     let H38 := H.set (n + 4) (some (.row [.string ⟨#[]⟩, .int .i64 0, .int .i64 0] 0 true))
     (st true 3 (ptr (n + 4) 0) v37 H38).bind fun H39 =>
     (fieldA 0 (ptr (n + 4) 0)).bind fun v40 =>
     (ld false 1 v40 H39).bind fun v41 =>
     (C 69 [v41] H39 (n + 35)).bind fun q42 =>
     (un .not q42.1).bind fun v43 =>
     let t45 : Tm := put (put (put (put (put (put (put (put (put (put (put t 37 v35) 38 (t 36)) 39 v36) 40 v37) 5 (ptr (n + 4) 0)) 4 (t 36)) 41 v40) 42 v41) 43 q42.1) 44 v43) 45 v43
     (gsel v43 false
       ((ld true 3 (t45 1) q42.2.1).bind fun v46 =>
        (fieldA 0 (ptr (n + 4) 0)).bind fun v47 =>
        (ld false 1 v47 q42.2.1).bind fun v48 =>
        (C 24 [v46, v48] q42.2.1 (q42.2.2)).bind fun q49 =>
        (binK .plain .neq q49.1 (t 36)).bind fun v50 =>
        some (put (put (put (put (put (put t45 46 v46) 47 v47) 48 v48) 49 q49.1) 50 (t 36)) 51 v50, q49.2.1, q49.2.2))
       (some (put (put (put (put (put (put t45 46 (.tuple #[])) 47 (.tuple #[])) 48 (.tuple #[])) 49 (.tuple #[])) 50 (.tuple #[])) 51 (.tuple #[]), q42.2.1, q42.2.2))
     ).bind fun (q44 : R3) =>
     (pickV (q44.1 45) (.bool true) (q44.1 51)).bind fun v51 =>
     let t53 : Tm := put (put q44.1 52 v51) 53 v51
     (gsel v51 false
       ((fieldA 1 (t53 5)).bind fun v54 =>
        (ld false 1 v54 q44.2.1).bind fun v55 =>
        (fieldA 1 (t53 1)).bind fun v56 =>
        (ld false 1 v56 q44.2.1).bind fun v57 =>
        (lenV false v57).bind fun v58 =>
        (binK .plain .sub v58 (.int .i64 1)).bind fun v59 =>
        (C 70 [v55, .int .i64 0, v59] q44.2.1 (q44.2.2)).bind fun q60 =>
        (un .not q60.1).bind fun v61 =>
        some (put (put (put (put (put (put (put (put t53 54 v54) 55 v55) 56 v56) 57 v57) 58 v58) 59 v59) 60 q60.1) 61 v61, q60.2.1, q60.2.2))
       (some (put (put (put (put (put (put (put (put t53 54 (.tuple #[])) 55 (.tuple #[])) 56 (.tuple #[])) 57 (.tuple #[])) 58 (.tuple #[])) 59 (.tuple #[])) 60 (.tuple #[])) 61 (.tuple #[]), q44.2.1, q44.2.2))
     ).bind fun (q52 : R3) =>
     (pickV (q52.1 53) (.bool true) (q52.1 61)).bind fun v62 =>
     let t64 : Tm := put (put q52.1 62 v62) 63 v62
     (gsel v62 false
       ((fieldA 2 (t64 5)).bind fun v65 =>
        (ld false 1 v65 q52.2.1).bind fun v66 =>
        (C 70 [v66, .int .i64 0, .int .i64 4] q52.2.1 (q52.2.2)).bind fun q67 =>
        (un .not q67.1).bind fun v68 =>
        some (put (put (put (put t64 64 v65) 65 v66) 66 q67.1) 67 v68, q67.2.1, q67.2.2))
       (some (put (put (put (put t64 64 (.tuple #[])) 65 (.tuple #[])) 66 (.tuple #[])) 67 (.tuple #[]), q52.2.1, q52.2.2))
     ).bind fun (q63 : R3) =>
     (pickV (q63.1 63) (.bool true) (q63.1 67)).bind fun v69 =>
     csel v69
       (some ⟨.ret, put (put q63.1 68 v69) 2 (.bool false), q63.2.1, q63.2.2 + 1⟩)
       ((binK .plain .add (q63.1 36) (.int .i64 1)).bind fun v70 =>
        some ⟨.normal, put (put (put q63.1 68 v69) 69 v70) 36 v70, q63.2.1, q63.2.2 + 2⟩))
    (some ⟨(.exit 2), put t 37 v35, H, n + 1⟩)
noncomputable def S23L0 (C : Calling) (L : Body → Body) : Body := fun t H n =>
  (binK .plain .lss (t 25) (t 24)).bind fun v25 =>
  csel v25
    ((ld true 3 (t 1) H).bind fun v26 =>
     (C 68 [v26, t 25] H (n + 7)).bind fun q27 =>
     (un .not q27.1).bind fun v28 =>
     csel v28
       (some ⟨.ret, put (put (put (put (put (put (put (put t 26 v25) 27 (t 25)) 3 (t 25)) 28 v26) 29 (t 25)) 30 q27.1) 31 v28) 2 (.bool false), q27.2.1, q27.2.2 + 1⟩)
       ((binK .plain .add (t 25) (.int .i64 1)).bind fun v29 =>
        some ⟨.normal, put (put (put (put (put (put (put (put (put t 26 v25) 27 (t 25)) 3 (t 25)) 28 v26) 29 (t 25)) 30 q27.1) 31 v28) 32 v29) 25 v29, q27.2.1, q27.2.2 + 2⟩))
    (some ⟨(.exit 0), put t 26 v25, H, n + 1⟩)
noncomputable def S23 (C : Calling) (L : Body → Body) (t : Tm) (H : Hp) (n : Nat) : Option (Value × Hp × Nat) :=
  (vcells (t 0)).bind fun c2 =>
  let H1 := H.set (n) (some (.row c2 0 true))
  (fieldA 0 (ptr (n) 0)).bind fun v3 =>
  (ld true 1 v3 H1).bind fun v4 =>
  (C 52 [v4] H1 (n + 18)).bind fun q5 =>
  (un .not q5.1).bind fun v6 =>
  let t8 : Tm := put (put (put (put (put (put (put t 1 (ptr (n) 0)) 2 (.bool false)) 6 v3) 7 v4) 8 q5.1) 9 v6) 10 v6
  (gsel v6 false
    ((fieldA 1 (ptr (n) 0)).bind fun v9 =>
     (ld false 1 v9 q5.2.1).bind fun v10 =>
     (lenV false v10).bind fun v11 =>
     (binK .plain .gtr v11 (.int .i64 400)).bind fun v12 =>
     some (put (put (put (put t8 11 v9) 12 v10) 13 v11) 14 v12, q5.2.1, q5.2.2))
    (some (put (put (put (put t8 11 (.tuple #[])) 12 (.tuple #[])) 13 (.tuple #[])) 14 (.tuple #[]), q5.2.1, q5.2.2))
  ).bind fun (q7 : R3) =>
  (pickV (q7.1 10) (.bool true) (q7.1 14)).bind fun v13 =>
  let t15 : Tm := put (put q7.1 15 v13) 16 v13
  (gsel v13 false
    ((fieldA 2 (t15 1)).bind fun v16 =>
     (ld false 1 v16 q7.2.1).bind fun v17 =>
     (lenV false v17).bind fun v18 =>
     (binK .plain .gtr v18 (.int .i64 20)).bind fun v19 =>
     some (put (put (put (put t15 17 v16) 18 v17) 19 v18) 20 v19, q7.2.1, q7.2.2))
    (some (put (put (put (put t15 17 (.tuple #[])) 18 (.tuple #[])) 19 (.tuple #[])) 20 (.tuple #[]), q7.2.1, q7.2.2))
  ).bind fun (q14 : R3) =>
  (pickV (q14.1 16) (.bool true) (q14.1 20)).bind fun v20 =>
  csel v20
    (some (.bool false, q14.2.1, q14.2.2 + 1))
    ((fieldA 1 (q14.1 1)).bind fun v21 =>
     (ld false 1 v21 q14.2.1).bind fun v22 =>
     (lenV false v22).bind fun v23 =>
     (L (S23L0 C L) (put (put (put (put (put q14.1 21 v20) 22 v21) 23 v22) 24 v23) 25 (.int .i64 0)) q14.2.1 (q14.2.2 + 4)).bind fun (o24 : Out) =>
     let o30 := outOf 0 o24
     thenK o30
       ((fieldA 2 (o30.t 1)).bind fun v31 =>
        (ld false 1 v31 o30.H).bind fun v32 =>
        (lenV false v32).bind fun v33 =>
        (L (S23L1 C L) (put (put (put (put o30.t 33 v31) 34 v32) 35 v33) 36 (.int .i64 0)) o30.H (o30.n + 4)).bind fun (o34 : Out) =>
        let o71 := outOf 2 o34
        thenK o71
          (some (.bool true, o71.H, o71.n + 1))
          (finE o71.e
             (some (o71.t 2, o71.H, o71.n))))
       (finE o30.e
          (some (o30.t 2, o30.H, o30.n))))
theorem s23 (C : Calling) (L : Body → Body) (t : Tm) (H : Hp) (n : Nat) : bodyK Try.prog C L Try.f23 t H n = S23 C L t H n := by kernel_rfl
theorem c23 (args : List Value) (H : Hp) (n : Nat) : Call Try.prog 23 args H n = S23 (Call Try.prog) Loop (argsT args) H n := (Call_body Try.func23 args H n).trans (s23 ..)
noncomputable def S24 (C : Calling) (L : Body → Body) (t : Tm) (H : Hp) (n : Nat) : Option (Value × Hp × Nat) :=
  (vcells (t 0)).bind fun c2 =>
  let H1 := H.set (n) (some (.row c2 0 true))
  (vcells (t 1)).bind fun c4 =>
  let H3 := H1.set (n + 1) (some (.row c4 0 true))
  (fieldA 2 (ptr (n) 0)).bind fun v5 =>
  (ld false 1 v5 H3).bind fun v6 =>
  iteK ([ptr (n + 1) 0].all ptrV) <|
  (C 71 [v6, .func (.func 72) #[] ⟨[ptr (n + 1) 0]⟩] H3 (n + 8)).bind fun q7 =>
  some (q7.1, q7.2.1, q7.2.2)
theorem s24 (C : Calling) (L : Body → Body) (t : Tm) (H : Hp) (n : Nat) : bodyK Try.prog C L Try.f24 t H n = S24 C L t H n := by kernel_rfl
theorem c24 (args : List Value) (H : Hp) (n : Nat) : Call Try.prog 24 args H n = S24 (Call Try.prog) Loop (argsT args) H n := (Call_body Try.func24 args H n).trans (s24 ..)
noncomputable def S25L1 (C : Calling) (L : Body → Body) : Body := fun t H n =>
  (fieldA 2 (t 1)).bind fun v32 =>
  (ld false 1 v32 H).bind fun v33 =>
  (lenV false v33).bind fun v34 =>
  (binK .plain .lss (t 4) v34).bind fun v35 =>
  csel v35
    ((fieldA 2 (t 1)).bind fun v36 =>
     (ld false 1 v36 H).bind fun v37 =>
     (idxA 3 v37 (t 4)).bind fun v38 =>
     (ld true 3 v38 H).bind fun v39 =>
     let H40 := H.set (n + 10) (some (.row [.string ⟨#[]⟩, .int .i64 0, .int .i64 0] 0 true))
     (st true 3 (ptr (n + 10) 0) v39 H40).bind fun H41 =>
     (fieldA 0 (ptr (n + 10) 0)).bind fun v42 =>
     (ld false 1 v42 H41).bind fun v43 =>
     (C 74 [v43] H41 (n + 40)).bind fun q44 =>
     (un .not q44.1).bind fun v45 =>
     let t47 : Tm := put (put (put (put (put (put (put (put (put (put (put (put (put (put (put (put t 33 (t 4)) 34 v32) 35 v33) 36 v34) 37 v35) 40 v36) 41 v37) 42 (t 4)) 43 v38) 44 v39) 5 (ptr (n + 10) 0)) 45 v42) 46 v43) 47 q44.1) 48 v45) 49 v45
     (gsel v45 false
       ((ld true 3 (t47 1) q44.2.1).bind fun v48 =>
        (fieldA 0 (ptr (n + 10) 0)).bind fun v49 =>
        (ld false 1 v49 q44.2.1).bind fun v50 =>
        (C 26 [v48, v50] q44.2.1 (q44.2.2)).bind fun q51 =>
        (binK .plain .neq q51.1 (t47 4)).bind fun v52 =>
        some (put (put (put (put (put (put t47 50 v48) 51 v49) 52 v50) 53 q51.1) 54 (t47 4)) 55 v52, q51.2.1, q51.2.2))
       (some (put (put (put (put (put (put t47 50 (.tuple #[])) 51 (.tuple #[])) 52 (.tuple #[])) 53 (.tuple #[])) 54 (.tuple #[])) 55 (.tuple #[]), q44.2.1, q44.2.2))
     ).bind fun (q46 : R3) =>
     (pickV (q46.1 49) (.bool true) (q46.1 55)).bind fun v53 =>
     let t55 : Tm := put (put q46.1 56 v53) 57 v53
     (gsel v53 false
       ((fieldA 1 (t55 5)).bind fun v56 =>
        (ld false 1 v56 q46.2.1).bind fun v57 =>
        (fieldA 1 (t55 1)).bind fun v58 =>
        (ld false 1 v58 q46.2.1).bind fun v59 =>
        (lenV false v59).bind fun v60 =>
        (binK .plain .sub v60 (.int .i64 1)).bind fun v61 =>
        (C 75 [v57, .int .i64 0, v61] q46.2.1 (q46.2.2)).bind fun q62 =>
        (un .not q62.1).bind fun v63 =>
        some (put (put (put (put (put (put (put (put t55 58 v56) 59 v57) 60 v58) 61 v59) 62 v60) 63 v61) 64 q62.1) 65 v63, q62.2.1, q62.2.2))
       (some (put (put (put (put (put (put (put (put t55 58 (.tuple #[])) 59 (.tuple #[])) 60 (.tuple #[])) 61 (.tuple #[])) 62 (.tuple #[])) 63 (.tuple #[])) 64 (.tuple #[])) 65 (.tuple #[]), q46.2.1, q46.2.2))
     ).bind fun (q54 : R3) =>
     (pickV (q54.1 57) (.bool true) (q54.1 65)).bind fun v64 =>
     let t66 : Tm := put (put q54.1 66 v64) 67 v64
     (gsel v64 false
       ((fieldA 2 (t66 5)).bind fun v67 =>
        (ld false 1 v67 q54.2.1).bind fun v68 =>
        (C 75 [v68, .int .i64 0, .int .i64 4] q54.2.1 (q54.2.2)).bind fun q69 =>
        (un .not q69.1).bind fun v70 =>
        some (put (put (put (put t66 68 v67) 69 v68) 70 q69.1) 71 v70, q69.2.1, q69.2.2))
       (some (put (put (put (put t66 68 (.tuple #[])) 69 (.tuple #[])) 70 (.tuple #[])) 71 (.tuple #[]), q54.2.1, q54.2.2))
     ).bind fun (q65 : R3) =>
     (pickV (q65.1 67) (.bool true) (q65.1 71)).bind fun v71 =>
     csel v71
       (some ⟨.ret, put (put q65.1 72 v71) 2 (.bool false), q65.2.1, q65.2.2 + 1⟩)
       ((binK .plain .add (q65.1 4) (.int .i64 1)).bind fun v72 =>
        some ⟨.normal, put (put (put (put q65.1 72 v71) 38 (q65.1 4)) 39 v72) 4 v72, q65.2.1, q65.2.2 + 3⟩))
    (some ⟨(.exit 2), put (put (put (put (put t 33 (t 4)) 34 v32) 35 v33) 36 v34) 37 v35, H, n + 5⟩)
noncomputable def S25L0 (C : Calling) (L : Body → Body) : Body := fun t H n =>
  (fieldA 1 (t 1)).bind fun v22 =>
  (ld false 1 v22 H).bind fun v23 =>
  (lenV false v23).bind fun v24 =>
  (binK .plain .lss (t 3) v24).bind fun v25 =>
  csel v25
    ((ld true 3 (t 1) H).bind fun v26 =>
     (C 73 [v26, t 3] H (n + 9)).bind fun q27 =>
     (un .not q27.1).bind fun v28 =>
     csel v28
       (some ⟨.ret, put (put (put (put (put (put (put (put (put (put t 22 (t 3)) 23 v22) 24 v23) 25 v24) 26 v25) 29 v26) 30 (t 3)) 31 q27.1) 32 v28) 2 (.bool false), q27.2.1, q27.2.2 + 1⟩)
       ((binK .plain .add (t 3) (.int .i64 1)).bind fun v29 =>
        some ⟨.normal, put (put (put (put (put (put (put (put (put (put (put (put t 22 (t 3)) 23 v22) 24 v23) 25 v24) 26 v25) 29 v26) 30 (t 3)) 31 q27.1) 32 v28) 27 (t 3)) 28 v29) 3 v29, q27.2.1, q27.2.2 + 3⟩))
    (some ⟨(.exit 0), put (put (put (put (put t 22 (t 3)) 23 v22) 24 v23) 25 v24) 26 v25, H, n + 5⟩)
noncomputable def S25 (C : Calling) (L : Body → Body) (t : Tm) (H : Hp) (n : Nat) : Option (Value × Hp × Nat) :=
  (vcells (t 0)).bind fun c2 =>
  let H1 := H.set (n) (some (.row c2 0 true))
  (fieldA 0 (ptr (n) 0)).bind fun v3 =>
  (ld true 1 v3 H1).bind fun v4 =>
  (C 45 [v4] H1 (n + 18)).bind fun q5 =>
  (un .not q5.1).bind fun v6 =>
  let t8 : Tm := put (put (put (put (put (put (put t 1 (ptr (n) 0)) 2 (.bool false)) 6 v3) 7 v4) 8 q5.1) 9 v6) 10 v6
  (gsel v6 false
    ((fieldA 1 (ptr (n) 0)).bind fun v9 =>
     (ld false 1 v9 q5.2.1).bind fun v10 =>
     (lenV false v10).bind fun v11 =>
     (binK .plain .gtr v11 (.int .i64 400)).bind fun v12 =>
     some (put (put (put (put t8 11 v9) 12 v10) 13 v11) 14 v12, q5.2.1, q5.2.2))
    (some (put (put (put (put t8 11 (.tuple #[])) 12 (.tuple #[])) 13 (.tuple #[])) 14 (.tuple #[]), q5.2.1, q5.2.2))
  ).bind fun (q7 : R3) =>
  (pickV (q7.1 10) (.bool true) (q7.1 14)).bind fun v13 =>
  let t15 : Tm := put (put q7.1 15 v13) 16 v13
  (gsel v13 false
    ((fieldA 2 (t15 1)).bind fun v16 =>
     (ld false 1 v16 q7.2.1).bind fun v17 =>
     (lenV false v17).bind fun v18 =>
     (binK .plain .gtr v18 (.int .i64 20)).bind fun v19 =>
     some (put (put (put (put t15 17 v16) 18 v17) 19 v18) 20 v19, q7.2.1, q7.2.2))
    (some (put (put (put (put t15 17 (.tuple #[])) 18 (.tuple #[])) 19 (.tuple #[])) 20 (.tuple #[]), q7.2.1, q7.2.2))
  ).bind fun (q14 : R3) =>
  (pickV (q14.1 16) (.bool true) (q14.1 20)).bind fun v20 =>
  csel v20
    (some (.bool false, q14.2.1, q14.2.2 + 1))
    ((L (S25L0 C L) (put (put q14.1 21 v20) 3 (.int .i64 0)) q14.2.1 (q14.2.2 + 1)).bind fun (o21 : Out) =>
     let o30 := outOf 0 o21
     thenK o30
       ((L (S25L1 C L) (put o30.t 4 (.int .i64 0)) o30.H (o30.n + 1)).bind fun (o31 : Out) =>
        let o73 := outOf 2 o31
        thenK o73
          (some (.bool true, o73.H, o73.n + 1))
          (finE o73.e
             (some (o73.t 2, o73.H, o73.n))))
       (finE o30.e
          (some (o30.t 2, o30.H, o30.n))))
theorem s25 (C : Calling) (L : Body → Body) (t : Tm) (H : Hp) (n : Nat) : bodyK Try.prog C L Try.f25 t H n = S25 C L t H n := by kernel_rfl
theorem c25 (args : List Value) (H : Hp) (n : Nat) : Call Try.prog 25 args H n = S25 (Call Try.prog) Loop (argsT args) H n := (Call_body Try.func25 args H n).trans (s25 ..)
noncomputable def S26L0 (C : Calling) (L : Body → Body) : Body := fun t H n =>
  (fieldA 2 (t 2)).bind fun v4 =>
  (ld false 1 v4 H).bind fun v5 =>
  (lenV false v5).bind fun v6 =>
  (binK .plain .lss (t 5) v6).bind fun v7 =>
  csel v7
    ((fieldA 2 (t 2)).bind fun v8 =>
     (ld false 1 v8 H).bind fun v9 =>
     (idxA 3 v9 (t 5)).bind fun v10 =>
     (fieldA 0 v10).bind fun v11 =>
     (ld false 1 v11 H).bind fun v12 =>
     (binK .plain .eql v12 (t 1)).bind fun v13 =>
     csel v13
       (some ⟨.ret, put (put (put (put (put (put (put (put (put (put (put (put (put (put (put t 6 (t 5)) 7 v4) 8 v5) 9 v6) 10 v7) 13 v8) 14 v9) 15 (t 5)) 16 v10) 17 v11) 18 v12) 19 (t 1)) 20 v13) 21 (t 5)) 4 (t 5), H, n + 15⟩)
       ((binK .plain .add (t 5) (.int .i64 1)).bind fun v14 =>
        some ⟨.normal, put (put (put (put (put (put (put (put (put (put (put (put (put (put (put (put t 6 (t 5)) 7 v4) 8 v5) 9 v6) 10 v7) 13 v8) 14 v9) 15 (t 5)) 16 v10) 17 v11) 18 v12) 19 (t 1)) 20 v13) 11 (t 5)) 12 v14) 5 v14, H, n + 16⟩))
    (some ⟨(.exit 0), put (put (put (put (put t 6 (t 5)) 7 v4) 8 v5) 9 v6) 10 v7, H, n + 5⟩)
noncomputable def S26 (C : Calling) (L : Body → Body) (t : Tm) (H : Hp) (n : Nat) : Option (Value × Hp × Nat) :=
  (vcells (t 0)).bind fun c2 =>
  let H1 := H.set (n) (some (.row c2 0 true))
  (L (S26L0 C L) (put (put (put t 2 (ptr (n) 0)) 4 (.int .i64 0)) 5 (.int .i64 0)) H1 (n + 3)).bind fun (o3 : Out) =>
  let o15 := outOf 0 o3
  thenK o15
    (some (.int .i64 (-1), o15.H, o15.n + 1))
    (finE o15.e
       (some (o15.t 4, o15.H, o15.n)))
theorem s26 (C : Calling) (L : Body → Body) (t : Tm) (H : Hp) (n : Nat) : bodyK Try.prog C L Try.f26 t H n = S26 C L t H n := by kernel_rfl
theorem c26 (args : List Value) (H : Hp) (n : Nat) : Call Try.prog 26 args H n = S26 (Call Try.prog) Loop (argsT args) H n := (Call_body Try.func26 args H n).trans (s26 ..)
noncomputable def S27 (C : Calling) (L : Body → Body) (t : Tm) (H : Hp) (n : Nat) : Option (Value × Hp × Nat) :=
  (vcells (t 0)).bind fun c2 =>
  let H1 := H.set (n) (some (.row c2 0 true))
  (fieldA 0 (ptr (n) 0)).bind fun v3 =>
  (ld true 1 v3 H1).bind fun v4 =>
  (C 9 [v4, t 1] H1 (n + 7)).bind fun q5 =>
  (binK .plain .lss q5.1 (.int .i64 0)).bind fun v6 =>
  csel v6
    (some (.int .i64 (-1), q5.2.1, q5.2.2 + 3))
    (some (q5.1, q5.2.1, q5.2.2 + 4))
theorem s27 (C : Calling) (L : Body → Body) (t : Tm) (H : Hp) (n : Nat) : bodyK Try.prog C L Try.f27 t H n = S27 C L t H n := by kernel_rfl
theorem c27 (args : List Value) (H : Hp) (n : Nat) : Call Try.prog 27 args H n = S27 (Call Try.prog) Loop (argsT args) H n := (Call_body Try.func27 args H n).trans (s27 ..)
noncomputable def S28 (C : Calling) (L : Body → Body) (t : Tm) (H : Hp) (n : Nat) : Option (Value × Hp × Nat) :=
  (vcells (t 0)).bind fun c2 =>
  let H1 := H.set (n) (some (.row c2 0 true))
  (vcells (t 1)).bind fun c4 =>
  let H3 := H1.set (n + 1) (some (.row c4 0 true))
  (vcells (t 2)).bind fun c6 =>
  let H5 := H3.set (n + 2) (some (.row c6 0 true))
  let H7 := H5.set (n + 3) (some (.row [nilS, .int .i64 0, .int .i64 0, .int .i64 0, .int .i64 0, .int .i64 0, .int .i64 0, .int .i64 0] 0 true))
  (ld true 3 (ptr (n) 0) H7).bind fun v8 =>
  (ld true 8 (ptr (n + 1) 0) H7).bind fun v9 =>
  (C 76 [v8, v9] H7 (n + 8)).bind fun q10 =>
  (un .not q10.1).bind fun v11 =>
  csel v11
    ((bld [nilS, .int .i64 0, .int .i64 0, .int .i64 0, .int .i64 0, .int .i64 0, .int .i64 0, .int .i64 0] [(5, 1, .int .i64 3), (6, 1, .int .i64 7)]).bind fun v12 =>
     (st true 8 (ptr (n + 3) 0) v12 q10.2.1).bind fun H13 =>
     (ld true 8 (ptr (n + 3) 0) H13).bind fun v14 =>
     some (v14, H13, q10.2.2 + 2))
    ((fieldA 5 (ptr (n + 1) 0)).bind fun v15 =>
     (ld false 1 v15 q10.2.1).bind fun v16 =>
     (binK .plain .neq v16 (.int .i64 1)).bind fun v17 =>
     let t19 : Tm := put (put (put (put (put (put (put (put (put (put (put (put t 4 (ptr (n) 0)) 5 (ptr (n + 1) 0)) 6 (ptr (n + 2) 0)) 8 (ptr (n + 3) 0)) 10 v8) 11 v9) 12 q10.1) 13 v11) 15 v15) 16 v16) 17 v17) 18 v17
     (gsel v17 false
       ((ld true 1 (ptr (n + 2) 0) q10.2.1).bind fun v20 =>
        (C 45 [v20] q10.2.1 (q10.2.2 + 14)).bind fun q21 =>
        (un .not q21.1).bind fun v22 =>
        some (put (put (put t19 19 v20) 20 q21.1) 21 v22, q21.2.1, q21.2.2))
       (some (put (put (put t19 19 (.tuple #[])) 20 (.tuple #[])) 21 (.tuple #[]), q10.2.1, q10.2.2 + 14))
     ).bind fun (q18 : R3) =>
     (pickV (q18.1 18) (.bool true) (q18.1 21)).bind fun v23 =>
     let t25 : Tm := put (put q18.1 22 v23) 23 v23
     (gsel v23 false
       ((ld true 1 (t25 6) q18.2.1).bind fun v26 =>
        (C 46 [v26, t25 3] q18.2.1 (q18.2.2)).bind fun q27 =>
        (un .not q27.1).bind fun v28 =>
        some (put (put (put (put t25 24 v26) 25 (t25 3)) 26 q27.1) 27 v28, q27.2.1, q27.2.2))
       (some (put (put (put (put t25 24 (.tuple #[])) 25 (.tuple #[])) 26 (.tuple #[])) 27 (.tuple #[]), q18.2.1, q18.2.2))
     ).bind fun (q24 : R3) =>
     (pickV (q24.1 23) (.bool true) (q24.1 27)).bind fun v29 =>
     csel v29
       ((ld true 8 (q24.1 5) q24.2.1).bind fun v30 =>
        (C 77 [v30] q24.2.1 (q24.2.2 + 3)).bind fun q31 =>
        (st true 8 (q24.1 8) q31.1 q31.2.1).bind fun H32 =>
        (ld true 8 (q24.1 8) H32).bind fun v33 =>
        some (v33, H32, q31.2.2))
       ((ld true 8 (q24.1 5) q24.2.1).bind fun v34 =>
        (C 77 [v34] q24.2.1 (q24.2.2 + 4)).bind fun q35 =>
        let H36 := q35.2.1.set (q24.2.2 + 2) (some (.row [nilS, .int .i64 0, .int .i64 0, .int .i64 0, .int .i64 0, .int .i64 0, .int .i64 0, .int .i64 0] 0 true))
        (st true 8 (ptr (q24.2.2 + 2) 0) q35.1 H36).bind fun H37 =>
        (fieldA 0 (ptr (q24.2.2 + 2) 0)).bind fun v38 =>
        (ld true 1 (q24.1 6) H37).bind fun v39 =>
        (C 79 [v38, v39, q24.1 3] H37 (q35.2.2 + 5)).bind fun q40 =>
        (C 78 [ptr (q24.2.2 + 2) 0, q40.1] q40.2.1 (q40.2.2)).bind fun q41 =>
        (fieldA 1 (q24.1 5)).bind fun v42 =>
        (ld false 1 v42 q41.2.1).bind fun v43 =>
        (binK .plain .add v43 (.int .i64 1)).bind fun v44 =>
        (fieldA 1 (ptr (q24.2.2 + 2) 0)).bind fun v45 =>
        (st false 1 v45 v44 q41.2.1).bind fun H46 =>
        (fieldA 5 (ptr (q24.2.2 + 2) 0)).bind fun v47 =>
        (st false 1 v47 (.int .i64 0) H46).bind fun H48 =>
        (fieldA 6 (ptr (q24.2.2 + 2) 0)).bind fun v49 =>
        (st false 1 v49 (.int .i64 0) H48).bind fun H50 =>
        (fieldA 7 (ptr (q24.2.2 + 2) 0)).bind fun v51 =>
        (st false 1 v51 (.int .i64 0) H50).bind fun H52 =>
        (fieldA 1 (ptr (q24.2.2 + 2) 0)).bind fun v53 =>
        (ld false 1 v53 H52).bind fun v54 =>
        (fieldA 1 (q24.1 4)).bind fun v55 =>
        (ld false 1 v55 H52).bind fun v56 =>
        (lenV false v56).bind fun v57 =>
        (binK .plain .geq v54 v57).bind fun v58 =>
        csel v58
          ((ld true 8 (q24.1 5) H52).bind fun v59 =>
           (C 80 [v59, .int .i64 7] H52 (q41.2.2 + 21)).bind fun q60 =>
           (st true 8 (q24.1 8) q60.1 q60.2.1).bind fun H61 =>
           (ld true 8 (q24.1 8) H61).bind fun v62 =>
           some (v62, H61, q60.2.2))
          ((fieldA 0 (ptr (q24.2.2 + 2) 0)).bind fun v63 =>
           (fieldA 0 v63).bind fun v64 =>
           (ld false 1 v64 H52).bind fun v65 =>
           (lenV false v65).bind fun v66 =>
           (binK .plain .gtr v66 (.int .i64 3000)).bind fun v67 =>
           csel v67
             ((ld true 8 (q24.1 5) H52).bind fun v68 =>
              (C 80 [v68, .int .i64 6] H52 (q41.2.2 + 27)).bind fun q69 =>
              (st true 8 (q24.1 8) q69.1 q69.2.1).bind fun H70 =>
              (ld true 8 (q24.1 8) H70).bind fun v71 =>
              some (v71, H70, q69.2.2))
             ((ld true 8 (ptr (q24.2.2 + 2) 0) H52).bind fun v72 =>
              (st true 8 (q24.1 8) v72 H52).bind fun H73 =>
              (ld true 8 (q24.1 8) H73).bind fun v74 =>
              some (v74, H73, q41.2.2 + 26)))))
theorem s28 (C : Calling) (L : Body → Body) (t : Tm) (H : Hp) (n : Nat) : bodyK Try.prog C L Try.f28 t H n = S28 C L t H n := by kernel_rfl
theorem c28 (args : List Value) (H : Hp) (n : Nat) : Call Try.prog 28 args H n = S28 (Call Try.prog) Loop (argsT args) H n := (Call_body Try.func28 args H n).trans (s28 ..)
noncomputable def S29 (C : Calling) (L : Body → Body) (t : Tm) (H : Hp) (n : Nat) : Option (Value × Hp × Nat) :=
  (vcells (t 0)).bind fun c2 =>
  let H1 := H.set (n) (some (.row c2 0 true))
  let H3 := H1.set (n + 1) (some (.row [nilS, .int .i64 0, .int .i64 0, .int .i64 0, .int .i64 0, .int .i64 0, .int .i64 0, .int .i64 0] 0 true))
  let H4 := H3.set (n + 2) (some (.row [nilS, .int .i64 0, .int .i64 0, .int .i64 0, .int .i64 0, .int .i64 0, .int .i64 0, .int .i64 0] 0 true))
  (fieldA 0 (ptr (n) 0)).bind fun v5 =>
  (ld true 1 v5 H4).bind fun v6 =>
  (C 12 [v6] H4 (n + 8)).bind fun q7 =>
  (fieldA 0 (ptr (n + 2) 0)).bind fun v8 =>
  (st true 1 v8 q7.1 q7.2.1).bind fun H9 =>
  (fieldA 1 (ptr (n) 0)).bind fun v10 =>
  (ld false 1 v10 H9).bind fun v11 =>
  (fieldA 1 (ptr (n + 2) 0)).bind fun v12 =>
  (st false 1 v12 v11 H9).bind fun H13 =>
  (fieldA 2 (ptr (n) 0)).bind fun v14 =>
  (ld false 1 v14 H13).bind fun v15 =>
  (fieldA 2 (ptr (n + 2) 0)).bind fun v16 =>
  (st false 1 v16 v15 H13).bind fun H17 =>
  (fieldA 3 (ptr (n) 0)).bind fun v18 =>
  (ld false 1 v18 H17).bind fun v19 =>
  (fieldA 3 (ptr (n + 2) 0)).bind fun v20 =>
  (st false 1 v20 v19 H17).bind fun H21 =>
  (fieldA 4 (ptr (n) 0)).bind fun v22 =>
  (ld false 1 v22 H21).bind fun v23 =>
  (fieldA 4 (ptr (n + 2) 0)).bind fun v24 =>
  (st false 1 v24 v23 H21).bind fun H25 =>
  (fieldA 5 (ptr (n) 0)).bind fun v26 =>
  (ld false 1 v26 H25).bind fun v27 =>
  (fieldA 5 (ptr (n + 2) 0)).bind fun v28 =>
  (st false 1 v28 v27 H25).bind fun H29 =>
  (fieldA 6 (ptr (n) 0)).bind fun v30 =>
  (ld false 1 v30 H29).bind fun v31 =>
  (fieldA 6 (ptr (n + 2) 0)).bind fun v32 =>
  (st false 1 v32 v31 H29).bind fun H33 =>
  (fieldA 7 (ptr (n) 0)).bind fun v34 =>
  (ld false 1 v34 H33).bind fun v35 =>
  (fieldA 7 (ptr (n + 2) 0)).bind fun v36 =>
  (st false 1 v36 v35 H33).bind fun H37 =>
  (ld true 8 (ptr (n + 2) 0) H37).bind fun v38 =>
  (st true 8 (ptr (n + 1) 0) v38 H37).bind fun H39 =>
  (ld true 8 (ptr (n + 1) 0) H39).bind fun v40 =>
  some (v40, H39, q7.2.2 + 30)
theorem s29 (C : Calling) (L : Body → Body) (t : Tm) (H : Hp) (n : Nat) : bodyK Try.prog C L Try.f29 t H n = S29 C L t H n := by kernel_rfl
theorem c29 (args : List Value) (H : Hp) (n : Nat) : Call Try.prog 29 args H n = S29 (Call Try.prog) Loop (argsT args) H n := (Call_body Try.func29 args H n).trans (s29 ..)
noncomputable def S30 (C : Calling) (L : Body → Body) (t : Tm) (H : Hp) (n : Nat) : Option (Value × Hp × Nat) :=
  (vcells (t 0)).bind fun c2 =>
  let H1 := H.set (n) (some (.row c2 0 true))
  (vcells (t 1)).bind fun c4 =>
  let H3 := H1.set (n + 1) (some (.row c4 0 true))
  (vcells (t 2)).bind fun c6 =>
  let H5 := H3.set (n + 2) (some (.row c6 0 true))
  let H7 := H5.set (n + 3) (some (.row [nilS, .int .i64 0, .int .i64 0, .int .i64 0, .int .i64 0, .int .i64 0, .int .i64 0, .int .i64 0] 0 true))
  (ld true 3 (ptr (n) 0) H7).bind fun v8 =>
  (ld true 8 (ptr (n + 1) 0) H7).bind fun v9 =>
  (C 35 [v8, v9] H7 (n + 9)).bind fun q10 =>
  (un .not q10.1).bind fun v11 =>
  csel v11
    ((bld [nilS, .int .i64 0, .int .i64 0, .int .i64 0, .int .i64 0, .int .i64 0, .int .i64 0, .int .i64 0] [(5, 1, .int .i64 3), (6, 1, .int .i64 7)]).bind fun v12 =>
     (st true 8 (ptr (n + 3) 0) v12 q10.2.1).bind fun H13 =>
     (ld true 8 (ptr (n + 3) 0) H13).bind fun v14 =>
     some (v14, H13, q10.2.2 + 2))
    ((fieldA 5 (ptr (n + 1) 0)).bind fun v15 =>
     (ld false 1 v15 q10.2.1).bind fun v16 =>
     (binK .plain .neq v16 (.int .i64 1)).bind fun v17 =>
     let t19 : Tm := put (put (put (put (put (put (put (put (put (put (put (put (put t 4 (ptr (n) 0)) 5 (ptr (n + 1) 0)) 6 (ptr (n + 2) 0)) 8 (ptr (n + 3) 0)) 12 v8) 13 v9) 14 q10.1) 15 v11) 11 v11) 18 v15) 19 v16) 20 v17) 21 v17
     (gsel v17 false
       ((ld true 1 (ptr (n + 2) 0) q10.2.1).bind fun v20 =>
        (C 52 [v20] q10.2.1 (q10.2.2 + 15)).bind fun q21 =>
        (un .not q21.1).bind fun v22 =>
        some (put (put (put t19 22 v20) 23 q21.1) 24 v22, q21.2.1, q21.2.2))
       (some (put (put (put t19 22 (.tuple #[])) 23 (.tuple #[])) 24 (.tuple #[]), q10.2.1, q10.2.2 + 15))
     ).bind fun (q18 : R3) =>
     (pickV (q18.1 21) (.bool true) (q18.1 24)).bind fun v23 =>
     let t25 : Tm := put (put q18.1 25 v23) 26 v23
     (gsel v23 false
       ((ld true 1 (t25 6) q18.2.1).bind fun v26 =>
        (C 53 [v26, t25 3] q18.2.1 (q18.2.2)).bind fun q27 =>
        (un .not q27.1).bind fun v28 =>
        some (put (put (put (put t25 27 v26) 28 (t25 3)) 29 q27.1) 30 v28, q27.2.1, q27.2.2))
       (some (put (put (put (put t25 27 (.tuple #[])) 28 (.tuple #[])) 29 (.tuple #[])) 30 (.tuple #[]), q18.2.1, q18.2.2))
     ).bind fun (q24 : R3) =>
     (pickV (q24.1 26) (.bool true) (q24.1 30)).bind fun v29 =>
     csel v29
       ((ld true 8 (q24.1 5) q24.2.1).bind fun v30 =>
        (C 81 [v30] q24.2.1 (q24.2.2 + 3)).bind fun q31 =>
        (st true 8 (q24.1 8) q31.1 q31.2.1).bind fun H32 =>
        (ld true 8 (q24.1 8) H32).bind fun v33 =>
        some (v33, H32, q31.2.2))
       ((ld true 3 (q24.1 4) q24.2.1).bind fun v34 =>
        (fieldA 1 (q24.1 5)).bind fun v35 =>
        (ld false 1 v35 q24.2.1).bind fun v36 =>
        (binK .plain .add v36 (.int .i64 1)).bind fun v37 =>
        (C 54 [v34, v37] q24.2.1 (q24.2.2 + 6)).bind fun q38 =>
        (un .not q38.1).bind fun v39 =>
        csel v39
          ((ld true 8 (q24.1 5) q38.2.1).bind fun v40 =>
           (C 82 [v40, .int .i64 7] q38.2.1 (q38.2.2 + 3)).bind fun q41 =>
           (st true 8 (q24.1 8) q41.1 q41.2.1).bind fun H42 =>
           (ld true 8 (q24.1 8) H42).bind fun v43 =>
           some (v43, H42, q41.2.2))
          ((ld true 8 (q24.1 5) q38.2.1).bind fun v44 =>
           (C 81 [v44] q38.2.1 (q38.2.2 + 4)).bind fun q45 =>
           let H46 := q45.2.1.set (q38.2.2 + 2) (some (.row [nilS, .int .i64 0, .int .i64 0, .int .i64 0, .int .i64 0, .int .i64 0, .int .i64 0, .int .i64 0] 0 true))
           (st true 8 (ptr (q38.2.2 + 2) 0) q45.1 H46).bind fun H47 =>
           (fieldA 0 (ptr (q38.2.2 + 2) 0)).bind fun v48 =>
           (ld true 1 (q24.1 6) H47).bind fun v49 =>
           (C 83 [v48, v49, q24.1 3] H47 (q45.2.2 + 5)).bind fun q50 =>
           (fieldA 0 (ptr (q38.2.2 + 2) 0)).bind fun v51 =>
           (fieldA 2 (ptr (q38.2.2 + 2) 0)).bind fun v52 =>
           (ld false 1 v52 q50.2.1).bind fun v53 =>
           (C 57 [v51, q50.1, v53] q50.2.1 (q50.2.2 + 7)).bind fun q54 =>
           (fieldA 2 (ptr (q38.2.2 + 2) 0)).bind fun v55 =>
           (st false 1 v55 q54.1 q54.2.1).bind fun H56 =>
           (fieldA 1 (ptr (q38.2.2 + 2) 0)).bind fun v57 =>
           (ld false 1 v57 H56).bind fun v58 =>
           (binK .plain .add v58 (.int .i64 1)).bind fun v59 =>
           (fieldA 1 (ptr (q38.2.2 + 2) 0)).bind fun v60 =>
           (st false 1 v60 v59 H56).bind fun H61 =>
           (fieldA 5 (ptr (q38.2.2 + 2) 0)).bind fun v62 =>
           (st false 1 v62 (.int .i64 0) H61).bind fun H63 =>
           (fieldA 6 (ptr (q38.2.2 + 2) 0)).bind fun v64 =>
           (st false 1 v64 (.int .i64 0) H63).bind fun H65 =>
           (fieldA 7 (ptr (q38.2.2 + 2) 0)).bind fun v66 =>
           (st false 1 v66 (.int .i64 0) H65).bind fun H67 =>
           (fieldA 0 (ptr (q38.2.2 + 2) 0)).bind fun v68 =>
           (fieldA 0 v68).bind fun v69 =>
           (ld false 1 v69 H67).bind fun v70 =>
           (lenV false v70).bind fun v71 =>
           (binK .plain .gtr v71 (.int .i64 3000)).bind fun v72 =>
           csel v72
             ((ld true 8 (q24.1 5) H67).bind fun v73 =>
              (C 82 [v73, .int .i64 6] H67 (q54.2.2 + 19)).bind fun q74 =>
              (st true 8 (q24.1 8) q74.1 q74.2.1).bind fun H75 =>
              (ld true 8 (q24.1 8) H75).bind fun v76 =>
              some (v76, H75, q74.2.2))
             ((ld true 8 (ptr (q38.2.2 + 2) 0) H67).bind fun v77 =>
              (st true 8 (q24.1 8) v77 H67).bind fun H78 =>
              (ld true 8 (q24.1 8) H78).bind fun v79 =>
              some (v79, H78, q54.2.2 + 18)))))
theorem s30 (C : Calling) (L : Body → Body) (t : Tm) (H : Hp) (n : Nat) : bodyK Try.prog C L Try.f30 t H n = S30 C L t H n := by kernel_rfl
theorem c30 (args : List Value) (H : Hp) (n : Nat) : Call Try.prog 30 args H n = S30 (Call Try.prog) Loop (argsT args) H n := (Call_body Try.func30 args H n).trans (s30 ..)
noncomputable def S35 (C : Calling) (L : Body → Body) (t : Tm) (H : Hp) (n : Nat) : Option (Value × Hp × Nat) :=
  (vcells (t 0)).bind fun c2 =>
  let H1 := H.set (n) (some (.row c2 0 true))
  (vcells (t 1)).bind fun c4 =>
  let H3 := H1.set (n + 1) (some (.row c4 0 true))
  (ld true 3 (ptr (n) 0) H3).bind fun v5 =>
  (C 23 [v5] H3 (n + 36)).bind fun q6 =>
  (un .not q6.1).bind fun v7 =>
  let t9 : Tm := put (put (put (put (put (put (put t 2 (ptr (n) 0)) 3 (ptr (n + 1) 0)) 4 (.bool false)) 5 v5) 6 q6.1) 7 v7) 8 v7
  (gsel v7 false
    ((fieldA 0 (ptr (n + 1) 0)).bind fun v10 =>
     (ld true 1 v10 q6.2.1).bind fun v11 =>
     (C 52 [v11] q6.2.1 (q6.2.2)).bind fun q12 =>
     (un .not q12.1).bind fun v13 =>
     some (put (put (put (put t9 9 v10) 10 v11) 11 q12.1) 12 v13, q12.2.1, q12.2.2))
    (some (put (put (put (put t9 9 (.tuple #[])) 10 (.tuple #[])) 11 (.tuple #[])) 12 (.tuple #[]), q6.2.1, q6.2.2))
  ).bind fun (q8 : R3) =>
  (pickV (q8.1 8) (.bool true) (q8.1 12)).bind fun v14 =>
  let t16 : Tm := put (put q8.1 13 v14) 14 v14
  (gsel v14 false
    ((fieldA 0 (t16 3)).bind fun v17 =>
     (ld true 1 v17 q8.2.1).bind fun v18 =>
     (fieldA 2 (t16 3)).bind fun v19 =>
     (ld false 1 v19 q8.2.1).bind fun v20 =>
     (C 53 [v18, v20] q8.2.1 (q8.2.2)).bind fun q21 =>
     (un .not q21.1).bind fun v22 =>
     some (put (put (put (put (put (put t16 15 v17) 16 v18) 17 v19) 18 v20) 19 q21.1) 20 v22, q21.2.1, q21.2.2))
    (some (put (put (put (put (put (put t16 15 (.tuple #[])) 16 (.tuple #[])) 17 (.tuple #[])) 18 (.tuple #[])) 19 (.tuple #[])) 20 (.tuple #[]), q8.2.1, q8.2.2))
  ).bind fun (q15 : R3) =>
  (pickV (q15.1 14) (.bool true) (q15.1 20)).bind fun v23 =>
  let t25 : Tm := put (put q15.1 21 v23) 22 v23
  (gsel v23 false
    ((fieldA 0 (t25 3)).bind fun v26 =>
     (ld true 1 v26 q15.2.1).bind fun v27 =>
     (fieldA 3 (t25 3)).bind fun v28 =>
     (ld false 1 v28 q15.2.1).bind fun v29 =>
     (C 53 [v27, v29] q15.2.1 (q15.2.2)).bind fun q30 =>
     (un .not q30.1).bind fun v31 =>
     some (put (put (put (put (put (put t25 23 v26) 24 v27) 25 v28) 26 v29) 27 q30.1) 28 v31, q30.2.1, q30.2.2))
    (some (put (put (put (put (put (put t25 23 (.tuple #[])) 24 (.tuple #[])) 25 (.tuple #[])) 26 (.tuple #[])) 27 (.tuple #[])) 28 (.tuple #[]), q15.2.1, q15.2.2))
  ).bind fun (q24 : R3) =>
  (pickV (q24.1 22) (.bool true) (q24.1 28)).bind fun v32 =>
  let t34 : Tm := put (put q24.1 29 v32) 30 v32
  (gsel v32 false
    ((fieldA 0 (t34 3)).bind fun v35 =>
     (ld true 1 v35 q24.2.1).bind fun v36 =>
     (fieldA 4 (t34 3)).bind fun v37 =>
     (ld false 1 v37 q24.2.1).bind fun v38 =>
     (C 53 [v36, v38] q24.2.1 (q24.2.2)).bind fun q39 =>
     (un .not q39.1).bind fun v40 =>
     some (put (put (put (put (put (put t34 31 v35) 32 v36) 33 v37) 34 v38) 35 q39.1) 36 v40, q39.2.1, q39.2.2))
    (some (put (put (put (put (put (put t34 31 (.tuple #[])) 32 (.tuple #[])) 33 (.tuple #[])) 34 (.tuple #[])) 35 (.tuple #[])) 36 (.tuple #[]), q24.2.1, q24.2.2))
  ).bind fun (q33 : R3) =>
  (pickV (q33.1 30) (.bool true) (q33.1 36)).bind fun v41 =>
  csel v41
    (some (.bool false, q33.2.1, q33.2.2 + 1))
    ((fieldA 5 (q33.1 3)).bind fun v42 =>
     (ld false 1 v42 q33.2.1).bind fun v43 =>
     (binK .plain .eql v43 (.int .i64 0)).bind fun v44 =>
     csel v44
       ((ld true 3 (q33.1 2) q33.2.1).bind fun v45 =>
        (fieldA 1 (q33.1 3)).bind fun v46 =>
        (ld false 1 v46 q33.2.1).bind fun v47 =>
        (C 54 [v45, v47] q33.2.1 (q33.2.2 + 19)).bind fun q48 =>
        let t50 : Tm := put (put (put (put (put (put (put (put (put (put q33.1 37 v41) 38 v42) 39 v43) 41 v44) 40 v44) 42 v45) 43 v46) 44 v47) 45 q48.1) 46 q48.1
        (gsel q48.1 true
          ((fieldA 6 (t50 3)).bind fun v51 =>
           (ld false 1 v51 q48.2.1).bind fun v52 =>
           (binK .plain .eql v52 (.int .i64 0)).bind fun v53 =>
           some (put (put (put t50 47 v51) 48 v52) 49 v53, q48.2.1, q48.2.2))
          (some (put (put (put t50 47 (.tuple #[])) 48 (.tuple #[])) 49 (.tuple #[]), q48.2.1, q48.2.2))
        ).bind fun (q49 : R3) =>
        (pickV (q49.1 46) (q49.1 49) (.bool false)).bind fun v54 =>
        let t56 : Tm := put (put q49.1 50 v54) 51 v54
        (gsel v54 true
          ((fieldA 7 (t56 3)).bind fun v57 =>
           (ld false 1 v57 q49.2.1).bind fun v58 =>
           (binK .plain .eql v58 (.int .i64 0)).bind fun v59 =>
           some (put (put (put t56 52 v57) 53 v58) 54 v59, q49.2.1, q49.2.2))
          (some (put (put (put t56 52 (.tuple #[])) 53 (.tuple #[])) 54 (.tuple #[]), q49.2.1, q49.2.2))
        ).bind fun (q55 : R3) =>
        (pickV (q55.1 51) (q55.1 54) (.bool false)).bind fun v60 =>
        some (v60, q55.2.1, q55.2.2))
       ((binK .plain .eql v43 (.int .i64 1)).bind fun v61 =>
        csel v61
          ((ld true 3 (q33.1 2) q33.2.1).bind fun v62 =>
           (fieldA 1 (q33.1 3)).bind fun v63 =>
           (ld false 1 v63 q33.2.1).bind fun v64 =>
           (C 54 [v62, v64] q33.2.1 (q33.2.2 + 28)).bind fun q65 =>
           let t67 : Tm := put (put (put (put (put (put (put (put (put (put (put (put q33.1 37 v41) 38 v42) 39 v43) 41 v44) 40 v44) 57 v61) 56 v61) 58 v62) 59 v63) 60 v64) 61 q65.1) 62 q65.1
           (gsel q65.1 true
             ((fieldA 6 (t67 3)).bind fun v68 =>
              (ld false 1 v68 q65.2.1).bind fun v69 =>
              (C 70 [v69, .int .i64 13, .int .i64 19] q65.2.1 (q65.2.2)).bind fun q70 =>
              some (put (put (put t67 63 v68) 64 v69) 65 q70.1, q70.2.1, q70.2.2))
             (some (put (put (put t67 63 (.tuple #[])) 64 (.tuple #[])) 65 (.tuple #[]), q65.2.1, q65.2.2))
           ).bind fun (q66 : R3) =>
           (pickV (q66.1 62) (q66.1 65) (.bool false)).bind fun v71 =>
           let t73 : Tm := put (put q66.1 66 v71) 67 v71
           (gsel v71 true
             ((fieldA 6 (t73 3)).bind fun v74 =>
              (ld false 1 v74 q66.2.1).bind fun v75 =>
              (binK .plain .neq v75 (.int .i64 18)).bind fun v76 =>
              some (put (put (put t73 68 v74) 69 v75) 70 v76, q66.2.1, q66.2.2))
             (some (put (put (put t73 68 (.tuple #[])) 69 (.tuple #[])) 70 (.tuple #[]), q66.2.1, q66.2.2))
           ).bind fun (q72 : R3) =>
           (pickV (q72.1 67) (q72.1 70) (.bool false)).bind fun v77 =>
           let t79 : Tm := put (put q72.1 71 v77) 72 v77
           (gsel v77 true
             ((fieldA 0 (t79 3)).bind fun v80 =>
              (ld true 1 v80 q72.2.1).bind fun v81 =>
              (fieldA 7 (t79 3)).bind fun v82 =>
              (ld false 1 v82 q72.2.1).bind fun v83 =>
              (C 53 [v81, v83] q72.2.1 (q72.2.2)).bind fun q84 =>
              some (put (put (put (put (put t79 73 v80) 74 v81) 75 v82) 76 v83) 77 q84.1, q84.2.1, q84.2.2))
             (some (put (put (put (put (put t79 73 (.tuple #[])) 74 (.tuple #[])) 75 (.tuple #[])) 76 (.tuple #[])) 77 (.tuple #[]), q72.2.1, q72.2.2))
           ).bind fun (q78 : R3) =>
           (pickV (q78.1 72) (q78.1 77) (.bool false)).bind fun v85 =>
           some (v85, q78.2.1, q78.2.2))
          ((binK .plain .eql v43 (.int .i64 2)).bind fun v86 =>
           csel v86
             ((fieldA 1 (q33.1 3)).bind fun v87 =>
              (ld false 1 v87 q33.2.1).bind fun v88 =>
              (binK .plain .eql v88 (.int .i64 0)).bind fun v89 =>
              let t91 : Tm := put (put (put (put (put (put (put (put (put (put (put (put (put q33.1 37 v41) 38 v42) 39 v43) 41 v44) 40 v44) 57 v61) 56 v61) 80 v86) 79 v86) 81 v87) 82 v88) 83 v89) 84 v89
              (gsel v89 true
                ((fieldA 6 (t91 3)).bind fun v92 =>
                 (ld false 1 v92 q33.2.1).bind fun v93 =>
                 (binK .plain .eql v93 (.int .i64 0)).bind fun v94 =>
                 some (put (put (put t91 85 v92) 86 v93) 87 v94, q33.2.1, q33.2.2 + 24))
                (some (put (put (put t91 85 (.tuple #[])) 86 (.tuple #[])) 87 (.tuple #[]), q33.2.1, q33.2.2 + 24))
              ).bind fun (q90 : R3) =>
              (pickV (q90.1 84) (q90.1 87) (.bool false)).bind fun v95 =>
              let t97 : Tm := put (put q90.1 88 v95) 89 v95
              (gsel v95 true
                ((fieldA 0 (t97 3)).bind fun v98 =>
                 (ld true 1 v98 q90.2.1).bind fun v99 =>
                 (fieldA 7 (t97 3)).bind fun v100 =>
                 (ld false 1 v100 q90.2.1).bind fun v101 =>
                 (C 53 [v99, v101] q90.2.1 (q90.2.2)).bind fun q102 =>
                 some (put (put (put (put (put t97 90 v98) 91 v99) 92 v100) 93 v101) 94 q102.1, q102.2.1, q102.2.2))
                (some (put (put (put (put (put t97 90 (.tuple #[])) 91 (.tuple #[])) 92 (.tuple #[])) 93 (.tuple #[])) 94 (.tuple #[]), q90.2.1, q90.2.2))
              ).bind fun (q96 : R3) =>
              (pickV (q96.1 89) (q96.1 94) (.bool false)).bind fun v103 =>
              some (v103, q96.2.1, q96.2.2))
             ((binK .plain .eql v43 (.int .i64 3)).bind fun v104 =>
              csel v104
                ((fieldA 1 (q33.1 3)).bind fun v105 =>
                 (ld false 1 v105 q33.2.1).bind fun v106 =>
                 (binK .plain .eql v106 (.int .i64 0)).bind fun v107 =>
                 let t109 : Tm := put (put (put (put (put (put (put (put (put (put (put (put (put (put (put q33.1 37 v41) 38 v42) 39 v43) 41 v44) 40 v44) 57 v61) 56 v61) 80 v86) 79 v86) 97 v104) 96 v104) 98 v105) 99 v106) 100 v107) 101 v107
                 (gsel v107 true
                   ((fieldA 6 (t109 3)).bind fun v110 =>
                    (ld false 1 v110 q33.2.1).bind fun v111 =>
                    (C 70 [v111, .int .i64 1, .int .i64 7] q33.2.1 (q33.2.2 + 24)).bind fun q112 =>
                    some (put (put (put t109 102 v110) 103 v111) 104 q112.1, q112.2.1, q112.2.2))
                   (some (put (put (put t109 102 (.tuple #[])) 103 (.tuple #[])) 104 (.tuple #[]), q33.2.1, q33.2.2 + 24))
                 ).bind fun (q108 : R3) =>
                 (pickV (q108.1 101) (q108.1 104) (.bool false)).bind fun v113 =>
                 let t115 : Tm := put (put q108.1 105 v113) 106 v113
                 (gsel v113 true
                   ((fieldA 7 (t115 3)).bind fun v116 =>
                    (ld false 1 v116 q108.2.1).bind fun v117 =>
                    (binK .plain .eql v117 (.int .i64 0)).bind fun v118 =>
                    some (put (put (put t115 107 v116) 108 v117) 109 v118, q108.2.1, q108.2.2))
                   (some (put (put (put t115 107 (.tuple #[])) 108 (.tuple #[])) 109 (.tuple #[]), q108.2.1, q108.2.2))
                 ).bind fun (q114 : R3) =>
                 (pickV (q114.1 106) (q114.1 109) (.bool false)).bind fun v119 =>
                 some (v119, q114.2.1, q114.2.2))
                (some (.bool false, q33.2.1, q33.2.2 + 11))))))
theorem s35 (C : Calling) (L : Body → Body) (t : Tm) (H : Hp) (n : Nat) : bodyK Try.prog C L Try.f35 t H n = S35 C L t H n := by kernel_rfl
theorem c35 (args : List Value) (H : Hp) (n : Nat) : Call Try.prog 35 args H n = S35 (Call Try.prog) Loop (argsT args) H n := (Call_body Try.func35 args H n).trans (s35 ..)
noncomputable def S42L0 (C : Calling) (L : Body → Body) : Body := fun t H n =>
  (lenV false (t 0)).bind fun v5 =>
  (binK .plain .lss (t 5) v5).bind fun v6 =>
  csel v6
    ((idxA 4 (t 0) (t 5)).bind fun v7 =>
     (ld true 4 v7 H).bind fun v8 =>
     (C 95 [v8, t 1] H (n + 11)).bind fun q9 =>
     (binK .plain .lss q9.1 (.int .i64 0)).bind fun v10 =>
     csel v10
       (some ⟨.ret, put (put (put (put (put (put (put (put (put (put (put (put (put (put t 12 (t 5)) 13 (t 0)) 14 v5) 15 v6) 18 (t 0)) 19 (t 5)) 20 v7) 21 v8) 22 (t 1)) 23 q9.1) 1 q9.1) 24 q9.1) 25 v10) 4 (.int .i64 (-1)), q9.2.1, q9.2.2 + 3⟩)
       ((binK .plain .add (t 5) (.int .i64 1)).bind fun v11 =>
        some ⟨.normal, put (put (put (put (put (put (put (put (put (put (put (put (put (put (put (put t 12 (t 5)) 13 (t 0)) 14 v5) 15 v6) 18 (t 0)) 19 (t 5)) 20 v7) 21 v8) 22 (t 1)) 23 q9.1) 1 q9.1) 24 q9.1) 25 v10) 16 (t 5)) 17 v11) 5 v11, q9.2.1, q9.2.2 + 5⟩))
    (some ⟨(.exit 0), put (put (put (put t 12 (t 5)) 13 (t 0)) 14 v5) 15 v6, H, n + 4⟩)
noncomputable def S42 (C : Calling) (L : Body → Body) (t : Tm) (H : Hp) (n : Nat) : Option (Value × Hp × Nat) :=
  (lenV false (t 0)).bind fun v1 =>
  (binK .plain .sub (t 1) v1).bind fun v2 =>
  (binK .plain .lss v2 (.int .i64 0)).bind fun v3 =>
  csel v3
    (some (.int .i64 (-1), H, n + 9))
    ((L (S42L0 C L) (put (put (put (put (put (put (put (put (put t 4 (.int .i64 0)) 6 (t 1)) 7 (t 0)) 8 v1) 9 v2) 1 v2) 10 v2) 11 v3) 5 (.int .i64 0)) H (n + 9)).bind fun (o4 : Out) =>
     let o12 := outOf 0 o4
     thenK o12
       (some (o12.t 1, o12.H, o12.n + 2))
       (finE o12.e
          (some (o12.t 4, o12.H, o12.n))))
theorem s42 (C : Calling) (L : Body → Body) (t : Tm) (H : Hp) (n : Nat) : bodyK Try.prog C L Try.f42 t H n = S42 C L t H n := by kernel_rfl
theorem c42 (args : List Value) (H : Hp) (n : Nat) : Call Try.prog 42 args H n = S42 (Call Try.prog) Loop (argsT args) H n := (Call_body Try.func42 args H n).trans (s42 ..)
noncomputable def S43L0 (C : Calling) (L : Body → Body) : Body := fun t H n =>
  (lenV false (t 0)).bind fun v5 =>
  (binK .plain .lss (t 5) v5).bind fun v6 =>
  csel v6
    ((idxA 3 (t 0) (t 5)).bind fun v7 =>
     (ld true 3 v7 H).bind fun v8 =>
     (C 96 [v8, t 1] H (n + 11)).bind fun q9 =>
     (binK .plain .lss q9.1 (.int .i64 0)).bind fun v10 =>
     csel v10
       (some ⟨.ret, put (put (put (put (put (put (put (put (put (put (put (put (put (put t 12 (t 5)) 13 (t 0)) 14 v5) 15 v6) 18 (t 0)) 19 (t 5)) 20 v7) 21 v8) 22 (t 1)) 23 q9.1) 1 q9.1) 24 q9.1) 25 v10) 4 (.int .i64 (-1)), q9.2.1, q9.2.2 + 3⟩)
       ((binK .plain .add (t 5) (.int .i64 1)).bind fun v11 =>
        some ⟨.normal, put (put (put (put (put (put (put (put (put (put (put (put (put (put (put (put t 12 (t 5)) 13 (t 0)) 14 v5) 15 v6) 18 (t 0)) 19 (t 5)) 20 v7) 21 v8) 22 (t 1)) 23 q9.1) 1 q9.1) 24 q9.1) 25 v10) 16 (t 5)) 17 v11) 5 v11, q9.2.1, q9.2.2 + 5⟩))
    (some ⟨(.exit 0), put (put (put (put t 12 (t 5)) 13 (t 0)) 14 v5) 15 v6, H, n + 4⟩)
noncomputable def S43 (C : Calling) (L : Body → Body) (t : Tm) (H : Hp) (n : Nat) : Option (Value × Hp × Nat) :=
  (lenV false (t 0)).bind fun v1 =>
  (binK .plain .sub (t 1) v1).bind fun v2 =>
  (binK .plain .lss v2 (.int .i64 0)).bind fun v3 =>
  csel v3
    (some (.int .i64 (-1), H, n + 9))
    ((L (S43L0 C L) (put (put (put (put (put (put (put (put (put t 4 (.int .i64 0)) 6 (t 1)) 7 (t 0)) 8 v1) 9 v2) 1 v2) 10 v2) 11 v3) 5 (.int .i64 0)) H (n + 9)).bind fun (o4 : Out) =>
     let o12 := outOf 0 o4
     thenK o12
       (some (o12.t 1, o12.H, o12.n + 2))
       (finE o12.e
          (some (o12.t 4, o12.H, o12.n))))
theorem s43 (C : Calling) (L : Body → Body) (t : Tm) (H : Hp) (n : Nat) : bodyK Try.prog C L Try.f43 t H n = S43 C L t H n := by kernel_rfl
theorem c43 (args : List Value) (H : Hp) (n : Nat) : Call Try.prog 43 args H n = S43 (Call Try.prog) Loop (argsT args) H n := (Call_body Try.func43 args H n).trans (s43 ..)
noncomputable def S44L0 (C : Calling) (L : Body → Body) : Body := fun t H n =>
  (lenV false (t 0)).bind fun v5 =>
  (binK .plain .lss (t 5) v5).bind fun v6 =>
  csel v6
    ((idxA 5 (t 0) (t 5)).bind fun v7 =>
     (ld true 5 v7 H).bind fun v8 =>
     (C 97 [v8, t 1] H (n + 11)).bind fun q9 =>
     (binK .plain .lss q9.1 (.int .i64 0)).bind fun v10 =>
     csel v10
       (some ⟨.ret, put (put (put (put (put (put (put (put (put (put (put (put (put (put t 12 (t 5)) 13 (t 0)) 14 v5) 15 v6) 18 (t 0)) 19 (t 5)) 20 v7) 21 v8) 22 (t 1)) 23 q9.1) 1 q9.1) 24 q9.1) 25 v10) 4 (.int .i64 (-1)), q9.2.1, q9.2.2 + 3⟩)
       ((binK .plain .add (t 5) (.int .i64 1)).bind fun v11 =>
        some ⟨.normal, put (put (put (put (put (put (put (put (put (put (put (put (put (put (put (put t 12 (t 5)) 13 (t 0)) 14 v5) 15 v6) 18 (t 0)) 19 (t 5)) 20 v7) 21 v8) 22 (t 1)) 23 q9.1) 1 q9.1) 24 q9.1) 25 v10) 16 (t 5)) 17 v11) 5 v11, q9.2.1, q9.2.2 + 5⟩))
    (some ⟨(.exit 0), put (put (put (put t 12 (t 5)) 13 (t 0)) 14 v5) 15 v6, H, n + 4⟩)
noncomputable def S44 (C : Calling) (L : Body → Body) (t : Tm) (H : Hp) (n : Nat) : Option (Value × Hp × Nat) :=
  (lenV false (t 0)).bind fun v1 =>
  (binK .plain .sub (t 1) v1).bind fun v2 =>
  (binK .plain .lss v2 (.int .i64 0)).bind fun v3 =>
  csel v3
    (some (.int .i64 (-1), H, n + 9))
    ((L (S44L0 C L) (put (put (put (put (put (put (put (put (put t 4 (.int .i64 0)) 6 (t 1)) 7 (t 0)) 8 v1) 9 v2) 1 v2) 10 v2) 11 v3) 5 (.int .i64 0)) H (n + 9)).bind fun (o4 : Out) =>
     let o12 := outOf 0 o4
     thenK o12
       (some (o12.t 1, o12.H, o12.n + 2))
       (finE o12.e
          (some (o12.t 4, o12.H, o12.n))))
theorem s44 (C : Calling) (L : Body → Body) (t : Tm) (H : Hp) (n : Nat) : bodyK Try.prog C L Try.f44 t H n = S44 C L t H n := by kernel_rfl
theorem c44 (args : List Value) (H : Hp) (n : Nat) : Call Try.prog 44 args H n = S44 (Call Try.prog) Loop (argsT args) H n := (Call_body Try.func44 args H n).trans (s44 ..)
noncomputable def S45L0 (C : Calling) (L : Body → Body) : Body := fun t H n =>
  (fieldA 0 (t 1)).bind fun v4 =>
  (ld false 1 v4 H).bind fun v5 =>
  (lenV false v5).bind fun v6 =>
  (binK .plain .lss (t 3) v6).bind fun v7 =>
  csel v7
    ((fieldA 0 (t 1)).bind fun v8 =>
     (ld false 1 v8 H).bind fun v9 =>
     (idxA 5 v9 (t 3)).bind fun v10 =>
     (ld true 5 v10 H).bind fun v11 =>
     (C 98 [v11, t 3] H (n + 13)).bind fun q12 =>
     (un .not q12.1).bind fun v13 =>
     csel v13
       (some ⟨.ret, put (put (put (put (put (put (put (put (put (put (put (put (put (put t 4 (t 3)) 5 v4) 6 v5) 7 v6) 8 v7) 11 v8) 12 v9) 13 (t 3)) 14 v10) 15 v11) 16 (t 3)) 17 q12.1) 18 v13) 2 (.bool false), q12.2.1, q12.2.2 + 1⟩)
       ((binK .plain .add (t 3) (.int .i64 1)).bind fun v14 =>
        some ⟨.normal, put (put (put (put (put (put (put (put (put (put (put (put (put (put (put (put t 4 (t 3)) 5 v4) 6 v5) 7 v6) 8 v7) 11 v8) 12 v9) 13 (t 3)) 14 v10) 15 v11) 16 (t 3)) 17 q12.1) 18 v13) 9 (t 3)) 10 v14) 3 v14, q12.2.1, q12.2.2 + 3⟩))
    (some ⟨(.exit 0), put (put (put (put (put t 4 (t 3)) 5 v4) 6 v5) 7 v6) 8 v7, H, n + 5⟩)
noncomputable def S45 (C : Calling) (L : Body → Body) (t : Tm) (H : Hp) (n : Nat) : Option (Value × Hp × Nat) :=
  (vcells (t 0)).bind fun c2 =>
  let H1 := H.set (n) (some (.row c2 0 true))
  (L (S45L0 C L) (put (put (put t 1 (ptr (n) 0)) 2 (.bool false)) 3 (.int .i64 0)) H1 (n + 3)).bind fun (o3 : Out) =>
  let o15 := outOf 0 o3
  thenK o15
    ((fieldA 0 (o15.t 1)).bind fun v16 =>
     (ld false 1 v16 o15.H).bind fun v17 =>
     (lenV false v17).bind fun v18 =>
     (binK .plain .leq v18 (.int .i64 3000)).bind fun v19 =>
     some (v19, o15.H, o15.n + 5))
    (finE o15.e
       (some (o15.t 2, o15.H, o15.n)))
theorem s45 (C : Calling) (L : Body → Body) (t : Tm) (H : Hp) (n : Nat) : bodyK Try.prog C L Try.f45 t H n = S45 C L t H n := by kernel_rfl
theorem c45 (args : List Value) (H : Hp) (n : Nat) : Call Try.prog 45 args H n = S45 (Call Try.prog) Loop (argsT args) H n := (Call_body Try.func45 args H n).trans (s45 ..)
noncomputable def S46 (C : Calling) (L : Body → Body) (t : Tm) (H : Hp) (n : Nat) : Option (Value × Hp × Nat) :=
  (vcells (t 0)).bind fun c2 =>
  let H1 := H.set (n) (some (.row c2 0 true))
  (fieldA 0 (ptr (n) 0)).bind fun v3 =>
  (ld false 1 v3 H1).bind fun v4 =>
  (lenV false v4).bind fun v5 =>
  (binK .plain .sub v5 (.int .i64 1)).bind fun v6 =>
  (C 75 [t 1, .int .i64 0, v6] H1 (n + 9)).bind fun q7 =>
  some (q7.1, q7.2.1, q7.2.2)
theorem s46 (C : Calling) (L : Body → Body) (t : Tm) (H : Hp) (n : Nat) : bodyK Try.prog C L Try.f46 t H n = S46 C L t H n := by kernel_rfl
theorem c46 (args : List Value) (H : Hp) (n : Nat) : Call Try.prog 46 args H n = S46 (Call Try.prog) Loop (argsT args) H n := (Call_body Try.func46 args H n).trans (s46 ..)
noncomputable def S47 (C : Calling) (L : Body → Body) (t : Tm) (H : Hp) (n : Nat) : Option (Value × Hp × Nat) :=
  (vcells (t 0)).bind fun c2 =>
  let H1 := H.set (n) (some (.row c2 0 true))
  let H3 := H1.set (n + 1) (some (.row [nilS] 0 true))
  (bsl (n + 2) 5 0 [.int .i64 0, .int .i64 0, .string ⟨#[]⟩, .int .i64 0, .int .i64 0] [] H3).bind fun p4 =>
  (fieldA 0 (ptr (n) 0)).bind fun v5 =>
  (ld false 1 v5 p4.2).bind fun v6 =>
  (app (n + 5) 5 48 p4.1 v6 p4.2).bind fun p7 =>
  (bld [nilS] [(0, 1, p7.1)]).bind fun v8 =>
  (st true 1 (ptr (n + 1) 0) v8 p7.2).bind fun H9 =>
  (ld true 1 (ptr (n + 1) 0) H9).bind fun v10 =>
  some (v10, H9, n + 8)
theorem s47 (C : Calling) (L : Body → Body) (t : Tm) (H : Hp) (n : Nat) : bodyK Try.prog C L Try.f47 t H n = S47 C L t H n := by kernel_rfl
theorem c47 (args : List Value) (H : Hp) (n : Nat) : Call Try.prog 47 args H n = S47 (Call Try.prog) Loop (argsT args) H n := (Call_body Try.func47 args H n).trans (s47 ..)
noncomputable def S48 (C : Calling) (L : Body → Body) (t : Tm) (H : Hp) (n : Nat) : Option (Value × Hp × Nat) :=
  (vcells (t 1)).bind fun c2 =>
  let H1 := H.set (n) (some (.row c2 0 true))
  (nilchk (t 0)).bind fun v3 =>
  (fieldA 0 v3).bind fun v4 =>
  (ld false 1 v4 H1).bind fun v5 =>
  (ld true 5 (ptr (n) 0) H1).bind fun v6 =>
  (bsl (n + 8) 5 1 [.int .i64 0, .int .i64 0, .string ⟨#[]⟩, .int .i64 0, .int .i64 0] [(0, 5, v6)] H1).bind fun p7 =>
  (app (n + 9) 5 48 v5 p7.1 p7.2).bind fun p8 =>
  (nilchk (t 0)).bind fun v9 =>
  (fieldA 0 v9).bind fun v10 =>
  (st false 1 v10 p8.1 p8.2).bind fun H11 =>
  (nilchk (t 0)).bind fun v12 =>
  (fieldA 0 v12).bind fun v13 =>
  (ld false 1 v13 H11).bind fun v14 =>
  (lenV false v14).bind fun v15 =>
  (binK .plain .sub v15 (.int .i64 1)).bind fun v16 =>
  some (v16, H11, n + 20)
theorem s48 (C : Calling) (L : Body → Body) (t : Tm) (H : Hp) (n : Nat) : bodyK Try.prog C L Try.f48 t H n = S48 C L t H n := by kernel_rfl
theorem c48 (args : List Value) (H : Hp) (n : Nat) : Call Try.prog 48 args H n = S48 (Call Try.prog) Loop (argsT args) H n := (Call_body Try.func48 args H n).trans (s48 ..)
noncomputable def S49L0 (C : Calling) (L : Body → Body) : Body := fun t H n =>
  (lenV false (t 0)).bind fun v4 =>
  (binK .plain .lss (t 4) v4).bind fun v5 =>
  csel v5
    ((idxA 4 (t 0) (t 4)).bind fun v6 =>
     (ld true 4 v6 H).bind fun v7 =>
     (C 99 [v7] H (n + 13)).bind fun q8 =>
     (idxA 4 (t 3) (t 4)).bind fun v9 =>
     (st true 4 v9 q8.1 q8.2.1).bind fun H10 =>
     (binK .plain .add (t 4) (.int .i64 1)).bind fun v11 =>
     some ⟨.normal, put (put (put (put (put (put (put (put (put (put (put (put (put (put (put t 8 (t 4)) 9 (t 0)) 10 v4) 11 v5) 14 (t 3)) 15 (t 4)) 16 (t 0)) 17 (t 4)) 18 v6) 19 v7) 20 q8.1) 21 v9) 12 (t 4)) 13 v11) 4 v11, H10, q8.2.2 + 3⟩)
    (some ⟨(.exit 0), put (put (put (put t 8 (t 4)) 9 (t 0)) 10 v4) 11 v5, H, n + 4⟩)
noncomputable def S49 (C : Calling) (L : Body → Body) (t : Tm) (H : Hp) (n : Nat) : Option (Value × Hp × Nat) :=
  (lenV false (t 0)).bind fun v1 =>
  (mks (n + 3) 4 40 [.int .i64 0, .int .i64 0, .int .i64 0, .string ⟨#[]⟩] v1 v1 H).bind fun p2 =>
  (L (S49L0 C L) (put (put (put (put (put (put t 2 nilS) 5 (t 0)) 6 v1) 7 p2.1) 3 p2.1) 4 (.int .i64 0)) p2.2 (n + 6)).bind fun (o3 : Out) =>
  some (o3.t 3, o3.H, o3.n + 2)
theorem s49 (C : Calling) (L : Body → Body) (t : Tm) (H : Hp) (n : Nat) : bodyK Try.prog C L Try.f49 t H n = S49 C L t H n := by kernel_rfl
theorem c49 (args : List Value) (H : Hp) (n : Nat) : Call Try.prog 49 args H n = S49 (Call Try.prog) Loop (argsT args) H n := (Call_body Try.func49 args H n).trans (s49 ..)
noncomputable def S50L0 (C : Calling) (L : Body → Body) : Body := fun t H n =>
  (lenV false (t 0)).bind fun v4 =>
  (binK .plain .lss (t 4) v4).bind fun v5 =>
  csel v5
    ((idxA 3 (t 0) (t 4)).bind fun v6 =>
     (ld true 3 v6 H).bind fun v7 =>
     (C 100 [v7] H (n + 13)).bind fun q8 =>
     (idxA 3 (t 3) (t 4)).bind fun v9 =>
     (st true 3 v9 q8.1 q8.2.1).bind fun H10 =>
     (binK .plain .add (t 4) (.int .i64 1)).bind fun v11 =>
     some ⟨.normal, put (put (put (put (put (put (put (put (put (put (put (put (put (put (put t 8 (t 4)) 9 (t 0)) 10 v4) 11 v5) 14 (t 3)) 15 (t 4)) 16 (t 0)) 17 (t 4)) 18 v6) 19 v7) 20 q8.1) 21 v9) 12 (t 4)) 13 v11) 4 v11, H10, q8.2.2 + 3⟩)
    (some ⟨(.exit 0), put (put (put (put t 8 (t 4)) 9 (t 0)) 10 v4) 11 v5, H, n + 4⟩)
noncomputable def S50 (C : Calling) (L : Body → Body) (t : Tm) (H : Hp) (n : Nat) : Option (Value × Hp × Nat) :=
  (lenV false (t 0)).bind fun v1 =>
  (mks (n + 3) 3 32 [.string ⟨#[]⟩, .int .i64 0, .int .i64 0] v1 v1 H).bind fun p2 =>
  (L (S50L0 C L) (put (put (put (put (put (put t 2 nilS) 5 (t 0)) 6 v1) 7 p2.1) 3 p2.1) 4 (.int .i64 0)) p2.2 (n + 6)).bind fun (o3 : Out) =>
  some (o3.t 3, o3.H, o3.n + 2)
theorem s50 (C : Calling) (L : Body → Body) (t : Tm) (H : Hp) (n : Nat) : bodyK Try.prog C L Try.f50 t H n = S50 C L t H n := by kernel_rfl
theorem c50 (args : List Value) (H : Hp) (n : Nat) : Call Try.prog 50 args H n = S50 (Call Try.prog) Loop (argsT args) H n := (Call_body Try.func50 args H n).trans (s50 ..)
noncomputable def S51L0 (C : Calling) (L : Body → Body) : Body := fun t H n =>
  (lenV false (t 0)).bind fun v4 =>
  (binK .plain .lss (t 4) v4).bind fun v5 =>
  csel v5
    ((idxA 5 (t 0) (t 4)).bind fun v6 =>
     (ld true 5 v6 H).bind fun v7 =>
     (C 101 [v7] H (n + 13)).bind fun q8 =>
     (idxA 5 (t 3) (t 4)).bind fun v9 =>
     (st true 5 v9 q8.1 q8.2.1).bind fun H10 =>
     (binK .plain .add (t 4) (.int .i64 1)).bind fun v11 =>
     some ⟨.normal, put (put (put (put (put (put (put (put (put (put (put (put (put (put (put t 8 (t 4)) 9 (t 0)) 10 v4) 11 v5) 14 (t 3)) 15 (t 4)) 16 (t 0)) 17 (t 4)) 18 v6) 19 v7) 20 q8.1) 21 v9) 12 (t 4)) 13 v11) 4 v11, H10, q8.2.2 + 3⟩)
    (some ⟨(.exit 0), put (put (put (put t 8 (t 4)) 9 (t 0)) 10 v4) 11 v5, H, n + 4⟩)
noncomputable def S51 (C : Calling) (L : Body → Body) (t : Tm) (H : Hp) (n : Nat) : Option (Value × Hp × Nat) :=
  (lenV false (t 0)).bind fun v1 =>
  (mks (n + 3) 5 48 [.int .i64 0, .int .i64 0, .string ⟨#[]⟩, .int .i64 0, .int .i64 0] v1 v1 H).bind fun p2 =>
  (L (S51L0 C L) (put (put (put (put (put (put t 2 nilS) 5 (t 0)) 6 v1) 7 p2.1) 3 p2.1) 4 (.int .i64 0)) p2.2 (n + 6)).bind fun (o3 : Out) =>
  some (o3.t 3, o3.H, o3.n + 2)
theorem s51 (C : Calling) (L : Body → Body) (t : Tm) (H : Hp) (n : Nat) : bodyK Try.prog C L Try.f51 t H n = S51 C L t H n := by kernel_rfl
theorem c51 (args : List Value) (H : Hp) (n : Nat) : Call Try.prog 51 args H n = S51 (Call Try.prog) Loop (argsT args) H n := (Call_body Try.func51 args H n).trans (s51 ..)
noncomputable def S52L0 (C : Calling) (L : Body → Body) : Body := fun t H n =>
  (binK .plain .lss (t 8) (t 7)).bind fun v7 =>
  csel v7
    ((idxA 5 (t 6) (t 8)).bind fun v8 =>
     (ld true 5 v8 H).bind fun v9 =>
     let H10 := H.set (n + 4) (some (.row [.int .i64 0, .int .i64 0, .string ⟨#[]⟩, .int .i64 0, .int .i64 0] 0 true))
     (st true 5 (ptr (n + 4) 0) v9 H10).bind fun H11 =>
     (ld true 5 (ptr (n + 4) 0) H11).bind fun v12 =>
     (C 102 [v12, t 8] H11 (n + 11)).bind fun q13 =>
     (un .not q13.1).bind fun v14 =>
     csel v14
       (some ⟨.ret, put (put (put (put (put (put (put (put (put (put (put t 9 v7) 10 (t 8)) 11 v8) 12 v9) 4 (ptr (n + 4) 0)) 3 (t 8)) 13 v12) 14 (t 8)) 15 q13.1) 16 v14) 2 (.bool false), q13.2.1, q13.2.2 + 1⟩)
       ((binK .plain .add (t 8) (.int .i64 1)).bind fun v15 =>
        some ⟨.normal, put (put (put (put (put (put (put (put (put (put (put (put t 9 v7) 10 (t 8)) 11 v8) 12 v9) 4 (ptr (n + 4) 0)) 3 (t 8)) 13 v12) 14 (t 8)) 15 q13.1) 16 v14) 17 v15) 8 v15, q13.2.1, q13.2.2 + 2⟩))
    (some ⟨(.exit 0), put t 9 v7, H, n + 1⟩)
noncomputable def S52 (C : Calling) (L : Body → Body) (t : Tm) (H : Hp) (n : Nat) : Option (Value × Hp × Nat) :=
  (vcells (t 0)).bind fun c2 =>
  let H1 := H.set (n) (some (.row c2 0 true))
  (fieldA 0 (ptr (n) 0)).bind fun v3 =>
  (ld false 1 v3 H1).bind fun v4 =>
  (lenV false v4).bind fun v5 =>
  (L (S52L0 C L) (put (put (put (put (put (put t 1 (ptr (n) 0)) 2 (.bool false)) 5 v3) 6 v4) 7 v5) 8 (.int .i64 0)) H1 (n + 6)).bind fun (o6 : Out) =>
  let o16 := outOf 0 o6
  thenK o16
    ((fieldA 0 (o16.t 1)).bind fun v17 =>
     (ld false 1 v17 o16.H).bind fun v18 =>
     (lenV false v18).bind fun v19 =>
     (binK .plain .leq v19 (.int .i64 3000)).bind fun v20 =>
     some (v20, o16.H, o16.n + 5))
    (finE o16.e
       (some (o16.t 2, o16.H, o16.n)))
theorem s52 (C : Calling) (L : Body → Body) (t : Tm) (H : Hp) (n : Nat) : bodyK Try.prog C L Try.f52 t H n = S52 C L t H n := by kernel_rfl
theorem c52 (args : List Value) (H : Hp) (n : Nat) : Call Try.prog 52 args H n = S52 (Call Try.prog) Loop (argsT args) H n := (Call_body Try.func52 args H n).trans (s52 ..)
noncomputable def S53 (C : Calling) (L : Body → Body) (t : Tm) (H : Hp) (n : Nat) : Option (Value × Hp × Nat) :=
  (vcells (t 0)).bind fun c2 =>
  let H1 := H.set (n) (some (.row c2 0 true))
  (fieldA 0 (ptr (n) 0)).bind fun v3 =>
  (ld false 1 v3 H1).bind fun v4 =>
  (lenV false v4).bind fun v5 =>
  (binK .plain .sub v5 (.int .i64 1)).bind fun v6 =>
  (C 70 [t 1, .int .i64 0, v6] H1 (n + 9)).bind fun q7 =>
  some (q7.1, q7.2.1, q7.2.2)
theorem s53 (C : Calling) (L : Body → Body) (t : Tm) (H : Hp) (n : Nat) : bodyK Try.prog C L Try.f53 t H n = S53 C L t H n := by kernel_rfl
theorem c53 (args : List Value) (H : Hp) (n : Nat) : Call Try.prog 53 args H n = S53 (Call Try.prog) Loop (argsT args) H n := (Call_body Try.func53 args H n).trans (s53 ..)
noncomputable def S54 (C : Calling) (L : Body → Body) (t : Tm) (H : Hp) (n : Nat) : Option (Value × Hp × Nat) :=
  (vcells (t 0)).bind fun c2 =>
  let H1 := H.set (n) (some (.row c2 0 true))
  (fieldA 1 (ptr (n) 0)).bind fun v3 =>
  (ld false 1 v3 H1).bind fun v4 =>
  (lenV false v4).bind fun v5 =>
  (binK .plain .sub v5 (.int .i64 1)).bind fun v6 =>
  (C 70 [t 1, .int .i64 0, v6] H1 (n + 9)).bind fun q7 =>
  some (q7.1, q7.2.1, q7.2.2)
theorem s54 (C : Calling) (L : Body → Body) (t : Tm) (H : Hp) (n : Nat) : bodyK Try.prog C L Try.f54 t H n = S54 C L t H n := by kernel_rfl
theorem c54 (args : List Value) (H : Hp) (n : Nat) : Call Try.prog 54 args H n = S54 (Call Try.prog) Loop (argsT args) H n := (Call_body Try.func54 args H n).trans (s54 ..)
noncomputable def S55 (C : Calling) (L : Body → Body) (t : Tm) (H : Hp) (n : Nat) : Option (Value × Hp × Nat) :=
  (vcells (t 0)).bind fun c2 =>
  let H1 := H.set (n) (some (.row c2 0 true))
  let H3 := H1.set (n + 1) (some (.row [nilS] 0 true))
  (fieldA 0 (ptr (n) 0)).bind fun v4 =>
  (ld false 1 v4 H3).bind fun v5 =>
  (C 103 [v5] H3 (n + 7)).bind fun q6 =>
  (bld [nilS] [(0, 1, q6.1)]).bind fun v7 =>
  (st true 1 (ptr (n + 1) 0) v7 q6.2.1).bind fun H8 =>
  (ld true 1 (ptr (n + 1) 0) H8).bind fun v9 =>
  some (v9, H8, q6.2.2)
theorem s55 (C : Calling) (L : Body → Body) (t : Tm) (H : Hp) (n : Nat) : bodyK Try.prog C L Try.f55 t H n = S55 C L t H n := by kernel_rfl
theorem c55 (args : List Value) (H : Hp) (n : Nat) : Call Try.prog 55 args H n = S55 (Call Try.prog) Loop (argsT args) H n := (Call_body Try.func55 args H n).trans (s55 ..)
noncomputable def S56 (C : Calling) (L : Body → Body) (t : Tm) (H : Hp) (n : Nat) : Option (Value × Hp × Nat) :=
  (vcells (t 1)).bind fun c2 =>
  let H1 := H.set (n) (some (.row c2 0 true))
  (nilchk (t 0)).bind fun v3 =>
  (fieldA 0 v3).bind fun v4 =>
  (ld false 1 v4 H1).bind fun v5 =>
  (ld true 5 (ptr (n) 0) H1).bind fun v6 =>
  (bsl (n + 8) 5 1 [.int .i64 0, .int .i64 0, .string ⟨#[]⟩, .int .i64 0, .int .i64 0] [(0, 5, v6)] H1).bind fun p7 =>
  (app (n + 9) 5 48 v5 p7.1 p7.2).bind fun p8 =>
  (nilchk (t 0)).bind fun v9 =>
  (fieldA 0 v9).bind fun v10 =>
  (st false 1 v10 p8.1 p8.2).bind fun H11 =>
  (nilchk (t 0)).bind fun v12 =>
  (fieldA 0 v12).bind fun v13 =>
  (ld false 1 v13 H11).bind fun v14 =>
  (lenV false v14).bind fun v15 =>
  (binK .plain .sub v15 (.int .i64 1)).bind fun v16 =>
  some (v16, H11, n + 20)
theorem s56 (C : Calling) (L : Body → Body) (t : Tm) (H : Hp) (n : Nat) : bodyK Try.prog C L Try.f56 t H n = S56 C L t H n := by kernel_rfl
theorem c56 (args : List Value) (H : Hp) (n : Nat) : Call Try.prog 56 args H n = S56 (Call Try.prog) Loop (argsT args) H n := (Call_body Try.func56 args H n).trans (s56 ..)
noncomputable def S57 (C : Calling) (L : Body → Body) (t : Tm) (H : Hp) (n : Nat) : Option (Value × Hp × Nat) :=
  (bld [.int .i64 0, .int .i64 0, .string ⟨#[]⟩, .int .i64 0, .int .i64 0] [(0, 1, .int .i64 5), (3, 1, t 1), (4, 1, t 2)]).bind fun v1 =>
  (C 56 [t 0, v1] H (n + 7)).bind fun q2 =>
  some (q2.1, q2.2.1, q2.2.2)
theorem s57 (C : Calling) (L : Body → Body) (t : Tm) (H : Hp) (n : Nat) : bodyK Try.prog C L Try.f57 t H n = S57 C L t H n := by kernel_rfl
theorem c57 (args : List Value) (H : Hp) (n : Nat) : Call Try.prog 57 args H n = S57 (Call Try.prog) Loop (argsT args) H n := (Call_body Try.func57 args H n).trans (s57 ..)
noncomputable def S58L0 (C : Calling) (L : Body → Body) : Body := fun t H n =>
  (lenV false (t 0)).bind fun v5 =>
  (binK .plain .lss (t 5) v5).bind fun v6 =>
  csel v6
    ((idxA 4 (t 0) (t 5)).bind fun v7 =>
     (ld true 4 v7 H).bind fun v8 =>
     (idxA 4 (t 1) (t 5)).bind fun v9 =>
     (ld true 4 v9 H).bind fun v10 =>
     (C 104 [v8, v10] H (n + 14)).bind fun q11 =>
     (un .not q11.1).bind fun v12 =>
     csel v12
       (some ⟨.ret, put (put (put (put (put (put (put (put (put (put (put (put (put (put (put t 11 (t 5)) 12 (t 0)) 13 v5) 14 v6) 17 (t 0)) 18 (t 5)) 19 v7) 20 v8) 21 (t 1)) 22 (t 5)) 23 v9) 24 v10) 25 q11.1) 26 v12) 4 (.bool false), q11.2.1, q11.2.2 + 1⟩)
       ((binK .plain .add (t 5) (.int .i64 1)).bind fun v13 =>
        some ⟨.normal, put (put (put (put (put (put (put (put (put (put (put (put (put (put (put (put (put t 11 (t 5)) 12 (t 0)) 13 v5) 14 v6) 17 (t 0)) 18 (t 5)) 19 v7) 20 v8) 21 (t 1)) 22 (t 5)) 23 v9) 24 v10) 25 q11.1) 26 v12) 15 (t 5)) 16 v13) 5 v13, q11.2.1, q11.2.2 + 3⟩))
    (some ⟨(.exit 0), put (put (put (put t 11 (t 5)) 12 (t 0)) 13 v5) 14 v6, H, n + 4⟩)
noncomputable def S58 (C : Calling) (L : Body → Body) (t : Tm) (H : Hp) (n : Nat) : Option (Value × Hp × Nat) :=
  (lenV false (t 0)).bind fun v1 =>
  (lenV false (t 1)).bind fun v2 =>
  (binK .plain .neq v1 v2).bind fun v3 =>
  csel v3
    (some (.bool false, H, n + 7))
    ((L (S58L0 C L) (put (put (put (put (put (put (put t 4 (.bool false)) 6 (t 0)) 7 v1) 8 (t 1)) 9 v2) 10 v3) 5 (.int .i64 0)) H (n + 7)).bind fun (o4 : Out) =>
     let o14 := outOf 0 o4
     thenK o14
       (some (.bool true, o14.H, o14.n + 1))
       (finE o14.e
          (some (o14.t 4, o14.H, o14.n))))
theorem s58 (C : Calling) (L : Body → Body) (t : Tm) (H : Hp) (n : Nat) : bodyK Try.prog C L Try.f58 t H n = S58 C L t H n := by kernel_rfl
theorem c58 (args : List Value) (H : Hp) (n : Nat) : Call Try.prog 58 args H n = S58 (Call Try.prog) Loop (argsT args) H n := (Call_body Try.func58 args H n).trans (s58 ..)
noncomputable def S59L0 (C : Calling) (L : Body → Body) : Body := fun t H n =>
  (lenV false (t 0)).bind fun v5 =>
  (binK .plain .lss (t 5) v5).bind fun v6 =>
  csel v6
    ((idxA 3 (t 0) (t 5)).bind fun v7 =>
     (ld true 3 v7 H).bind fun v8 =>
     (idxA 3 (t 1) (t 5)).bind fun v9 =>
     (ld true 3 v9 H).bind fun v10 =>
     (C 105 [v8, v10] H (n + 14)).bind fun q11 =>
     (un .not q11.1).bind fun v12 =>
     csel v12
       (some ⟨.ret, put (put (put (put (put (put (put (put (put (put (put (put (put (put (put t 11 (t 5)) 12 (t 0)) 13 v5) 14 v6) 17 (t 0)) 18 (t 5)) 19 v7) 20 v8) 21 (t 1)) 22 (t 5)) 23 v9) 24 v10) 25 q11.1) 26 v12) 4 (.bool false), q11.2.1, q11.2.2 + 1⟩)
       ((binK .plain .add (t 5) (.int .i64 1)).bind fun v13 =>
        some ⟨.normal, put (put (put (put (put (put (put (put (put (put (put (put (put (put (put (put (put t 11 (t 5)) 12 (t 0)) 13 v5) 14 v6) 17 (t 0)) 18 (t 5)) 19 v7) 20 v8) 21 (t 1)) 22 (t 5)) 23 v9) 24 v10) 25 q11.1) 26 v12) 15 (t 5)) 16 v13) 5 v13, q11.2.1, q11.2.2 + 3⟩))
    (some ⟨(.exit 0), put (put (put (put t 11 (t 5)) 12 (t 0)) 13 v5) 14 v6, H, n + 4⟩)
noncomputable def S59 (C : Calling) (L : Body → Body) (t : Tm) (H : Hp) (n : Nat) : Option (Value × Hp × Nat) :=
  (lenV false (t 0)).bind fun v1 =>
  (lenV false (t 1)).bind fun v2 =>
  (binK .plain .neq v1 v2).bind fun v3 =>
  csel v3
    (some (.bool false, H, n + 7))
    ((L (S59L0 C L) (put (put (put (put (put (put (put t 4 (.bool false)) 6 (t 0)) 7 v1) 8 (t 1)) 9 v2) 10 v3) 5 (.int .i64 0)) H (n + 7)).bind fun (o4 : Out) =>
     let o14 := outOf 0 o4
     thenK o14
       (some (.bool true, o14.H, o14.n + 1))
       (finE o14.e
          (some (o14.t 4, o14.H, o14.n))))
theorem s59 (C : Calling) (L : Body → Body) (t : Tm) (H : Hp) (n : Nat) : bodyK Try.prog C L Try.f59 t H n = S59 C L t H n := by kernel_rfl
theorem c59 (args : List Value) (H : Hp) (n : Nat) : Call Try.prog 59 args H n = S59 (Call Try.prog) Loop (argsT args) H n := (Call_body Try.func59 args H n).trans (s59 ..)
noncomputable def S60L0 (C : Calling) (L : Body → Body) : Body := fun t H n =>
  (lenV false (t 0)).bind fun v5 =>
  (binK .plain .lss (t 5) v5).bind fun v6 =>
  csel v6
    ((idxA 5 (t 0) (t 5)).bind fun v7 =>
     (ld true 5 v7 H).bind fun v8 =>
     (idxA 5 (t 1) (t 5)).bind fun v9 =>
     (ld true 5 v9 H).bind fun v10 =>
     (C 106 [v8, v10] H (n + 14)).bind fun q11 =>
     (un .not q11.1).bind fun v12 =>
     csel v12
       (some ⟨.ret, put (put (put (put (put (put (put (put (put (put (put (put (put (put (put t 11 (t 5)) 12 (t 0)) 13 v5) 14 v6) 17 (t 0)) 18 (t 5)) 19 v7) 20 v8) 21 (t 1)) 22 (t 5)) 23 v9) 24 v10) 25 q11.1) 26 v12) 4 (.bool false), q11.2.1, q11.2.2 + 1⟩)
       ((binK .plain .add (t 5) (.int .i64 1)).bind fun v13 =>
        some ⟨.normal, put (put (put (put (put (put (put (put (put (put (put (put (put (put (put (put (put t 11 (t 5)) 12 (t 0)) 13 v5) 14 v6) 17 (t 0)) 18 (t 5)) 19 v7) 20 v8) 21 (t 1)) 22 (t 5)) 23 v9) 24 v10) 25 q11.1) 26 v12) 15 (t 5)) 16 v13) 5 v13, q11.2.1, q11.2.2 + 3⟩))
    (some ⟨(.exit 0), put (put (put (put t 11 (t 5)) 12 (t 0)) 13 v5) 14 v6, H, n + 4⟩)
noncomputable def S60 (C : Calling) (L : Body → Body) (t : Tm) (H : Hp) (n : Nat) : Option (Value × Hp × Nat) :=
  (lenV false (t 0)).bind fun v1 =>
  (lenV false (t 1)).bind fun v2 =>
  (binK .plain .neq v1 v2).bind fun v3 =>
  csel v3
    (some (.bool false, H, n + 7))
    ((L (S60L0 C L) (put (put (put (put (put (put (put t 4 (.bool false)) 6 (t 0)) 7 v1) 8 (t 1)) 9 v2) 10 v3) 5 (.int .i64 0)) H (n + 7)).bind fun (o4 : Out) =>
     let o14 := outOf 0 o4
     thenK o14
       (some (.bool true, o14.H, o14.n + 1))
       (finE o14.e
          (some (o14.t 4, o14.H, o14.n))))
theorem s60 (C : Calling) (L : Body → Body) (t : Tm) (H : Hp) (n : Nat) : bodyK Try.prog C L Try.f60 t H n = S60 C L t H n := by kernel_rfl
theorem c60 (args : List Value) (H : Hp) (n : Nat) : Call Try.prog 60 args H n = S60 (Call Try.prog) Loop (argsT args) H n := (Call_body Try.func60 args H n).trans (s60 ..)
noncomputable def S61L0 (C : Calling) (L : Body → Body) : Body := fun t H n =>
  (lenV false (t 0)).bind fun v2 =>
  (binK .plain .lss (t 5) v2).bind fun v3 =>
  csel v3
    ((idxA 4 (t 0) (t 5)).bind fun v4 =>
     (fieldA 0 v4).bind fun v5 =>
     (st false 1 v5 (t 1) H).bind fun H6 =>
     (binK .plain .add (t 1) (.int .i64 1)).bind fun v7 =>
     (idxA 4 (t 0) (t 5)).bind fun v8 =>
     (fieldA 1 v8).bind fun v9 =>
     (st false 1 v9 v7 H6).bind fun H10 =>
     (binK .plain .add v7 (.int .i64 1)).bind fun v11 =>
     (idxA 4 (t 0) (t 5)).bind fun v12 =>
     (fieldA 2 v12).bind fun v13 =>
     (st false 1 v13 v11 H10).bind fun H14 =>
     (binK .plain .add v11 (.int .i64 1)).bind fun v15 =>
     (C 107 [v15] H14 (n + 38)).bind fun q16 =>
     (idxA 4 (t 0) (t 5)).bind fun v17 =>
     (fieldA 3 v17).bind fun v18 =>
     (st false 1 v18 q16.1 q16.2.1).bind fun H19 =>
     (binK .plain .add v15 (.int .i64 1)).bind fun v20 =>
     (binK .plain .add (t 5) (.int .i64 1)).bind fun v21 =>
     some ⟨.normal, put (put (put (put (put (put (put (put (put (put (put (put (put (put (put (put (put (put (put (put (put (put (put (put (put (put (put (put (put (put (put (put (put (put (put (put (put (put (put (put t 6 (t 5)) 7 (t 0)) 8 v2) 9 v3) 12 (t 0)) 13 (t 5)) 14 (t 1)) 15 v4) 16 v5) 17 (t 1)) 18 v7) 1 v7) 19 (t 0)) 20 (t 5)) 21 v7) 22 v8) 23 v9) 24 v7) 25 v11) 1 v11) 26 (t 0)) 27 (t 5)) 28 v11) 29 v12) 30 v13) 31 v11) 32 v15) 1 v15) 33 (t 0)) 34 (t 5)) 35 v15) 36 q16.1) 37 v17) 38 v18) 39 v15) 40 v20) 1 v20) 10 (t 5)) 11 v21) 5 v21, H19, q16.2.2 + 6⟩)
    (some ⟨(.exit 0), put (put (put (put t 6 (t 5)) 7 (t 0)) 8 v2) 9 v3, H, n + 4⟩)
noncomputable def S61 (C : Calling) (L : Body → Body) (t : Tm) (H : Hp) (n : Nat) : Option (Value × Hp × Nat) :=
  (L (S61L0 C L) (put (put t 4 (.int .i64 0)) 5 (.int .i64 0)) H (n + 2)).bind fun (o1 : Out) =>
  some (o1.t 1, o1.H, o1.n + 2)
theorem s61 (C : Calling) (L : Body → Body) (t : Tm) (H : Hp) (n : Nat) : bodyK Try.prog C L Try.f61 t H n = S61 C L t H n := by kernel_rfl
theorem c61 (args : List Value) (H : Hp) (n : Nat) : Call Try.prog 61 args H n = S61 (Call Try.prog) Loop (argsT args) H n := (Call_body Try.func61 args H n).trans (s61 ..)
noncomputable def S62L0 (C : Calling) (L : Body → Body) : Body := fun t H n =>
  (lenV false (t 0)).bind fun v2 =>
  (binK .plain .lss (t 5) v2).bind fun v3 =>
  csel v3
    ((C 107 [t 1] H (n + 11)).bind fun q4 =>
     (idxA 3 (t 0) (t 5)).bind fun v5 =>
     (fieldA 0 v5).bind fun v6 =>
     (st false 1 v6 q4.1 q4.2.1).bind fun H7 =>
     (binK .plain .add (t 1) (.int .i64 1)).bind fun v8 =>
     (idxA 3 (t 0) (t 5)).bind fun v9 =>
     (fieldA 1 v9).bind fun v10 =>
     (st false 1 v10 v8 H7).bind fun H11 =>
     (binK .plain .add v8 (.int .i64 1)).bind fun v12 =>
     (idxA 3 (t 0) (t 5)).bind fun v13 =>
     (fieldA 2 v13).bind fun v14 =>
     (st false 1 v14 v12 H11).bind fun H15 =>
     (binK .plain .add v12 (.int .i64 1)).bind fun v16 =>
     (binK .plain .add (t 5) (.int .i64 1)).bind fun v17 =>
     some ⟨.normal, put (put (put (put (put (put (put (put (put (put (put (put (put (put (put (put (put (put (put (put (put (put (put (put (put (put (put (put (put (put (put (put t 6 (t 5)) 7 (t 0)) 8 v2) 9 v3) 12 (t 0)) 13 (t 5)) 14 (t 1)) 15 q4.1) 16 v5) 17 v6) 18 (t 1)) 19 v8) 1 v8) 20 (t 0)) 21 (t 5)) 22 v8) 23 v9) 24 v10) 25 v8) 26 v12) 1 v12) 27 (t 0)) 28 (t 5)) 29 v12) 30 v13) 31 v14) 32 v12) 33 v16) 1 v16) 10 (t 5)) 11 v17) 5 v17, H15, q4.2.2 + 24⟩)
    (some ⟨(.exit 0), put (put (put (put t 6 (t 5)) 7 (t 0)) 8 v2) 9 v3, H, n + 4⟩)
noncomputable def S62 (C : Calling) (L : Body → Body) (t : Tm) (H : Hp) (n : Nat) : Option (Value × Hp × Nat) :=
  (L (S62L0 C L) (put (put t 4 (.int .i64 0)) 5 (.int .i64 0)) H (n + 2)).bind fun (o1 : Out) =>
  some (o1.t 1, o1.H, o1.n + 2)
theorem s62 (C : Calling) (L : Body → Body) (t : Tm) (H : Hp) (n : Nat) : bodyK Try.prog C L Try.f62 t H n = S62 C L t H n := by kernel_rfl
theorem c62 (args : List Value) (H : Hp) (n : Nat) : Call Try.prog 62 args H n = S62 (Call Try.prog) Loop (argsT args) H n := (Call_body Try.func62 args H n).trans (s62 ..)
noncomputable def S63L0 (C : Calling) (L : Body → Body) : Body := fun t H n =>
  (lenV false (t 0)).bind fun v2 =>
  (binK .plain .lss (t 5) v2).bind fun v3 =>
  csel v3
    ((idxA 5 (t 0) (t 5)).bind fun v4 =>
     (fieldA 0 v4).bind fun v5 =>
     (st false 1 v5 (t 1) H).bind fun H6 =>
     (binK .plain .add (t 1) (.int .i64 1)).bind fun v7 =>
     (idxA 5 (t 0) (t 5)).bind fun v8 =>
     (fieldA 1 v8).bind fun v9 =>
     (st false 1 v9 v7 H6).bind fun H10 =>
     (binK .plain .add v7 (.int .i64 1)).bind fun v11 =>
     (C 107 [v11] H10 (n + 29)).bind fun q12 =>
     (idxA 5 (t 0) (t 5)).bind fun v13 =>
     (fieldA 2 v13).bind fun v14 =>
     (st false 1 v14 q12.1 q12.2.1).bind fun H15 =>
     (binK .plain .add v11 (.int .i64 1)).bind fun v16 =>
     (idxA 5 (t 0) (t 5)).bind fun v17 =>
     (fieldA 3 v17).bind fun v18 =>
     (st false 1 v18 v16 H15).bind fun H19 =>
     (binK .plain .add v16 (.int .i64 1)).bind fun v20 =>
     (idxA 5 (t 0) (t 5)).bind fun v21 =>
     (fieldA 4 v21).bind fun v22 =>
     (st false 1 v22 v20 H19).bind fun H23 =>
     (binK .plain .add v20 (.int .i64 1)).bind fun v24 =>
     (binK .plain .add (t 5) (.int .i64 1)).bind fun v25 =>
     some ⟨.normal, put (put (put (put (put (put (put (put (put (put (put (put (put (put (put (put (put (put (put (put (put (put (put (put (put (put (put (put (put (put (put (put (put (put (put (put (put (put (put (put (put (put (put (put (put (put (put (put t 6 (t 5)) 7 (t 0)) 8 v2) 9 v3) 12 (t 0)) 13 (t 5)) 14 (t 1)) 15 v4) 16 v5) 17 (t 1)) 18 v7) 1 v7) 19 (t 0)) 20 (t 5)) 21 v7) 22 v8) 23 v9) 24 v7) 25 v11) 1 v11) 26 (t 0)) 27 (t 5)) 28 v11) 29 q12.1) 30 v13) 31 v14) 32 v11) 33 v16) 1 v16) 34 (t 0)) 35 (t 5)) 36 v16) 37 v17) 38 v18) 39 v16) 40 v20) 1 v20) 41 (t 0)) 42 (t 5)) 43 v20) 44 v21) 45 v22) 46 v20) 47 v24) 1 v24) 10 (t 5)) 11 v25) 5 v25, H23, q12.2.2 + 24⟩)
    (some ⟨(.exit 0), put (put (put (put t 6 (t 5)) 7 (t 0)) 8 v2) 9 v3, H, n + 4⟩)
noncomputable def S63 (C : Calling) (L : Body → Body) (t : Tm) (H : Hp) (n : Nat) : Option (Value × Hp × Nat) :=
  (L (S63L0 C L) (put (put t 4 (.int .i64 0)) 5 (.int .i64 0)) H (n + 2)).bind fun (o1 : Out) =>
  some (o1.t 1, o1.H, o1.n + 2)
theorem s63 (C : Calling) (L : Body → Body) (t : Tm) (H : Hp) (n : Nat) : bodyK Try.prog C L Try.f63 t H n = S63 C L t H n := by kernel_rfl
theorem c63 (args : List Value) (H : Hp) (n : Nat) : Call Try.prog 63 args H n = S63 (Call Try.prog) Loop (argsT args) H n := (Call_body Try.func63 args H n).trans (s63 ..)
noncomputable def S64 (C : Calling) (L : Body → Body) (t : Tm) (H : Hp) (n : Nat) : Option (Value × Hp × Nat) :=
  (vcells (t 0)).bind fun c2 =>
  let H1 := H.set (n) (some (.row c2 0 true))
  (fieldA 0 (ptr (n) 0)).bind fun v3 =>
  (ld false 1 v3 H1).bind fun v4 =>
  (C 108 [v4, t 1] H1 (n + 7)).bind fun q5 =>
  (binK .plain .lss q5.1 (.int .i64 0)).bind fun v6 =>
  csel v6
    (some (.int .i64 (-1), q5.2.1, q5.2.2 + 3))
    (some (q5.1, q5.2.1, q5.2.2 + 4))
theorem s64 (C : Calling) (L : Body → Body) (t : Tm) (H : Hp) (n : Nat) : bodyK Try.prog C L Try.f64 t H n = S64 C L t H n := by kernel_rfl
theorem c64 (args : List Value) (H : Hp) (n : Nat) : Call Try.prog 64 args H n = S64 (Call Try.prog) Loop (argsT args) H n := (Call_body Try.func64 args H n).trans (s64 ..)
noncomputable def S68 (C : Calling) (L : Body → Body) (t : Tm) (H : Hp) (n : Nat) : Option (Value × Hp × Nat) :=
  (vcells (t 0)).bind fun c2 =>
  let H1 := H.set (n) (some (.row c2 0 true))
  (fieldA 1 (ptr (n) 0)).bind fun v3 =>
  (ld false 1 v3 H1).bind fun v4 =>
  (idxA 4 v4 (t 1)).bind fun v5 =>
  (ld true 4 v5 H1).bind fun v6 =>
  let H7 := H1.set (n + 7) (some (.row [.int .i64 0, .int .i64 0, .int .i64 0, .string ⟨#[]⟩] 0 true))
  (st true 4 (ptr (n + 7) 0) v6 H7).bind fun H8 =>
  (fieldA 1 (ptr (n + 7) 0)).bind fun v9 =>
  (ld false 1 v9 H8).bind fun v10 =>
  (binK .plain .eql v10 (.int .i64 0)).bind fun v11 =>
  (fieldA 2 (ptr (n + 7) 0)).bind fun v12 =>
  (ld false 1 v12 H8).bind fun v13 =>
  (binK .plain .eql v13 (.int .i64 0)).bind fun v14 =>
  (fieldA 3 (ptr (n + 7) 0)).bind fun v15 =>
  (ld false 1 v15 H8).bind fun v16 =>
  (binK .plain .eql v16 (.string ⟨#[]⟩)).bind fun v17 =>
  (fieldA 0 (ptr (n + 7) 0)).bind fun v18 =>
  (ld false 1 v18 H8).bind fun v19 =>
  (binK .plain .eql v19 (.int .i64 1)).bind fun v20 =>
  let t22 : Tm := put (put (put (put (put (put (put (put (put (put (put (put (put (put (put (put (put (put (put (put (put (put (put (put t 2 (ptr (n) 0)) 4 (.bool false)) 9 v3) 10 v4) 11 (t 1)) 12 v5) 13 v6) 5 (ptr (n + 7) 0)) 14 v9) 15 v10) 16 v11) 17 v12) 18 v13) 19 v14) 20 v15) 21 v16) 22 v17) 6 v11) 7 v14) 8 v17) 23 v18) 24 v19) 26 v20) 25 v20
  (csel v20
    ((fieldA 0 (ptr (n) 0)).bind fun v23 =>
     (ld true 1 v23 H8).bind fun v24 =>
     (fieldA 1 (ptr (n + 7) 0)).bind fun v25 =>
     (ld false 1 v25 H8).bind fun v26 =>
     (C 53 [v24, v26] H8 (n + 31)).bind fun q27 =>
     some ⟨.normal, put (put (put (put (put (put t22 27 v23) 28 v24) 29 v25) 30 v26) 31 q27.1) 6 q27.1, q27.2.1, q27.2.2⟩)
    ((binK .plain .eql v19 (.int .i64 2)).bind fun v28 =>
     let t30 : Tm := put (put t22 33 v28) 32 v28
     (csel v28
       ((fieldA 1 (ptr (n + 7) 0)).bind fun v31 =>
        (ld false 1 v31 H8).bind fun v32 =>
        (C 70 [v32, .int .i64 0, .int .i64 20] H8 (n + 35)).bind fun q33 =>
        (fieldA 2 (ptr (n + 7) 0)).bind fun v34 =>
        (ld false 1 v34 q33.2.1).bind fun v35 =>
        ask (ld false 1 v34 H8 = some v35) <|
        (C 70 [v35, .int .i64 0, .int .i64 3] q33.2.1 (q33.2.2)).bind fun q36 =>
        some ⟨.normal, put (put (put (put (put (put (put (put t30 34 v31) 35 v32) 36 q33.1) 37 v34) 38 v35) 39 q36.1) 6 q33.1) 7 q36.1, q36.2.1, q36.2.2⟩)
       ((binK .plain .eql v19 (.int .i64 3)).bind fun v37 =>
        let t39 : Tm := put (put t30 41 v37) 40 v37
        (csel v37
          ((fieldA 3 (ptr (n + 7) 0)).bind fun v40 =>
           (ld false 1 v40 H8).bind fun v41 =>
           (C 69 [v41] H8 (n + 33)).bind fun q42 =>
           some ⟨.normal, put (put (put (put t39 42 v40) 43 v41) 44 q42.1) 8 q42.1, q42.2.1, q42.2.2⟩)
          ((binK .plain .eql v19 (.int .i64 4)).bind fun v43 =>
           let t45 : Tm := put (put t39 46 v43) 45 v43
           (csel v43
             (some ⟨.normal, t45, H8, n + 31⟩)
             ((binK .plain .eql v19 (.int .i64 5)).bind fun v46 =>
              some ⟨.normal, put (put t45 47 v46) 45 v46, H8, n + 33⟩)
           ).bind fun (o44 : Out) =>
           (csel (o44.t 45)
             ((fieldA 1 (o44.t 5)).bind fun v49 =>
              (ld false 1 v49 o44.H).bind fun v50 =>
              (binK .plain .add (o44.t 1) (.int .i64 1)).bind fun v51 =>
              (fieldA 1 (o44.t 2)).bind fun v52 =>
              (ld false 1 v52 o44.H).bind fun v53 =>
              (lenV false v53).bind fun v54 =>
              (C 70 [v50, v51, v54] o44.H (o44.n + 9)).bind fun q55 =>
              some ⟨.normal, put (put (put (put (put (put (put (put (put o44.t 48 v49) 49 v50) 50 (o44.t 1)) 51 v51) 52 v52) 53 v53) 54 v54) 55 q55.1) 6 q55.1, q55.2.1, q55.2.2⟩)
             ((binK .plain .eql (o44.t 24) (.int .i64 6)).bind fun v56 =>
              let t58 : Tm := put (put o44.t 57 v56) 56 v56
              (csel v56
                ((fieldA 1 (t58 5)).bind fun v59 =>
                 (ld false 1 v59 o44.H).bind fun v60 =>
                 (binK .plain .add (t58 1) (.int .i64 1)).bind fun v61 =>
                 (fieldA 1 (t58 2)).bind fun v62 =>
                 (ld false 1 v62 o44.H).bind fun v63 =>
                 (lenV false v63).bind fun v64 =>
                 (binK .plain .sub v64 (.int .i64 1)).bind fun v65 =>
                 (C 70 [v60, v61, v65] o44.H (o44.n + 16)).bind fun q66 =>
                 (fieldA 2 (t58 5)).bind fun v67 =>
                 (ld false 1 v67 q66.2.1).bind fun v68 =>
                 ask (ld false 1 v67 o44.H = some v68) <|
                 (C 70 [v68, .int .i64 0, .int .i64 4] q66.2.1 (q66.2.2)).bind fun q69 =>
                 some ⟨.normal, put (put (put (put (put (put (put (put (put (put (put (put (put (put t58 58 v59) 59 v60) 60 (t58 1)) 61 v61) 62 v62) 63 v63) 64 v64) 65 v65) 66 q66.1) 67 v67) 68 v68) 69 q69.1) 6 q66.1) 7 q69.1, q69.2.1, q69.2.2⟩)
                ((binK .plain .eql (t58 24) (.int .i64 7)).bind fun v70 =>
                 let t72 : Tm := put (put t58 71 v70) 70 v70
                 (csel v70
                   ((fieldA 2 (t72 5)).bind fun v73 =>
                    (ld false 1 v73 o44.H).bind fun v74 =>
                    (C 70 [v74, .int .i64 0, .int .i64 4] o44.H (o44.n + 8)).bind fun q75 =>
                    some ⟨.normal, put (put (put (put t72 72 v73) 73 v74) 74 q75.1) 7 q75.1, q75.2.1, q75.2.2⟩)
                   ((binK .plain .eql (t72 24) (.int .i64 8)).bind fun v76 =>
                    let t78 : Tm := put (put t72 76 v76) 75 v76
                    (csel v76
                      (some ⟨.normal, t78, o44.H, o44.n + 6⟩)
                      ((binK .plain .eql (t78 24) (.int .i64 9)).bind fun v79 =>
                       some ⟨.normal, put (put t78 77 v79) 75 v79, o44.H, o44.n + 8⟩)
                    ).bind fun (o77 : Out) =>
                    csel (o77.t 75)
                      (some ⟨.normal, o77.t, o77.H, o77.n⟩)
                      (some ⟨.ret, put o77.t 4 (.bool false), o77.H, o77.n + 1⟩))
                 ).bind fun (o71 : Out) =>
                 some o71)
              ).bind fun (o57 : Out) =>
              some o57)
           ).bind fun (o47 : Out) =>
           some o47)
        ).bind fun (o38 : Out) =>
        some o38)
     ).bind fun (o29 : Out) =>
     some o29)
  ).bind fun (o21 : Out) =>
  let o80 := outOf 0 o21
  thenK o80
    ((pickV (o80.t 6) (gsel (o80.t 6) true (o80.t 7) (.tuple #[])) (.bool false)).bind fun v81 =>
     (pickV v81 (gsel v81 true (o80.t 8) (.tuple #[])) (.bool false)).bind fun v82 =>
     some (v82, o80.H, o80.n + 8))
    (finE o80.e
       (some (o80.t 4, o80.H, o80.n)))
theorem s68 (C : Calling) (L : Body → Body) (t : Tm) (H : Hp) (n : Nat) : bodyK Try.prog C L Try.f68 t H n = S68 C L t H n := by kernel_rfl
theorem c68 (args : List Value) (H : Hp) (n : Nat) : Call Try.prog 68 args H n = S68 (Call Try.prog) Loop (argsT args) H n := (Call_body Try.func68 args H n).trans (s68 ..)
noncomputable def S69L0 (C : Calling) (L : Body → Body) : Body := fun t H n =>
  (binK .plain .lss (t 10) (t 9)).bind fun v6 =>
  csel v6
    ((idxS (t 0) (t 10)).bind fun v7 =>
     (C 110 [v7] H (n + 8)).bind fun q8 =>
     (un .not q8.1).bind fun v9 =>
     csel v9
       (some ⟨.ret, put (put (put (put (put (put (put (put (put t 11 v6) 12 (t 10)) 3 (t 10)) 13 (t 0)) 14 (t 10)) 15 v7) 16 q8.1) 17 v9) 2 (.bool false), q8.2.1, q8.2.2 + 1⟩)
       ((binK .plain .add (t 10) (.int .i64 1)).bind fun v10 =>
        some ⟨.normal, put (put (put (put (put (put (put (put (put (put t 11 v6) 12 (t 10)) 3 (t 10)) 13 (t 0)) 14 (t 10)) 15 v7) 16 q8.1) 17 v9) 18 v10) 10 v10, q8.2.1, q8.2.2 + 2⟩))
    (some ⟨(.exit 0), put t 11 v6, H, n + 1⟩)
noncomputable def S69 (C : Calling) (L : Body → Body) (t : Tm) (H : Hp) (n : Nat) : Option (Value × Hp × Nat) :=
  (lenV true (t 0)).bind fun v1 =>
  (C 70 [v1, .int .i64 1, .int .i64 12] H (n + 5)).bind fun q2 =>
  (un .not q2.1).bind fun v3 =>
  csel v3
    (some (.bool false, q2.2.1, q2.2.2 + 1))
    ((lenV true (t 0)).bind fun v4 =>
     (L (S69L0 C L) (put (put (put (put (put (put (put (put t 2 (.bool false)) 4 (t 0)) 5 v1) 6 q2.1) 7 v3) 8 (t 0)) 9 v4) 10 (.int .i64 0)) q2.2.1 (q2.2.2 + 3)).bind fun (o5 : Out) =>
     let o11 := outOf 0 o5
     thenK o11
       (some (.bool true, o11.H, o11.n + 1))
       (finE o11.e
          (some (o11.t 2, o11.H, o11.n))))
theorem s69 (C : Calling) (L : Body → Body) (t : Tm) (H : Hp) (n : Nat) : bodyK Try.prog C L Try.f69 t H n = S69 C L t H n := by kernel_rfl
theorem c69 (args : List Value) (H : Hp) (n : Nat) : Call Try.prog 69 args H n = S69 (Call Try.prog) Loop (argsT args) H n := (Call_body Try.func69 args H n).trans (s69 ..)
noncomputable def S70 (C : Calling) (L : Body → Body) (t : Tm) (H : Hp) (n : Nat) : Option (Value × Hp × Nat) :=
  (binK .plain .geq (t 0) (t 1)).bind fun v1 =>
  let t3 : Tm := put (put (put (put (put t 6 (.bool false)) 7 (t 0)) 8 (t 1)) 9 v1) 10 v1
  (gsel v1 true
    ((binK .plain .leq (t3 0) (t3 2)).bind fun v4 =>
     some (put (put (put t3 11 (t3 0)) 12 (t3 2)) 13 v4, H, n + 10))
    (some (put (put (put t3 11 (.tuple #[])) 12 (.tuple #[])) 13 (.tuple #[]), H, n + 10))
  ).bind fun (q2 : R3) =>
  (pickV (q2.1 10) (q2.1 13) (.bool false)).bind fun v5 =>
  some (v5, q2.2.1, q2.2.2)
theorem s70 (C : Calling) (L : Body → Body) (t : Tm) (H : Hp) (n : Nat) : bodyK Try.prog C L Try.f70 t H n = S70 C L t H n := by kernel_rfl
theorem c70 (args : List Value) (H : Hp) (n : Nat) : Call Try.prog 70 args H n = S70 (Call Try.prog) Loop (argsT args) H n := (Call_body Try.func70 args H n).trans (s70 ..)
noncomputable def S71L0 (C : Calling) (L : Body → Body) : Body := fun t H n =>
  (binK .plain .lss (t 8) (t 7)).bind fun v3 =>
  csel v3
    ((idxA 3 (t 0) (t 8)).bind fun v4 =>
     (ld true 3 v4 H).bind fun v5 =>
     (calleeP (t 1) [v5]).bind fun c7 =>
     (C c7.1 c7.2 H (n + 9)).bind fun q6 =>
     csel q6.1
       (some ⟨.ret, put (put (put (put (put (put (put (put (put (put (put t 9 v3) 10 (t 8)) 5 (t 8)) 11 (t 1)) 12 (t 0)) 13 (t 8)) 14 v4) 15 v5) 16 q6.1) 17 (t 8)) 4 (t 8), q6.2.1, q6.2.2 + 2⟩)
       ((binK .plain .add (t 8) (.int .i64 1)).bind fun v8 =>
        some ⟨.normal, put (put (put (put (put (put (put (put (put (put (put t 9 v3) 10 (t 8)) 5 (t 8)) 11 (t 1)) 12 (t 0)) 13 (t 8)) 14 v4) 15 v5) 16 q6.1) 18 v8) 8 v8, q6.2.1, q6.2.2 + 2⟩))
    (some ⟨(.exit 0), put t 9 v3, H, n + 1⟩)
noncomputable def S71 (C : Calling) (L : Body → Body) (t : Tm) (H : Hp) (n : Nat) : Option (Value × Hp × Nat) :=
  (lenV false (t 0)).bind fun v1 =>
  (L (S71L0 C L) (put (put (put (put t 4 (.int .i64 0)) 6 (t 0)) 7 v1) 8 (.int .i64 0)) H (n + 4)).bind fun (o2 : Out) =>
  let o9 := outOf 0 o2
  thenK o9
    (some (.int .i64 (-1), o9.H, o9.n + 1))
    (finE o9.e
       (some (o9.t 4, o9.H, o9.n)))
theorem s71 (C : Calling) (L : Body → Body) (t : Tm) (H : Hp) (n : Nat) : bodyK Try.prog C L Try.f71 t H n = S71 C L t H n := by kernel_rfl
theorem c71 (args : List Value) (H : Hp) (n : Nat) : Call Try.prog 71 args H n = S71 (Call Try.prog) Loop (argsT args) H n := (Call_body Try.func71 args H n).trans (s71 ..)
noncomputable def S72 (C : Calling) (L : Body → Body) (t : Tm) (H : Hp) (n : Nat) : Option (Value × Hp × Nat) :=
  (vcells (t 0)).bind fun c2 =>
  let H1 := H.set (n) (some (.row c2 0 true))
  (fieldA 0 (ptr (n) 0)).bind fun v3 =>
  (ld false 1 v3 H1).bind fun v4 =>
  (ld false 1 (t 1) H1).bind fun v5 =>
  (binK .plain .eql v4 v5).bind fun v6 =>
  some (v6, H1, n + 7)
theorem s72 (C : Calling) (L : Body → Body) (t : Tm) (H : Hp) (n : Nat) : bodyK Try.prog C L Try.f72 t H n = S72 C L t H n := by kernel_rfl
theorem c72 (args : List Value) (H : Hp) (n : Nat) : Call Try.prog 72 args H n = S72 (Call Try.prog) Loop (argsT args) H n := (Call_body Try.func72 args H n).trans (s72 ..)
noncomputable def S73 (C : Calling) (L : Body → Body) (t : Tm) (H : Hp) (n : Nat) : Option (Value × Hp × Nat) :=
  (vcells (t 0)).bind fun c2 =>
  let H1 := H.set (n) (some (.row c2 0 true))
  (fieldA 1 (ptr (n) 0)).bind fun v3 =>
  (ld false 1 v3 H1).bind fun v4 =>
  (idxA 4 v4 (t 1)).bind fun v5 =>
  (ld true 4 v5 H1).bind fun v6 =>
  let H7 := H1.set (n + 7) (some (.row [.int .i64 0, .int .i64 0, .int .i64 0, .string ⟨#[]⟩] 0 true))
  (st true 4 (ptr (n + 7) 0) v6 H7).bind fun H8 =>
  (fieldA 1 (ptr (n) 0)).bind fun v9 =>
  (ld false 1 v9 H8).bind fun v10 =>
  (lenV false v10).bind fun v11 =>
  (fieldA 0 (ptr (n + 7) 0)).bind fun v12 =>
  (ld false 1 v12 H8).bind fun v13 =>
  (bld [.int .i64 0, .int .i64 0, .int .i64 0, .string ⟨#[]⟩] [(0, 1, v13)]).bind fun v14 =>
  let H15 := H8.set (n + 16) (some (.row [.int .i64 0, .int .i64 0, .int .i64 0, .string ⟨#[]⟩] 0 true))
  (st true 4 (ptr (n + 16) 0) v14 H15).bind fun H16 =>
  (fieldA 0 (ptr (n + 7) 0)).bind fun v17 =>
  (ld false 1 v17 H16).bind fun v18 =>
  (binK .plain .eql v18 (.int .i64 1)).bind fun v19 =>
  csel v19
    ((fieldA 1 (ptr (n + 7) 0)).bind fun v20 =>
     (ld false 1 v20 H16).bind fun v21 =>
     (fieldA 1 (ptr (n + 16) 0)).bind fun v22 =>
     (st false 1 v22 v21 H16).bind fun H23 =>
     (ld true 4 (ptr (n + 7) 0) H23).bind fun v24 =>
     (ld true 4 (ptr (n + 16) 0) H23).bind fun v25 =>
     (binK (.agg [(0, (.int .i64)), (1, (.int .i64)), (2, (.int .i64)), (3, .string)]) .eql v24 v25).bind fun v26 =>
     let t28 : Tm := put (put (put (put (put (put (put (put (put (put (put (put (put (put (put (put (put (put (put (put (put (put (put (put (put (put (put t 2 (ptr (n) 0)) 4 (.bool false)) 8 v3) 9 v4) 10 (t 1)) 11 v5) 12 v6) 5 (ptr (n + 7) 0)) 13 v9) 14 v10) 15 v11) 6 v11) 16 v12) 17 v13) 18 v14) 7 (ptr (n + 16) 0)) 19 v17) 20 v18) 22 v19) 21 v19) 23 v20) 24 v21) 25 v22) 26 v24) 27 v25) 28 v26) 29 v26
     (gsel v26 true
       ((fieldA 0 (ptr (n) 0)).bind fun v29 =>
        (ld true 1 v29 H23).bind fun v30 =>
        (fieldA 1 (ptr (n + 7) 0)).bind fun v31 =>
        (ld false 1 v31 H23).bind fun v32 =>
        (C 46 [v30, v32] H23 (n + 37)).bind fun q33 =>
        some (put (put (put (put (put t28 30 v29) 31 v30) 32 v31) 33 v32) 34 q33.1, q33.2.1, q33.2.2))
       (some (put (put (put (put (put t28 30 (.tuple #[])) 31 (.tuple #[])) 32 (.tuple #[])) 33 (.tuple #[])) 34 (.tuple #[]), H23, n + 37))
     ).bind fun (q27 : R3) =>
     (pickV (q27.1 29) (q27.1 34) (.bool false)).bind fun v34 =>
     some (v34, q27.2.1, q27.2.2))
    ((binK .plain .eql v18 (.int .i64 2)).bind fun v35 =>
     csel v35
       ((fieldA 3 (ptr (n + 7) 0)).bind fun v36 =>
        (ld false 1 v36 H16).bind fun v37 =>
        (binK .plain .eql v37 (.string ⟨#[]⟩)).bind fun v38 =>
        let t40 : Tm := put (put (put (put (put (put (put (put (put (put (put (put (put (put (put (put (put (put (put (put (put (put (put (put (put (put t 2 (ptr (n) 0)) 4 (.bool false)) 8 v3) 9 v4) 10 (t 1)) 11 v5) 12 v6) 5 (ptr (n + 7) 0)) 13 v9) 14 v10) 15 v11) 6 v11) 16 v12) 17 v13) 18 v14) 7 (ptr (n + 16) 0)) 19 v17) 20 v18) 22 v19) 21 v19) 37 v35) 36 v35) 38 v36) 39 v37) 40 v38) 41 v38
        (gsel v38 true
          ((fieldA 1 (ptr (n + 7) 0)).bind fun v41 =>
           (ld false 1 v41 H16).bind fun v42 =>
           (C 75 [v42, .int .i64 0, .int .i64 20] H16 (n + 38)).bind fun q43 =>
           some (put (put (put t40 42 v41) 43 v42) 44 q43.1, q43.2.1, q43.2.2))
          (some (put (put (put t40 42 (.tuple #[])) 43 (.tuple #[])) 44 (.tuple #[]), H16, n + 38))
        ).bind fun (q39 : R3) =>
        (pickV (q39.1 41) (q39.1 44) (.bool false)).bind fun v44 =>
        let t46 : Tm := put (put q39.1 45 v44) 46 v44
        (gsel v44 true
          ((fieldA 2 (t46 5)).bind fun v47 =>
           (ld false 1 v47 q39.2.1).bind fun v48 =>
           (C 75 [v48, .int .i64 0, .int .i64 3] q39.2.1 (q39.2.2)).bind fun q49 =>
           some (put (put (put t46 47 v47) 48 v48) 49 q49.1, q49.2.1, q49.2.2))
          (some (put (put (put t46 47 (.tuple #[])) 48 (.tuple #[])) 49 (.tuple #[]), q39.2.1, q39.2.2))
        ).bind fun (q45 : R3) =>
        (pickV (q45.1 46) (q45.1 49) (.bool false)).bind fun v50 =>
        some (v50, q45.2.1, q45.2.2))
       ((binK .plain .eql v18 (.int .i64 3)).bind fun v51 =>
        csel v51
          ((fieldA 3 (ptr (n + 7) 0)).bind fun v52 =>
           (ld false 1 v52 H16).bind fun v53 =>
           (fieldA 3 (ptr (n + 16) 0)).bind fun v54 =>
           (st false 1 v54 v53 H16).bind fun H55 =>
           (ld true 4 (ptr (n + 7) 0) H55).bind fun v56 =>
           (ld true 4 (ptr (n + 16) 0) H55).bind fun v57 =>
           (binK (.agg [(0, (.int .i64)), (1, (.int .i64)), (2, (.int .i64)), (3, .string)]) .eql v56 v57).bind fun v58 =>
           let t60 : Tm := put (put (put (put (put (put (put (put (put (put (put (put (put (put (put (put (put (put (put (put (put (put (put (put (put (put (put (put (put (put (put t 2 (ptr (n) 0)) 4 (.bool false)) 8 v3) 9 v4) 10 (t 1)) 11 v5) 12 v6) 5 (ptr (n + 7) 0)) 13 v9) 14 v10) 15 v11) 6 v11) 16 v12) 17 v13) 18 v14) 7 (ptr (n + 16) 0)) 19 v17) 20 v18) 22 v19) 21 v19) 37 v35) 36 v35) 52 v51) 51 v51) 53 v52) 54 v53) 55 v54) 56 v56) 57 v57) 58 v58) 59 v58
           (gsel v58 true
             ((fieldA 3 (ptr (n + 7) 0)).bind fun v61 =>
              (ld false 1 v61 H55).bind fun v62 =>
              (C 74 [v62] H55 (n + 39)).bind fun q63 =>
              some (put (put (put t60 60 v61) 61 v62) 62 q63.1, q63.2.1, q63.2.2))
             (some (put (put (put t60 60 (.tuple #[])) 61 (.tuple #[])) 62 (.tuple #[]), H55, n + 39))
           ).bind fun (q59 : R3) =>
           (pickV (q59.1 59) (q59.1 62) (.bool false)).bind fun v64 =>
           some (v64, q59.2.1, q59.2.2))
          ((binK .plain .eql v18 (.int .i64 4)).bind fun v65 =>
           let t67 : Tm := put (put (put (put (put (put (put (put (put (put (put (put (put (put (put (put (put (put (put (put (put (put (put (put (put (put t 2 (ptr (n) 0)) 4 (.bool false)) 8 v3) 9 v4) 10 (t 1)) 11 v5) 12 v6) 5 (ptr (n + 7) 0)) 13 v9) 14 v10) 15 v11) 6 v11) 16 v12) 17 v13) 18 v14) 7 (ptr (n + 16) 0)) 19 v17) 20 v18) 22 v19) 21 v19) 37 v35) 36 v35) 52 v51) 51 v51) 65 v65) 64 v65
           (csel v65
             (some ⟨.normal, t67, H16, n + 28⟩)
             ((binK .plain .eql v18 (.int .i64 5)).bind fun v68 =>
              some ⟨.normal, put (put t67 66 v68) 64 v68, H16, n + 30⟩)
           ).bind fun (o66 : Out) =>
           csel (o66.t 64)
             ((fieldA 1 (o66.t 5)).bind fun v69 =>
              (ld false 1 v69 o66.H).bind fun v70 =>
              (fieldA 1 (o66.t 7)).bind fun v71 =>
              (st false 1 v71 v70 o66.H).bind fun H72 =>
              (ld true 4 (o66.t 5) H72).bind fun v73 =>
              (ld true 4 (o66.t 7) H72).bind fun v74 =>
              (binK (.agg [(0, (.int .i64)), (1, (.int .i64)), (2, (.int .i64)), (3, .string)]) .eql v73 v74).bind fun v75 =>
              let t77 : Tm := put (put (put (put (put (put (put o66.t 67 v69) 68 v70) 69 v71) 70 v73) 71 v74) 72 v75) 73 v75
              (gsel v75 true
                ((fieldA 1 (t77 5)).bind fun v78 =>
                 (ld false 1 v78 H72).bind fun v79 =>
                 (binK .plain .gtr v79 (t77 1)).bind fun v80 =>
                 some (put (put (put (put t77 74 v78) 75 v79) 76 (t77 1)) 77 v80, H72, o66.n + 20))
                (some (put (put (put (put t77 74 (.tuple #[])) 75 (.tuple #[])) 76 (.tuple #[])) 77 (.tuple #[]), H72, o66.n + 20))
              ).bind fun (q76 : R3) =>
              (pickV (q76.1 73) (q76.1 77) (.bool false)).bind fun v81 =>
              let t83 : Tm := put (put q76.1 78 v81) 79 v81
              (gsel v81 true
                ((fieldA 1 (t83 5)).bind fun v84 =>
                 (ld false 1 v84 q76.2.1).bind fun v85 =>
                 (binK .plain .leq v85 (t83 6)).bind fun v86 =>
                 some (put (put (put (put t83 80 v84) 81 v85) 82 (t83 6)) 83 v86, q76.2.1, q76.2.2))
                (some (put (put (put (put t83 80 (.tuple #[])) 81 (.tuple #[])) 82 (.tuple #[])) 83 (.tuple #[]), q76.2.1, q76.2.2))
              ).bind fun (q82 : R3) =>
              (pickV (q82.1 79) (q82.1 83) (.bool false)).bind fun v87 =>
              some (v87, q82.2.1, q82.2.2))
             ((binK .plain .eql (o66.t 20) (.int .i64 6)).bind fun v88 =>
              csel v88
                ((fieldA 3 (o66.t 5)).bind fun v89 =>
                 (ld false 1 v89 o66.H).bind fun v90 =>
                 (binK .plain .eql v90 (.string ⟨#[]⟩)).bind fun v91 =>
                 let t93 : Tm := put (put (put (put (put (put o66.t 86 v88) 85 v88) 87 v89) 88 v90) 89 v91) 90 v91
                 (gsel v91 true
                   ((fieldA 1 (t93 5)).bind fun v94 =>
                    (ld false 1 v94 o66.H).bind fun v95 =>
                    (binK .plain .gtr v95 (t93 1)).bind fun v96 =>
                    some (put (put (put (put t93 91 v94) 92 v95) 93 (t93 1)) 94 v96, o66.H, o66.n + 23))
                   (some (put (put (put (put t93 91 (.tuple #[])) 92 (.tuple #[])) 93 (.tuple #[])) 94 (.tuple #[]), o66.H, o66.n + 23))
                 ).bind fun (q92 : R3) =>
                 (pickV (q92.1 90) (q92.1 94) (.bool false)).bind fun v97 =>
                 let t99 : Tm := put (put q92.1 95 v97) 96 v97
                 (gsel v97 true
                   ((fieldA 1 (t99 5)).bind fun v100 =>
                    (ld false 1 v100 q92.2.1).bind fun v101 =>
                    (binK .plain .lss v101 (t99 6)).bind fun v102 =>
                    some (put (put (put (put t99 97 v100) 98 v101) 99 (t99 6)) 100 v102, q92.2.1, q92.2.2))
                   (some (put (put (put (put t99 97 (.tuple #[])) 98 (.tuple #[])) 99 (.tuple #[])) 100 (.tuple #[]), q92.2.1, q92.2.2))
                 ).bind fun (q98 : R3) =>
                 (pickV (q98.1 96) (q98.1 100) (.bool false)).bind fun v103 =>
                 let t105 : Tm := put (put q98.1 101 v103) 102 v103
                 (gsel v103 true
                   ((fieldA 2 (t105 5)).bind fun v106 =>
                    (ld false 1 v106 q98.2.1).bind fun v107 =>
                    (C 75 [v107, .int .i64 0, .int .i64 4] q98.2.1 (q98.2.2)).bind fun q108 =>
                    some (put (put (put t105 103 v106) 104 v107) 105 q108.1, q108.2.1, q108.2.2))
                   (some (put (put (put t105 103 (.tuple #[])) 104 (.tuple #[])) 105 (.tuple #[]), q98.2.1, q98.2.2))
                 ).bind fun (q104 : R3) =>
                 (pickV (q104.1 102) (q104.1 105) (.bool false)).bind fun v109 =>
                 some (v109, q104.2.1, q104.2.2))
                ((binK .plain .eql (o66.t 20) (.int .i64 7)).bind fun v110 =>
                 csel v110
                   ((fieldA 2 (o66.t 5)).bind fun v111 =>
                    (ld false 1 v111 o66.H).bind fun v112 =>
                    (fieldA 2 (o66.t 7)).bind fun v113 =>
                    (st false 1 v113 v112 o66.H).bind fun H114 =>
                    (ld true 4 (o66.t 5) H114).bind fun v115 =>
                    (ld true 4 (o66.t 7) H114).bind fun v116 =>
                    (binK (.agg [(0, (.int .i64)), (1, (.int .i64)), (2, (.int .i64)), (3, .string)]) .eql v115 v116).bind fun v117 =>
                    let t119 : Tm := put (put (put (put (put (put (put (put (put (put (put o66.t 86 v88) 85 v88) 108 v110) 107 v110) 109 v111) 110 v112) 111 v113) 112 v115) 113 v116) 114 v117) 115 v117
                    (gsel v117 true
                      ((fieldA 2 (t119 5)).bind fun v120 =>
                       (ld false 1 v120 H114).bind fun v121 =>
                       (C 75 [v121, .int .i64 0, .int .i64 4] H114 (o66.n + 17)).bind fun q122 =>
                       some (put (put (put t119 116 v120) 117 v121) 118 q122.1, q122.2.1, q122.2.2))
                      (some (put (put (put t119 116 (.tuple #[])) 117 (.tuple #[])) 118 (.tuple #[]), H114, o66.n + 17))
                    ).bind fun (q118 : R3) =>
                    (pickV (q118.1 115) (q118.1 118) (.bool false)).bind fun v123 =>
                    some (v123, q118.2.1, q118.2.2))
                   ((binK .plain .eql (o66.t 20) (.int .i64 8)).bind fun v124 =>
                    let t126 : Tm := put (put (put (put (put (put o66.t 86 v88) 85 v88) 108 v110) 107 v110) 121 v124) 120 v124
                    (csel v124
                      (some ⟨.normal, t126, o66.H, o66.n + 6⟩)
                      ((binK .plain .eql (t126 20) (.int .i64 9)).bind fun v127 =>
                       some ⟨.normal, put (put t126 122 v127) 120 v127, o66.H, o66.n + 8⟩)
                    ).bind fun (o125 : Out) =>
                    csel (o125.t 120)
                      ((ld true 4 (o125.t 5) o125.H).bind fun v128 =>
                       (ld true 4 (o125.t 7) o125.H).bind fun v129 =>
                       (binK (.agg [(0, (.int .i64)), (1, (.int .i64)), (2, (.int .i64)), (3, .string)]) .eql v128 v129).bind fun v130 =>
                       some (v130, o125.H, o125.n + 4))
                      (some (.bool false, o125.H, o125.n + 1))))))))
theorem s73 (C : Calling) (L : Body → Body) (t : Tm) (H : Hp) (n : Nat) : bodyK Try.prog C L Try.f73 t H n = S73 C L t H n := by kernel_rfl
theorem c73 (args : List Value) (H : Hp) (n : Nat) : Call Try.prog 73 args H n = S73 (Call Try.prog) Loop (argsT args) H n := (Call_body Try.func73 args H n).trans (s73 ..)
noncomputable def S74L0 (C : Calling) (L : Body → Body) : Body := fun t H n =>
  (lenV true (t 0)).bind fun v2 =>
  (binK .plain .lss (t 3) v2).bind fun v3 =>
  csel v3
    ((idxS (t 0) (t 3)).bind fun v4 =>
     (C 111 [v4] H (n + 9)).bind fun q5 =>
     (un .not q5.1).bind fun v6 =>
     csel v6
       (some ⟨.ret, put (put (put (put (put (put (put (put (put (put t 4 (t 3)) 5 (t 0)) 6 v2) 7 v3) 10 (t 0)) 11 (t 3)) 12 v4) 13 q5.1) 14 v6) 2 (.bool false), q5.2.1, q5.2.2 + 1⟩)
       ((binK .plain .add (t 3) (.int .i64 1)).bind fun v7 =>
        some ⟨.normal, put (put (put (put (put (put (put (put (put (put (put (put t 4 (t 3)) 5 (t 0)) 6 v2) 7 v3) 10 (t 0)) 11 (t 3)) 12 v4) 13 q5.1) 14 v6) 8 (t 3)) 9 v7) 3 v7, q5.2.1, q5.2.2 + 3⟩))
    (some ⟨(.exit 0), put (put (put (put t 4 (t 3)) 5 (t 0)) 6 v2) 7 v3, H, n + 4⟩)
noncomputable def S74 (C : Calling) (L : Body → Body) (t : Tm) (H : Hp) (n : Nat) : Option (Value × Hp × Nat) :=
  (L (S74L0 C L) (put (put t 2 (.bool false)) 3 (.int .i64 0)) H (n + 2)).bind fun (o1 : Out) =>
  let o8 := outOf 0 o1
  thenK o8
    ((lenV true (o8.t 0)).bind fun v9 =>
     (C 75 [v9, .int .i64 1, .int .i64 12] o8.H (o8.n + 4)).bind fun q10 =>
     some (q10.1, q10.2.1, q10.2.2))
    (finE o8.e
       (some (o8.t 2, o8.H, o8.n)))
theorem s74 (C : Calling) (L : Body → Body) (t : Tm) (H : Hp) (n : Nat) : bodyK Try.prog C L Try.f74 t H n = S74 C L t H n := by kernel_rfl
theorem c74 (args : List Value) (H : Hp) (n : Nat) : Call Try.prog 74 args H n = S74 (Call Try.prog) Loop (argsT args) H n := (Call_body Try.func74 args H n).trans (s74 ..)
noncomputable def S75 (C : Calling) (L : Body → Body) (t : Tm) (H : Hp) (n : Nat) : Option (Value × Hp × Nat) :=
  (binK .plain .geq (t 0) (t 1)).bind fun v1 =>
  let t3 : Tm := put (put (put (put (put t 6 (.bool false)) 7 (t 0)) 8 (t 1)) 9 v1) 10 v1
  (gsel v1 true
    ((binK .plain .leq (t3 0) (t3 2)).bind fun v4 =>
     some (put (put (put t3 11 (t3 0)) 12 (t3 2)) 13 v4, H, n + 10))
    (some (put (put (put t3 11 (.tuple #[])) 12 (.tuple #[])) 13 (.tuple #[]), H, n + 10))
  ).bind fun (q2 : R3) =>
  (pickV (q2.1 10) (q2.1 13) (.bool false)).bind fun v5 =>
  some (v5, q2.2.1, q2.2.2)
theorem s75 (C : Calling) (L : Body → Body) (t : Tm) (H : Hp) (n : Nat) : bodyK Try.prog C L Try.f75 t H n = S75 C L t H n := by kernel_rfl
theorem c75 (args : List Value) (H : Hp) (n : Nat) : Call Try.prog 75 args H n = S75 (Call Try.prog) Loop (argsT args) H n := (Call_body Try.func75 args H n).trans (s75 ..)
noncomputable def S76 (C : Calling) (L : Body → Body) (t : Tm) (H : Hp) (n : Nat) : Option (Value × Hp × Nat) :=
  (vcells (t 0)).bind fun c2 =>
  let H1 := H.set (n) (some (.row c2 0 true))
  (vcells (t 1)).bind fun c4 =>
  let H3 := H1.set (n + 1) (some (.row c4 0 true))
  (ld true 3 (ptr (n) 0) H3).bind fun v5 =>
  (C 25 [v5] H3 (n + 36)).bind fun q6 =>
  (un .not q6.1).bind fun v7 =>
  let t9 : Tm := put (put (put (put (put (put (put t 2 (ptr (n) 0)) 3 (ptr (n + 1) 0)) 4 (.bool false)) 6 v5) 7 q6.1) 8 v7) 9 v7
  (gsel v7 false
    ((fieldA 0 (ptr (n + 1) 0)).bind fun v10 =>
     (ld true 1 v10 q6.2.1).bind fun v11 =>
     (C 45 [v11] q6.2.1 (q6.2.2)).bind fun q12 =>
     (un .not q12.1).bind fun v13 =>
     some (put (put (put (put t9 10 v10) 11 v11) 12 q12.1) 13 v13, q12.2.1, q12.2.2))
    (some (put (put (put (put t9 10 (.tuple #[])) 11 (.tuple #[])) 12 (.tuple #[])) 13 (.tuple #[]), q6.2.1, q6.2.2))
  ).bind fun (q8 : R3) =>
  (pickV (q8.1 9) (.bool true) (q8.1 13)).bind fun v14 =>
  let t16 : Tm := put (put q8.1 14 v14) 15 v14
  (gsel v14 false
    ((fieldA 0 (t16 3)).bind fun v17 =>
     (ld true 1 v17 q8.2.1).bind fun v18 =>
     (fieldA 2 (t16 3)).bind fun v19 =>
     (ld false 1 v19 q8.2.1).bind fun v20 =>
     (C 46 [v18, v20] q8.2.1 (q8.2.2)).bind fun q21 =>
     (un .not q21.1).bind fun v22 =>
     some (put (put (put (put (put (put t16 16 v17) 17 v18) 18 v19) 19 v20) 20 q21.1) 21 v22, q21.2.1, q21.2.2))
    (some (put (put (put (put (put (put t16 16 (.tuple #[])) 17 (.tuple #[])) 18 (.tuple #[])) 19 (.tuple #[])) 20 (.tuple #[])) 21 (.tuple #[]), q8.2.1, q8.2.2))
  ).bind fun (q15 : R3) =>
  (pickV (q15.1 15) (.bool true) (q15.1 21)).bind fun v23 =>
  let t25 : Tm := put (put q15.1 22 v23) 23 v23
  (gsel v23 false
    ((fieldA 0 (t25 3)).bind fun v26 =>
     (ld true 1 v26 q15.2.1).bind fun v27 =>
     (fieldA 3 (t25 3)).bind fun v28 =>
     (ld false 1 v28 q15.2.1).bind fun v29 =>
     (C 46 [v27, v29] q15.2.1 (q15.2.2)).bind fun q30 =>
     (un .not q30.1).bind fun v31 =>
     some (put (put (put (put (put (put t25 24 v26) 25 v27) 26 v28) 27 v29) 28 q30.1) 29 v31, q30.2.1, q30.2.2))
    (some (put (put (put (put (put (put t25 24 (.tuple #[])) 25 (.tuple #[])) 26 (.tuple #[])) 27 (.tuple #[])) 28 (.tuple #[])) 29 (.tuple #[]), q15.2.1, q15.2.2))
  ).bind fun (q24 : R3) =>
  (pickV (q24.1 23) (.bool true) (q24.1 29)).bind fun v32 =>
  let t34 : Tm := put (put q24.1 30 v32) 31 v32
  (gsel v32 false
    ((fieldA 0 (t34 3)).bind fun v35 =>
     (ld true 1 v35 q24.2.1).bind fun v36 =>
     (fieldA 4 (t34 3)).bind fun v37 =>
     (ld false 1 v37 q24.2.1).bind fun v38 =>
     (C 46 [v36, v38] q24.2.1 (q24.2.2)).bind fun q39 =>
     (un .not q39.1).bind fun v40 =>
     some (put (put (put (put (put (put t34 32 v35) 33 v36) 34 v37) 35 v38) 36 q39.1) 37 v40, q39.2.1, q39.2.2))
    (some (put (put (put (put (put (put t34 32 (.tuple #[])) 33 (.tuple #[])) 34 (.tuple #[])) 35 (.tuple #[])) 36 (.tuple #[])) 37 (.tuple #[]), q24.2.1, q24.2.2))
  ).bind fun (q33 : R3) =>
  (pickV (q33.1 31) (.bool true) (q33.1 37)).bind fun v41 =>
  csel v41
    (some (.bool false, q33.2.1, q33.2.2 + 1))
    ((fieldA 1 (q33.1 3)).bind fun v42 =>
     (ld false 1 v42 q33.2.1).bind fun v43 =>
     (fieldA 1 (q33.1 2)).bind fun v44 =>
     (ld false 1 v44 q33.2.1).bind fun v45 =>
     (lenV false v45).bind fun v46 =>
     (binK .plain .sub v46 (.int .i64 1)).bind fun v47 =>
     (C 75 [v43, .int .i64 0, v47] q33.2.1 (q33.2.2 + 8)).bind fun q48 =>
     (fieldA 5 (q33.1 3)).bind fun v49 =>
     (ld false 1 v49 q48.2.1).bind fun v50 =>
     (binK .plain .eql v50 (.int .i64 0)).bind fun v51 =>
     csel v51
       (let t53 : Tm := put (put (put (put (put (put (put (put (put (put (put (put (put (put (put q33.1 38 v41) 39 v42) 40 v43) 41 v44) 42 v45) 43 v46) 44 v47) 45 q48.1) 5 q48.1) 46 v49) 47 v50) 49 v51) 48 v51) 50 q48.1) 51 q48.1
        (gsel q48.1 true
          ((fieldA 6 (t53 3)).bind fun v54 =>
           (ld false 1 v54 q48.2.1).bind fun v55 =>
           (binK .plain .eql v55 (.int .i64 0)).bind fun v56 =>
           some (put (put (put t53 52 v54) 53 v55) 54 v56, q48.2.1, q48.2.2 + 16))
          (some (put (put (put t53 52 (.tuple #[])) 53 (.tuple #[])) 54 (.tuple #[]), q48.2.1, q48.2.2 + 16))
        ).bind fun (q52 : R3) =>
        (pickV (q52.1 51) (q52.1 54) (.bool false)).bind fun v57 =>
        let t59 : Tm := put (put q52.1 55 v57) 56 v57
        (gsel v57 true
          ((fieldA 7 (t59 3)).bind fun v60 =>
           (ld false 1 v60 q52.2.1).bind fun v61 =>
           (binK .plain .eql v61 (.int .i64 0)).bind fun v62 =>
           some (put (put (put t59 57 v60) 58 v61) 59 v62, q52.2.1, q52.2.2))
          (some (put (put (put t59 57 (.tuple #[])) 58 (.tuple #[])) 59 (.tuple #[]), q52.2.1, q52.2.2))
        ).bind fun (q58 : R3) =>
        (pickV (q58.1 56) (q58.1 59) (.bool false)).bind fun v63 =>
        some (v63, q58.2.1, q58.2.2))
       ((binK .plain .eql v50 (.int .i64 1)).bind fun v64 =>
        csel v64
          (let t66 : Tm := put (put (put (put (put (put (put (put (put (put (put (put (put (put (put (put (put q33.1 38 v41) 39 v42) 40 v43) 41 v44) 42 v45) 43 v46) 44 v47) 45 q48.1) 5 q48.1) 46 v49) 47 v50) 49 v51) 48 v51) 62 v64) 61 v64) 63 q48.1) 64 q48.1
           (gsel q48.1 true
             ((fieldA 6 (t66 3)).bind fun v67 =>
              (ld false 1 v67 q48.2.1).bind fun v68 =>
              (C 75 [v68, .int .i64 13, .int .i64 19] q48.2.1 (q48.2.2 + 25)).bind fun q69 =>
              some (put (put (put t66 65 v67) 66 v68) 67 q69.1, q69.2.1, q69.2.2))
             (some (put (put (put t66 65 (.tuple #[])) 66 (.tuple #[])) 67 (.tuple #[]), q48.2.1, q48.2.2 + 25))
           ).bind fun (q65 : R3) =>
           (pickV (q65.1 64) (q65.1 67) (.bool false)).bind fun v70 =>
           let t72 : Tm := put (put q65.1 68 v70) 69 v70
           (gsel v70 true
             ((fieldA 6 (t72 3)).bind fun v73 =>
              (ld false 1 v73 q65.2.1).bind fun v74 =>
              (binK .plain .neq v74 (.int .i64 18)).bind fun v75 =>
              some (put (put (put t72 70 v73) 71 v74) 72 v75, q65.2.1, q65.2.2))
             (some (put (put (put t72 70 (.tuple #[])) 71 (.tuple #[])) 72 (.tuple #[]), q65.2.1, q65.2.2))
           ).bind fun (q71 : R3) =>
           (pickV (q71.1 69) (q71.1 72) (.bool false)).bind fun v76 =>
           let t78 : Tm := put (put q71.1 73 v76) 74 v76
           (gsel v76 true
             ((fieldA 0 (t78 3)).bind fun v79 =>
              (ld true 1 v79 q71.2.1).bind fun v80 =>
              (fieldA 7 (t78 3)).bind fun v81 =>
              (ld false 1 v81 q71.2.1).bind fun v82 =>
              (C 46 [v80, v82] q71.2.1 (q71.2.2)).bind fun q83 =>
              some (put (put (put (put (put t78 75 v79) 76 v80) 77 v81) 78 v82) 79 q83.1, q83.2.1, q83.2.2))
             (some (put (put (put (put (put t78 75 (.tuple #[])) 76 (.tuple #[])) 77 (.tuple #[])) 78 (.tuple #[])) 79 (.tuple #[]), q71.2.1, q71.2.2))
           ).bind fun (q77 : R3) =>
           (pickV (q77.1 74) (q77.1 79) (.bool false)).bind fun v84 =>
           some (v84, q77.2.1, q77.2.2))
          ((binK .plain .eql v50 (.int .i64 2)).bind fun v85 =>
           csel v85
             ((fieldA 1 (q33.1 3)).bind fun v86 =>
              (ld false 1 v86 q48.2.1).bind fun v87 =>
              (binK .plain .eql v87 (.int .i64 0)).bind fun v88 =>
              let t90 : Tm := put (put (put (put (put (put (put (put (put (put (put (put (put (put (put (put (put (put (put (put (put q33.1 38 v41) 39 v42) 40 v43) 41 v44) 42 v45) 43 v46) 44 v47) 45 q48.1) 5 q48.1) 46 v49) 47 v50) 49 v51) 48 v51) 62 v64) 61 v64) 82 v85) 81 v85) 83 v86) 84 v87) 85 v88) 86 v88
              (gsel v88 true
                ((fieldA 6 (t90 3)).bind fun v91 =>
                 (ld false 1 v91 q48.2.1).bind fun v92 =>
                 (binK .plain .eql v92 (.int .i64 0)).bind fun v93 =>
                 some (put (put (put t90 87 v91) 88 v92) 89 v93, q48.2.1, q48.2.2 + 24))
                (some (put (put (put t90 87 (.tuple #[])) 88 (.tuple #[])) 89 (.tuple #[]), q48.2.1, q48.2.2 + 24))
              ).bind fun (q89 : R3) =>
              (pickV (q89.1 86) (q89.1 89) (.bool false)).bind fun v94 =>
              let t96 : Tm := put (put q89.1 90 v94) 91 v94
              (gsel v94 true
                ((fieldA 0 (t96 3)).bind fun v97 =>
                 (ld true 1 v97 q89.2.1).bind fun v98 =>
                 (fieldA 7 (t96 3)).bind fun v99 =>
                 (ld false 1 v99 q89.2.1).bind fun v100 =>
                 (C 46 [v98, v100] q89.2.1 (q89.2.2)).bind fun q101 =>
                 some (put (put (put (put (put t96 92 v97) 93 v98) 94 v99) 95 v100) 96 q101.1, q101.2.1, q101.2.2))
                (some (put (put (put (put (put t96 92 (.tuple #[])) 93 (.tuple #[])) 94 (.tuple #[])) 95 (.tuple #[])) 96 (.tuple #[]), q89.2.1, q89.2.2))
              ).bind fun (q95 : R3) =>
              (pickV (q95.1 91) (q95.1 96) (.bool false)).bind fun v102 =>
              some (v102, q95.2.1, q95.2.2))
             ((binK .plain .eql v50 (.int .i64 3)).bind fun v103 =>
              csel v103
                ((fieldA 1 (q33.1 3)).bind fun v104 =>
                 (ld false 1 v104 q48.2.1).bind fun v105 =>
                 (binK .plain .eql v105 (.int .i64 0)).bind fun v106 =>
                 let t108 : Tm := put (put (put (put (put (put (put (put (put (put (put (put (put (put (put (put (put (put (put (put (put (put (put q33.1 38 v41) 39 v42) 40 v43) 41 v44) 42 v45) 43 v46) 44 v47) 45 q48.1) 5 q48.1) 46 v49) 47 v50) 49 v51) 48 v51) 62 v64) 61 v64) 82 v85) 81 v85) 99 v103) 98 v103) 100 v104) 101 v105) 102 v106) 103 v106
                 (gsel v106 true
                   ((fieldA 6 (t108 3)).bind fun v109 =>
                    (ld false 1 v109 q48.2.1).bind fun v110 =>
                    (C 75 [v110, .int .i64 1, .int .i64 7] q48.2.1 (q48.2.2 + 24)).bind fun q111 =>
                    some (put (put (put t108 104 v109) 105 v110) 106 q111.1, q111.2.1, q111.2.2))
                   (some (put (put (put t108 104 (.tuple #[])) 105 (.tuple #[])) 106 (.tuple #[]), q48.2.1, q48.2.2 + 24))
                 ).bind fun (q107 : R3) =>
                 (pickV (q107.1 103) (q107.1 106) (.bool false)).bind fun v112 =>
                 let t114 : Tm := put (put q107.1 107 v112) 108 v112
                 (gsel v112 true
                   ((fieldA 7 (t114 3)).bind fun v115 =>
                    (ld false 1 v115 q107.2.1).bind fun v116 =>
                    (binK .plain .eql v116 (.int .i64 0)).bind fun v117 =>
                    some (put (put (put t114 109 v115) 110 v116) 111 v117, q107.2.1, q107.2.2))
                   (some (put (put (put t114 109 (.tuple #[])) 110 (.tuple #[])) 111 (.tuple #[]), q107.2.1, q107.2.2))
                 ).bind fun (q113 : R3) =>
                 (pickV (q113.1 108) (q113.1 111) (.bool false)).bind fun v118 =>
                 some (v118, q113.2.1, q113.2.2))
                (some (.bool false, q48.2.1, q48.2.2 + 11))))))
theorem s76 (C : Calling) (L : Body → Body) (t : Tm) (H : Hp) (n : Nat) : bodyK Try.prog C L Try.f76 t H n = S76 C L t H n := by kernel_rfl
theorem c76 (args : List Value) (H : Hp) (n : Nat) : Call Try.prog 76 args H n = S76 (Call Try.prog) Loop (argsT args) H n := (Call_body Try.func76 args H n).trans (s76 ..)
noncomputable def S77 (C : Calling) (L : Body → Body) (t : Tm) (H : Hp) (n : Nat) : Option (Value × Hp × Nat) :=
  (vcells (t 0)).bind fun c2 =>
  let H1 := H.set (n) (some (.row c2 0 true))
  let H3 := H1.set (n + 1) (some (.row [nilS, .int .i64 0, .int .i64 0, .int .i64 0, .int .i64 0, .int .i64 0, .int .i64 0, .int .i64 0] 0 true))
  (fieldA 0 (ptr (n) 0)).bind fun v4 =>
  (ld true 1 v4 H3).bind fun v5 =>
  (C 47 [v5] H3 (n + 7)).bind fun q6 =>
  (fieldA 0 (ptr (n) 0)).bind fun v7 =>
  (st true 1 v7 q6.1 q6.2.1).bind fun H8 =>
  (ld true 8 (ptr (n) 0) H8).bind fun v9 =>
  (st true 8 (ptr (n + 1) 0) v9 H8).bind fun H10 =>
  (ld true 8 (ptr (n + 1) 0) H10).bind fun v11 =>
  some (v11, H10, q6.2.2 + 2)
theorem s77 (C : Calling) (L : Body → Body) (t : Tm) (H : Hp) (n : Nat) : bodyK Try.prog C L Try.f77 t H n = S77 C L t H n := by kernel_rfl
theorem c77 (args : List Value) (H : Hp) (n : Nat) : Call Try.prog 77 args H n = S77 (Call Try.prog) Loop (argsT args) H n := (Call_body Try.func77 args H n).trans (s77 ..)
noncomputable def S78 (C : Calling) (L : Body → Body) (t : Tm) (H : Hp) (n : Nat) : Option (Value × Hp × Nat) :=
  (nilchk (t 0)).bind fun v1 =>
  (fieldA 0 v1).bind fun v2 =>
  (nilchk (t 0)).bind fun v3 =>
  (fieldA 2 v3).bind fun v4 =>
  (ld false 1 v4 H).bind fun v5 =>
  (bld [.int .i64 0, .int .i64 0, .string ⟨#[]⟩, .int .i64 0, .int .i64 0] [(0, 1, .int .i64 5), (3, 1, t 1), (4, 1, v5)]).bind fun v6 =>
  (C 48 [v2, v6] H (n + 14)).bind fun q7 =>
  (nilchk (t 0)).bind fun v8 =>
  (fieldA 2 v8).bind fun v9 =>
  (st false 1 v9 q7.1 q7.2.1).bind fun H10 =>
  some (.tuple ⟨[]⟩, H10, q7.2.2)
theorem s78 (C : Calling) (L : Body → Body) (t : Tm) (H : Hp) (n : Nat) : bodyK Try.prog C L Try.f78 t H n = S78 C L t H n := by kernel_rfl
theorem c78 (args : List Value) (H : Hp) (n : Nat) : Call Try.prog 78 args H n = S78 (Call Try.prog) Loop (argsT args) H n := (Call_body Try.func78 args H n).trans (s78 ..)
noncomputable def S79 (C : Calling) (L : Body → Body) (t : Tm) (H : Hp) (n : Nat) : Option (Value × Hp × Nat) :=
  (vcells (t 1)).bind fun c2 =>
  let H1 := H.set (n) (some (.row c2 0 true))
  (ld true 1 (ptr (n) 0) H1).bind fun v3 =>
  (ld true 1 (ptr (n) 0) H1).bind fun v4 =>
  (bsl (n + 6) 1 1 [.int .i64 0] [(0, 1, t 2)] H1).bind fun p5 =>
  (C 113 [v4, p5.1] p5.2 (n + 13)).bind fun q6 =>
  ask (ld true 1 (ptr (n) 0) q6.2.1 = some v3) <|
  (C 112 [t 0, v3, q6.1] q6.2.1 (q6.2.2)).bind fun q7 =>
  (idxA 1 q7.1 (t 2)).bind fun v8 =>
  (ld false 1 v8 q7.2.1).bind fun v9 =>
  some (v9, q7.2.1, q7.2.2)
theorem s79 (C : Calling) (L : Body → Body) (t : Tm) (H : Hp) (n : Nat) : bodyK Try.prog C L Try.f79 t H n = S79 C L t H n := by kernel_rfl
theorem c79 (args : List Value) (H : Hp) (n : Nat) : Call Try.prog 79 args H n = S79 (Call Try.prog) Loop (argsT args) H n := (Call_body Try.func79 args H n).trans (s79 ..)
noncomputable def S80 (C : Calling) (L : Body → Body) (t : Tm) (H : Hp) (n : Nat) : Option (Value × Hp × Nat) :=
  (vcells (t 0)).bind fun c2 =>
  let H1 := H.set (n) (some (.row c2 0 true))
  let H3 := H1.set (n + 1) (some (.row [nilS, .int .i64 0, .int .i64 0, .int .i64 0, .int .i64 0, .int .i64 0, .int .i64 0, .int .i64 0] 0 true))
  (ld true 8 (ptr (n) 0) H3).bind fun v4 =>
  (C 77 [v4] H3 (n + 6)).bind fun q5 =>
  let H6 := q5.2.1.set (n + 4) (some (.row [nilS, .int .i64 0, .int .i64 0, .int .i64 0, .int .i64 0, .int .i64 0, .int .i64 0, .int .i64 0] 0 true))
  (st true 8 (ptr (n + 4) 0) q5.1 H6).bind fun H7 =>
  (fieldA 5 (ptr (n + 4) 0)).bind fun v8 =>
  (st false 1 v8 (.int .i64 3) H7).bind fun H9 =>
  (fieldA 1 (ptr (n + 4) 0)).bind fun v10 =>
  (st false 1 v10 (.int .i64 0) H9).bind fun H11 =>
  (fieldA 6 (ptr (n + 4) 0)).bind fun v12 =>
  (st false 1 v12 (t 1) H11).bind fun H13 =>
  (fieldA 7 (ptr (n + 4) 0)).bind fun v14 =>
  (st false 1 v14 (.int .i64 0) H13).bind fun H15 =>
  (ld true 8 (ptr (n + 4) 0) H15).bind fun v16 =>
  (st true 8 (ptr (n + 1) 0) v16 H15).bind fun H17 =>
  (ld true 8 (ptr (n + 1) 0) H17).bind fun v18 =>
  some (v18, H17, q5.2.2 + 11)
theorem s80 (C : Calling) (L : Body → Body) (t : Tm) (H : Hp) (n : Nat) : bodyK Try.prog C L Try.f80 t H n = S80 C L t H n := by kernel_rfl
theorem c80 (args : List Value) (H : Hp) (n : Nat) : Call Try.prog 80 args H n = S80 (Call Try.prog) Loop (argsT args) H n := (Call_body Try.func80 args H n).trans (s80 ..)
noncomputable def S81 (C : Calling) (L : Body → Body) (t : Tm) (H : Hp) (n : Nat) : Option (Value × Hp × Nat) :=
  (vcells (t 0)).bind fun c2 =>
  let H1 := H.set (n) (some (.row c2 0 true))
  let H3 := H1.set (n + 1) (some (.row [nilS, .int .i64 0, .int .i64 0, .int .i64 0, .int .i64 0, .int .i64 0, .int .i64 0, .int .i64 0] 0 true))
  (fieldA 0 (ptr (n) 0)).bind fun v4 =>
  (ld true 1 v4 H3).bind fun v5 =>
  (C 55 [v5] H3 (n + 7)).bind fun q6 =>
  (fieldA 0 (ptr (n) 0)).bind fun v7 =>
  (st true 1 v7 q6.1 q6.2.1).bind fun H8 =>
  (ld true 8 (ptr (n) 0) H8).bind fun v9 =>
  (st true 8 (ptr (n + 1) 0) v9 H8).bind fun H10 =>
  (ld true 8 (ptr (n + 1) 0) H10).bind fun v11 =>
  some (v11, H10, q6.2.2 + 2)
theorem s81 (C : Calling) (L : Body → Body) (t : Tm) (H : Hp) (n : Nat) : bodyK Try.prog C L Try.f81 t H n = S81 C L t H n := by kernel_rfl
theorem c81 (args : List Value) (H : Hp) (n : Nat) : Call Try.prog 81 args H n = S81 (Call Try.prog) Loop (argsT args) H n := (Call_body Try.func81 args H n).trans (s81 ..)
noncomputable def S82 (C : Calling) (L : Body → Body) (t : Tm) (H : Hp) (n : Nat) : Option (Value × Hp × Nat) :=
  (vcells (t 0)).bind fun c2 =>
  let H1 := H.set (n) (some (.row c2 0 true))
  let H3 := H1.set (n + 1) (some (.row [nilS, .int .i64 0, .int .i64 0, .int .i64 0, .int .i64 0, .int .i64 0, .int .i64 0, .int .i64 0] 0 true))
  (ld true 8 (ptr (n) 0) H3).bind fun v4 =>
  (C 81 [v4] H3 (n + 5)).bind fun q5 =>
  (st true 8 (ptr (n) 0) q5.1 q5.2.1).bind fun H6 =>
  (fieldA 5 (ptr (n) 0)).bind fun v7 =>
  (st false 1 v7 (.int .i64 3) H6).bind fun H8 =>
  (fieldA 6 (ptr (n) 0)).bind fun v9 =>
  (st false 1 v9 (t 1) H8).bind fun H10 =>
  (fieldA 1 (ptr (n) 0)).bind fun v11 =>
  (st false 1 v11 (.int .i64 0) H10).bind fun H12 =>
  (fieldA 7 (ptr (n) 0)).bind fun v13 =>
  (st false 1 v13 (.int .i64 0) H12).bind fun H14 =>
  (ld true 8 (ptr (n) 0) H14).bind fun v15 =>
  (st true 8 (ptr (n + 1) 0) v15 H14).bind fun H16 =>
  (ld true 8 (ptr (n + 1) 0) H16).bind fun v17 =>
  some (v17, H16, q5.2.2 + 11)
theorem s82 (C : Calling) (L : Body → Body) (t : Tm) (H : Hp) (n : Nat) : bodyK Try.prog C L Try.f82 t H n = S82 C L t H n := by kernel_rfl
theorem c82 (args : List Value) (H : Hp) (n : Nat) : Call Try.prog 82 args H n = S82 (Call Try.prog) Loop (argsT args) H n := (Call_body Try.func82 args H n).trans (s82 ..)
noncomputable def S83 (C : Calling) (L : Body → Body) (t : Tm) (H : Hp) (n : Nat) : Option (Value × Hp × Nat) :=
  (vcells (t 1)).bind fun c2 =>
  let H1 := H.set (n) (some (.row c2 0 true))
  (ld true 1 (ptr (n) 0) H1).bind fun v3 =>
  (bsl (n + 5) 1 1 [.int .i64 0] [(0, 1, t 2)] H1).bind fun p4 =>
  (C 114 [t 0, v3, p4.1] p4.2 (n + 11)).bind fun q5 =>
  (idxA 1 q5.1 (t 2)).bind fun v6 =>
  (ld false 1 v6 q5.2.1).bind fun v7 =>
  some (v7, q5.2.1, q5.2.2)
theorem s83 (C : Calling) (L : Body → Body) (t : Tm) (H : Hp) (n : Nat) : bodyK Try.prog C L Try.f83 t H n = S83 C L t H n := by kernel_rfl
theorem c83 (args : List Value) (H : Hp) (n : Nat) : Call Try.prog 83 args H n = S83 (Call Try.prog) Loop (argsT args) H n := (Call_body Try.func83 args H n).trans (s83 ..)
noncomputable def S95 (C : Calling) (L : Body → Body) (t : Tm) (H : Hp) (n : Nat) : Option (Value × Hp × Nat) :=
  (vcells (t 0)).bind fun c2 =>
  let H1 := H.set (n) (some (.row c2 0 true))
  (fieldA 3 (ptr (n) 0)).bind fun v3 =>
  (ld false 1 v3 H1).bind fun v4 =>
  (lenV true v4).bind fun v5 =>
  (binK .plain .sub (t 1) v5).bind fun v6 =>
  (binK .plain .lss v6 (.int .i64 0)).bind fun v7 =>
  csel v7
    (some (.int .i64 (-1), H1, n + 11))
    (some (v6, H1, n + 12))
theorem s95 (C : Calling) (L : Body → Body) (t : Tm) (H : Hp) (n : Nat) : bodyK Try.prog C L Try.f95 t H n = S95 C L t H n := by kernel_rfl
theorem c95 (args : List Value) (H : Hp) (n : Nat) : Call Try.prog 95 args H n = S95 (Call Try.prog) Loop (argsT args) H n := (Call_body Try.func95 args H n).trans (s95 ..)
noncomputable def S96 (C : Calling) (L : Body → Body) (t : Tm) (H : Hp) (n : Nat) : Option (Value × Hp × Nat) :=
  (vcells (t 0)).bind fun c2 =>
  let H1 := H.set (n) (some (.row c2 0 true))
  (fieldA 0 (ptr (n) 0)).bind fun v3 =>
  (ld false 1 v3 H1).bind fun v4 =>
  (lenV true v4).bind fun v5 =>
  (binK .plain .sub (t 1) v5).bind fun v6 =>
  (binK .plain .lss v6 (.int .i64 0)).bind fun v7 =>
  csel v7
    (some (.int .i64 (-1), H1, n + 11))
    (some (v6, H1, n + 12))
theorem s96 (C : Calling) (L : Body → Body) (t : Tm) (H : Hp) (n : Nat) : bodyK Try.prog C L Try.f96 t H n = S96 C L t H n := by kernel_rfl
theorem c96 (args : List Value) (H : Hp) (n : Nat) : Call Try.prog 96 args H n = S96 (Call Try.prog) Loop (argsT args) H n := (Call_body Try.func96 args H n).trans (s96 ..)
noncomputable def S97 (C : Calling) (L : Body → Body) (t : Tm) (H : Hp) (n : Nat) : Option (Value × Hp × Nat) :=
  (vcells (t 0)).bind fun c2 =>
  let H1 := H.set (n) (some (.row c2 0 true))
  (fieldA 2 (ptr (n) 0)).bind fun v3 =>
  (ld false 1 v3 H1).bind fun v4 =>
  (lenV true v4).bind fun v5 =>
  (binK .plain .sub (t 1) v5).bind fun v6 =>
  (binK .plain .lss v6 (.int .i64 0)).bind fun v7 =>
  csel v7
    (some (.int .i64 (-1), H1, n + 11))
    (some (v6, H1, n + 12))
theorem s97 (C : Calling) (L : Body → Body) (t : Tm) (H : Hp) (n : Nat) : bodyK Try.prog C L Try.f97 t H n = S97 C L t H n := by kernel_rfl
theorem c97 (args : List Value) (H : Hp) (n : Nat) : Call Try.prog 97 args H n = S97 (Call Try.prog) Loop (argsT args) H n := (Call_body Try.func97 args H n).trans (s97 ..)
noncomputable def S98 (C : Calling) (L : Body → Body) (t : Tm) (H : Hp) (n : Nat) : Option (Value × Hp × Nat) :=
  (vcells (t 0)).bind fun c2 =>
  let H1 := H.set (n) (some (.row c2 0 true))
  (fieldA 3 (ptr (n) 0)).bind fun v3 =>
  (ld false 1 v3 H1).bind fun v4 =>
  (binK .plain .sub (t 1) (.int .i64 1)).bind fun v5 =>
  (C 75 [v4, .int .i64 0, v5] H1 (n + 8)).bind fun q6 =>
  (fieldA 4 (ptr (n) 0)).bind fun v7 =>
  (ld false 1 v7 q6.2.1).bind fun v8 =>
  (binK .plain .sub (t 1) (.int .i64 1)).bind fun v9 =>
  (C 75 [v8, .int .i64 0, v9] q6.2.1 (q6.2.2 + 6)).bind fun q10 =>
  (fieldA 0 (ptr (n) 0)).bind fun v11 =>
  (ld false 1 v11 q10.2.1).bind fun v12 =>
  (binK .plain .eql v12 (.int .i64 1)).bind fun v13 =>
  csel v13
    ((ld true 5 (ptr (n) 0) q10.2.1).bind fun v14 =>
     (bld [.int .i64 0, .int .i64 0, .string ⟨#[]⟩, .int .i64 0, .int .i64 0] [(0, 1, .int .i64 1)]).bind fun v15 =>
     (binK (.agg [(0, (.int .i64)), (1, (.int .i64)), (2, .string), (3, (.int .i64)), (4, (.int .i64))]) .eql v14 v15).bind fun v16 =>
     some (v16, q10.2.1, q10.2.2 + 8))
    ((binK .plain .eql v12 (.int .i64 2)).bind fun v17 =>
     csel v17
       ((fieldA 1 (ptr (n) 0)).bind fun v18 =>
        (ld false 1 v18 q10.2.1).bind fun v19 =>
        (C 75 [v19, .int .i64 0, .int .i64 1] q10.2.1 (q10.2.2 + 17)).bind fun q20 =>
        let t22 : Tm := put (put (put (put (put (put (put (put (put (put (put (put (put (put (put (put (put (put (put (put (put (put (put (put t 2 (ptr (n) 0)) 4 (.bool false)) 7 v3) 8 v4) 9 (t 1)) 10 v5) 11 q6.1) 5 q6.1) 12 v7) 13 v8) 14 (t 1)) 15 v9) 16 q10.1) 6 q10.1) 17 v11) 18 v12) 20 v13) 19 v13) 25 v17) 24 v17) 26 v18) 27 v19) 28 q20.1) 29 q20.1
        (gsel q20.1 true
          ((ld true 5 (ptr (n) 0) q20.2.1).bind fun v23 =>
           (fieldA 1 (ptr (n) 0)).bind fun v24 =>
           (ld false 1 v24 q20.2.1).bind fun v25 =>
           (bld [.int .i64 0, .int .i64 0, .string ⟨#[]⟩, .int .i64 0, .int .i64 0] [(0, 1, .int .i64 2), (1, 1, v25)]).bind fun v26 =>
           (binK (.agg [(0, (.int .i64)), (1, (.int .i64)), (2, .string), (3, (.int .i64)), (4, (.int .i64))]) .eql v23 v26).bind fun v27 =>
           some (put (put (put (put (put t22 30 v23) 31 v24) 32 v25) 33 v26) 34 v27, q20.2.1, q20.2.2))
          (some (put (put (put (put (put t22 30 (.tuple #[])) 31 (.tuple #[])) 32 (.tuple #[])) 33 (.tuple #[])) 34 (.tuple #[]), q20.2.1, q20.2.2))
        ).bind fun (q21 : R3) =>
        (pickV (q21.1 29) (q21.1 34) (.bool false)).bind fun v28 =>
        some (v28, q21.2.1, q21.2.2))
       ((binK .plain .eql v12 (.int .i64 3)).bind fun v29 =>
        csel v29
          ((fieldA 1 (ptr (n) 0)).bind fun v30 =>
           (ld false 1 v30 q10.2.1).bind fun v31 =>
           (C 75 [v31, .int .i64 (-1000000000), .int .i64 1000000000] q10.2.1 (q10.2.2 + 19)).bind fun q32 =>
           let t34 : Tm := put (put (put (put (put (put (put (put (put (put (put (put (put (put (put (put (put (put (put (put (put (put (put (put (put (put t 2 (ptr (n) 0)) 4 (.bool false)) 7 v3) 8 v4) 9 (t 1)) 10 v5) 11 q6.1) 5 q6.1) 12 v7) 13 v8) 14 (t 1)) 15 v9) 16 q10.1) 6 q10.1) 17 v11) 18 v12) 20 v13) 19 v13) 25 v17) 24 v17) 37 v29) 36 v29) 38 v30) 39 v31) 40 q32.1) 41 q32.1
           (gsel q32.1 true
             ((ld true 5 (ptr (n) 0) q32.2.1).bind fun v35 =>
              (fieldA 1 (ptr (n) 0)).bind fun v36 =>
              (ld false 1 v36 q32.2.1).bind fun v37 =>
              (bld [.int .i64 0, .int .i64 0, .string ⟨#[]⟩, .int .i64 0, .int .i64 0] [(0, 1, .int .i64 3), (1, 1, v37)]).bind fun v38 =>
              (binK (.agg [(0, (.int .i64)), (1, (.int .i64)), (2, .string), (3, (.int .i64)), (4, (.int .i64))]) .eql v35 v38).bind fun v39 =>
              some (put (put (put (put (put t34 42 v35) 43 v36) 44 v37) 45 v38) 46 v39, q32.2.1, q32.2.2))
             (some (put (put (put (put (put t34 42 (.tuple #[])) 43 (.tuple #[])) 44 (.tuple #[])) 45 (.tuple #[])) 46 (.tuple #[]), q32.2.1, q32.2.2))
           ).bind fun (q33 : R3) =>
           (pickV (q33.1 41) (q33.1 46) (.bool false)).bind fun v40 =>
           some (v40, q33.2.1, q33.2.2))
          ((binK .plain .eql v12 (.int .i64 4)).bind fun v41 =>
           csel v41
             ((fieldA 2 (ptr (n) 0)).bind fun v42 =>
              (ld false 1 v42 q10.2.1).bind fun v43 =>
              (C 74 [v43] q10.2.1 (q10.2.2 + 21)).bind fun q44 =>
              let t46 : Tm := put (put (put (put (put (put (put (put (put (put (put (put (put (put (put (put (put (put (put (put (put (put (put (put (put (put (put (put t 2 (ptr (n) 0)) 4 (.bool false)) 7 v3) 8 v4) 9 (t 1)) 10 v5) 11 q6.1) 5 q6.1) 12 v7) 13 v8) 14 (t 1)) 15 v9) 16 q10.1) 6 q10.1) 17 v11) 18 v12) 20 v13) 19 v13) 25 v17) 24 v17) 37 v29) 36 v29) 49 v41) 48 v41) 50 v42) 51 v43) 52 q44.1) 53 q44.1
              (gsel q44.1 true
                ((ld true 5 (ptr (n) 0) q44.2.1).bind fun v47 =>
                 (fieldA 2 (ptr (n) 0)).bind fun v48 =>
                 (ld false 1 v48 q44.2.1).bind fun v49 =>
                 (bld [.int .i64 0, .int .i64 0, .string ⟨#[]⟩, .int .i64 0, .int .i64 0] [(0, 1, .int .i64 4), (2, 1, v49)]).bind fun v50 =>
                 (binK (.agg [(0, (.int .i64)), (1, (.int .i64)), (2, .string), (3, (.int .i64)), (4, (.int .i64))]) .eql v47 v50).bind fun v51 =>
                 some (put (put (put (put (put t46 54 v47) 55 v48) 56 v49) 57 v50) 58 v51, q44.2.1, q44.2.2))
                (some (put (put (put (put (put t46 54 (.tuple #[])) 55 (.tuple #[])) 56 (.tuple #[])) 57 (.tuple #[])) 58 (.tuple #[]), q44.2.1, q44.2.2))
              ).bind fun (q45 : R3) =>
              (pickV (q45.1 53) (q45.1 58) (.bool false)).bind fun v52 =>
              some (v52, q45.2.1, q45.2.2))
             ((binK .plain .eql v12 (.int .i64 5)).bind fun v53 =>
              csel v53
                ((pickV q6.1 (gsel q6.1 true q10.1 (.tuple #[])) (.bool false)).bind fun v54 =>
                 let t56 : Tm := put (put (put (put (put (put (put (put (put (put (put (put (put (put (put (put (put (put (put (put (put (put (put (put (put (put (put (put (put (put (put t 2 (ptr (n) 0)) 4 (.bool false)) 7 v3) 8 v4) 9 (t 1)) 10 v5) 11 q6.1) 5 q6.1) 12 v7) 13 v8) 14 (t 1)) 15 v9) 16 q10.1) 6 q10.1) 17 v11) 18 v12) 20 v13) 19 v13) 25 v17) 24 v17) 37 v29) 36 v29) 49 v41) 48 v41) 61 v53) 60 v53) 62 q6.1) 63 q6.1) 64 (gsel q6.1 true q10.1 (.tuple #[]))) 65 v54) 66 v54
                 (gsel v54 true
                   ((fieldA 1 (ptr (n) 0)).bind fun v57 =>
                    (ld false 1 v57 q10.2.1).bind fun v58 =>
                    (binK .plain .eql v58 (.int .i64 0)).bind fun v59 =>
                    some (put (put (put t56 67 v57) 68 v58) 69 v59, q10.2.1, q10.2.2 + 27))
                   (some (put (put (put t56 67 (.tuple #[])) 68 (.tuple #[])) 69 (.tuple #[]), q10.2.1, q10.2.2 + 27))
                 ).bind fun (q55 : R3) =>
                 (pickV (q55.1 66) (q55.1 69) (.bool false)).bind fun v60 =>
                 let t62 : Tm := put (put q55.1 70 v60) 71 v60
                 (gsel v60 true
                   ((fieldA 2 (t62 2)).bind fun v63 =>
                    (ld false 1 v63 q55.2.1).bind fun v64 =>
                    (binK .plain .eql v64 (.string ⟨#[]⟩)).bind fun v65 =>
                    some (put (put (put t62 72 v63) 73 v64) 74 v65, q55.2.1, q55.2.2))
                   (some (put (put (put t62 72 (.tuple #[])) 73 (.tuple #[])) 74 (.tuple #[]), q55.2.1, q55.2.2))
                 ).bind fun (q61 : R3) =>
                 (pickV (q61.1 71) (q61.1 74) (.bool false)).bind fun v66 =>
                 some (v66, q61.2.1, q61.2.2))
                ((binK .plain .eql v12 (.int .i64 6)).bind fun v67 =>
                 csel v67
                   (let t69 : Tm := put (put (put (put (put (put (put (put (put (put (put (put (put (put (put (put (put (put (put (put (put (put (put (put (put (put (put (put (put (put t 2 (ptr (n) 0)) 4 (.bool false)) 7 v3) 8 v4) 9 (t 1)) 10 v5) 11 q6.1) 5 q6.1) 12 v7) 13 v8) 14 (t 1)) 15 v9) 16 q10.1) 6 q10.1) 17 v11) 18 v12) 20 v13) 19 v13) 25 v17) 24 v17) 37 v29) 36 v29) 49 v41) 48 v41) 61 v53) 60 v53) 77 v67) 76 v67) 78 q6.1) 79 q6.1
                    (gsel q6.1 true
                      ((fieldA 1 (ptr (n) 0)).bind fun v70 =>
                       (ld false 1 v70 q10.2.1).bind fun v71 =>
                       (C 75 [v71, .int .i64 0, .int .i64 1000000000] q10.2.1 (q10.2.2 + 31)).bind fun q72 =>
                       some (put (put (put t69 80 v70) 81 v71) 82 q72.1, q72.2.1, q72.2.2))
                      (some (put (put (put t69 80 (.tuple #[])) 81 (.tuple #[])) 82 (.tuple #[]), q10.2.1, q10.2.2 + 31))
                    ).bind fun (q68 : R3) =>
                    (pickV (q68.1 79) (q68.1 82) (.bool false)).bind fun v73 =>
                    let t75 : Tm := put (put q68.1 83 v73) 84 v73
                    (gsel v73 true
                      ((fieldA 4 (t75 2)).bind fun v76 =>
                       (ld false 1 v76 q68.2.1).bind fun v77 =>
                       (binK .plain .eql v77 (.int .i64 0)).bind fun v78 =>
                       some (put (put (put t75 85 v76) 86 v77) 87 v78, q68.2.1, q68.2.2))
                      (some (put (put (put t75 85 (.tuple #[])) 86 (.tuple #[])) 87 (.tuple #[]), q68.2.1, q68.2.2))
                    ).bind fun (q74 : R3) =>
                    (pickV (q74.1 84) (q74.1 87) (.bool false)).bind fun v79 =>
                    let t81 : Tm := put (put q74.1 88 v79) 89 v79
                    (gsel v79 true
                      ((fieldA 2 (t81 2)).bind fun v82 =>
                       (ld false 1 v82 q74.2.1).bind fun v83 =>
                       (binK .plain .eql v83 (.string ⟨#[]⟩)).bind fun v84 =>
                       some (put (put (put t81 90 v82) 91 v83) 92 v84, q74.2.1, q74.2.2))
                      (some (put (put (put t81 90 (.tuple #[])) 91 (.tuple #[])) 92 (.tuple #[]), q74.2.1, q74.2.2))
                    ).bind fun (q80 : R3) =>
                    (pickV (q80.1 89) (q80.1 92) (.bool false)).bind fun v85 =>
                    some (v85, q80.2.1, q80.2.2))
                   ((binK .plain .eql v12 (.int .i64 7)).bind fun v86 =>
                    csel v86
                      (let t88 : Tm := put (put (put (put (put (put (put (put (put (put (put (put (put (put (put (put (put (put (put (put (put (put (put (put (put (put (put (put (put (put (put (put t 2 (ptr (n) 0)) 4 (.bool false)) 7 v3) 8 v4) 9 (t 1)) 10 v5) 11 q6.1) 5 q6.1) 12 v7) 13 v8) 14 (t 1)) 15 v9) 16 q10.1) 6 q10.1) 17 v11) 18 v12) 20 v13) 19 v13) 25 v17) 24 v17) 37 v29) 36 v29) 49 v41) 48 v41) 61 v53) 60 v53) 77 v67) 76 v67) 95 v86) 94 v86) 96 q6.1) 97 q6.1
                       (gsel q6.1 true
                         ((fieldA 1 (ptr (n) 0)).bind fun v89 =>
                          (ld false 1 v89 q10.2.1).bind fun v90 =>
                          (binK .plain .eql v90 (.int .i64 0)).bind fun v91 =>
                          some (put (put (put t88 98 v89) 99 v90) 100 v91, q10.2.1, q10.2.2 + 33))
                         (some (put (put (put t88 98 (.tuple #[])) 99 (.tuple #[])) 100 (.tuple #[]), q10.2.1, q10.2.2 + 33))
                       ).bind fun (q87 : R3) =>
                       (pickV (q87.1 97) (q87.1 100) (.bool false)).bind fun v92 =>
                       let t94 : Tm := put (put q87.1 101 v92) 102 v92
                       (gsel v92 true
                         ((fieldA 4 (t94 2)).bind fun v95 =>
                          (ld false 1 v95 q87.2.1).bind fun v96 =>
                          (binK .plain .eql v96 (.int .i64 0)).bind fun v97 =>
                          some (put (put (put t94 103 v95) 104 v96) 105 v97, q87.2.1, q87.2.2))
                         (some (put (put (put t94 103 (.tuple #[])) 104 (.tuple #[])) 105 (.tuple #[]), q87.2.1, q87.2.2))
                       ).bind fun (q93 : R3) =>
                       (pickV (q93.1 102) (q93.1 105) (.bool false)).bind fun v98 =>
                       let t100 : Tm := put (put q93.1 106 v98) 107 v98
                       (gsel v98 true
                         ((fieldA 2 (t100 2)).bind fun v101 =>
                          (ld false 1 v101 q93.2.1).bind fun v102 =>
                          (binK .plain .eql v102 (.string ⟨#[]⟩)).bind fun v103 =>
                          some (put (put (put t100 108 v101) 109 v102) 110 v103, q93.2.1, q93.2.2))
                         (some (put (put (put t100 108 (.tuple #[])) 109 (.tuple #[])) 110 (.tuple #[]), q93.2.1, q93.2.2))
                       ).bind fun (q99 : R3) =>
                       (pickV (q99.1 107) (q99.1 110) (.bool false)).bind fun v104 =>
                       some (v104, q99.2.1, q99.2.2))
                      ((binK .plain .eql v12 (.int .i64 8)).bind fun v105 =>
                       csel v105
                         ((fieldA 1 (ptr (n) 0)).bind fun v106 =>
                          (ld false 1 v106 q10.2.1).bind fun v107 =>
                          (C 75 [v107, .int .i64 0, .int .i64 99] q10.2.1 (q10.2.2 + 29)).bind fun q108 =>
                          let t110 : Tm := put (put (put (put (put (put (put (put (put (put (put (put (put (put (put (put (put (put (put (put (put (put (put (put (put (put (put (put (put (put (put (put (put (put (put (put t 2 (ptr (n) 0)) 4 (.bool false)) 7 v3) 8 v4) 9 (t 1)) 10 v5) 11 q6.1) 5 q6.1) 12 v7) 13 v8) 14 (t 1)) 15 v9) 16 q10.1) 6 q10.1) 17 v11) 18 v12) 20 v13) 19 v13) 25 v17) 24 v17) 37 v29) 36 v29) 49 v41) 48 v41) 61 v53) 60 v53) 77 v67) 76 v67) 95 v86) 94 v86) 113 v105) 112 v105) 114 v106) 115 v107) 116 q108.1) 117 q108.1
                          (gsel q108.1 true
                            ((ld true 5 (ptr (n) 0) q108.2.1).bind fun v111 =>
                             (fieldA 1 (ptr (n) 0)).bind fun v112 =>
                             (ld false 1 v112 q108.2.1).bind fun v113 =>
                             (bld [.int .i64 0, .int .i64 0, .string ⟨#[]⟩, .int .i64 0, .int .i64 0] [(0, 1, .int .i64 8), (1, 1, v113)]).bind fun v114 =>
                             (binK (.agg [(0, (.int .i64)), (1, (.int .i64)), (2, .string), (3, (.int .i64)), (4, (.int .i64))]) .eql v111 v114).bind fun v115 =>
                             some (put (put (put (put (put t110 118 v111) 119 v112) 120 v113) 121 v114) 122 v115, q108.2.1, q108.2.2))
                            (some (put (put (put (put (put t110 118 (.tuple #[])) 119 (.tuple #[])) 120 (.tuple #[])) 121 (.tuple #[])) 122 (.tuple #[]), q108.2.1, q108.2.2))
                          ).bind fun (q109 : R3) =>
                          (pickV (q109.1 117) (q109.1 122) (.bool false)).bind fun v116 =>
                          some (v116, q109.2.1, q109.2.2))
                         ((binK .plain .eql v12 (.int .i64 9)).bind fun v117 =>
                          csel v117
                            ((fieldA 1 (ptr (n) 0)).bind fun v118 =>
                             (ld false 1 v118 q10.2.1).bind fun v119 =>
                             (C 75 [v119, .int .i64 0, .int .i64 1000000000] q10.2.1 (q10.2.2 + 31)).bind fun q120 =>
                             let t122 : Tm := put (put (put (put (put (put (put (put (put (put (put (put (put (put (put (put (put (put (put (put (put (put (put (put (put (put (put (put (put (put (put (put (put (put (put (put (put (put t 2 (ptr (n) 0)) 4 (.bool false)) 7 v3) 8 v4) 9 (t 1)) 10 v5) 11 q6.1) 5 q6.1) 12 v7) 13 v8) 14 (t 1)) 15 v9) 16 q10.1) 6 q10.1) 17 v11) 18 v12) 20 v13) 19 v13) 25 v17) 24 v17) 37 v29) 36 v29) 49 v41) 48 v41) 61 v53) 60 v53) 77 v67) 76 v67) 95 v86) 94 v86) 113 v105) 112 v105) 125 v117) 124 v117) 126 v118) 127 v119) 128 q120.1) 129 q120.1
                             (gsel q120.1 true
                               ((ld true 5 (ptr (n) 0) q120.2.1).bind fun v123 =>
                                (fieldA 1 (ptr (n) 0)).bind fun v124 =>
                                (ld false 1 v124 q120.2.1).bind fun v125 =>
                                (bld [.int .i64 0, .int .i64 0, .string ⟨#[]⟩, .int .i64 0, .int .i64 0] [(0, 1, .int .i64 9), (1, 1, v125)]).bind fun v126 =>
                                (binK (.agg [(0, (.int .i64)), (1, (.int .i64)), (2, .string), (3, (.int .i64)), (4, (.int .i64))]) .eql v123 v126).bind fun v127 =>
                                some (put (put (put (put (put t122 130 v123) 131 v124) 132 v125) 133 v126) 134 v127, q120.2.1, q120.2.2))
                               (some (put (put (put (put (put t122 130 (.tuple #[])) 131 (.tuple #[])) 132 (.tuple #[])) 133 (.tuple #[])) 134 (.tuple #[]), q120.2.1, q120.2.2))
                             ).bind fun (q121 : R3) =>
                             (pickV (q121.1 129) (q121.1 134) (.bool false)).bind fun v128 =>
                             some (v128, q121.2.1, q121.2.2))
                            (some (.bool false, q10.2.1, q10.2.2 + 21))))))))))
theorem s98 (C : Calling) (L : Body → Body) (t : Tm) (H : Hp) (n : Nat) : bodyK Try.prog C L Try.f98 t H n = S98 C L t H n := by kernel_rfl
theorem c98 (args : List Value) (H : Hp) (n : Nat) : Call Try.prog 98 args H n = S98 (Call Try.prog) Loop (argsT args) H n := (Call_body Try.func98 args H n).trans (s98 ..)
noncomputable def S99 (C : Calling) (L : Body → Body) (t : Tm) (H : Hp) (n : Nat) : Option (Value × Hp × Nat) :=
  (vcells (t 0)).bind fun c2 =>
  let H1 := H.set (n) (some (.row c2 0 true))
  let H3 := H1.set (n + 1) (some (.row [.int .i64 0, .int .i64 0, .int .i64 0, .string ⟨#[]⟩] 0 true))
  let H4 := H3.set (n + 2) (some (.row [.int .i64 0, .int .i64 0, .int .i64 0, .string ⟨#[]⟩] 0 true))
  (fieldA 0 (ptr (n) 0)).bind fun v5 =>
  (ld false 1 v5 H4).bind fun v6 =>
  (fieldA 0 (ptr (n + 2) 0)).bind fun v7 =>
  (st false 1 v7 v6 H4).bind fun H8 =>
  (fieldA 1 (ptr (n) 0)).bind fun v9 =>
  (ld false 1 v9 H8).bind fun v10 =>
  (fieldA 1 (ptr (n + 2) 0)).bind fun v11 =>
  (st false 1 v11 v10 H8).bind fun H12 =>
  (fieldA 2 (ptr (n) 0)).bind fun v13 =>
  (ld false 1 v13 H12).bind fun v14 =>
  (fieldA 2 (ptr (n + 2) 0)).bind fun v15 =>
  (st false 1 v15 v14 H12).bind fun H16 =>
  (fieldA 3 (ptr (n) 0)).bind fun v17 =>
  (ld false 1 v17 H16).bind fun v18 =>
  (fieldA 3 (ptr (n + 2) 0)).bind fun v19 =>
  (st false 1 v19 v18 H16).bind fun H20 =>
  (ld true 4 (ptr (n + 2) 0) H20).bind fun v21 =>
  (st true 4 (ptr (n + 1) 0) v21 H20).bind fun H22 =>
  (ld true 4 (ptr (n + 1) 0) H22).bind fun v23 =>
  some (v23, H22, n + 21)
theorem s99 (C : Calling) (L : Body → Body) (t : Tm) (H : Hp) (n : Nat) : bodyK Try.prog C L Try.f99 t H n = S99 C L t H n := by kernel_rfl
theorem c99 (args : List Value) (H : Hp) (n : Nat) : Call Try.prog 99 args H n = S99 (Call Try.prog) Loop (argsT args) H n := (Call_body Try.func99 args H n).trans (s99 ..)
noncomputable def S100 (C : Calling) (L : Body → Body) (t : Tm) (H : Hp) (n : Nat) : Option (Value × Hp × Nat) :=
  (vcells (t 0)).bind fun c2 =>
  let H1 := H.set (n) (some (.row c2 0 true))
  let H3 := H1.set (n + 1) (some (.row [.string ⟨#[]⟩, .int .i64 0, .int .i64 0] 0 true))
  let H4 := H3.set (n + 2) (some (.row [.string ⟨#[]⟩, .int .i64 0, .int .i64 0] 0 true))
  (fieldA 0 (ptr (n) 0)).bind fun v5 =>
  (ld false 1 v5 H4).bind fun v6 =>
  (fieldA 0 (ptr (n + 2) 0)).bind fun v7 =>
  (st false 1 v7 v6 H4).bind fun H8 =>
  (fieldA 1 (ptr (n) 0)).bind fun v9 =>
  (ld false 1 v9 H8).bind fun v10 =>
  (fieldA 1 (ptr (n + 2) 0)).bind fun v11 =>
  (st false 1 v11 v10 H8).bind fun H12 =>
  (fieldA 2 (ptr (n) 0)).bind fun v13 =>
  (ld false 1 v13 H12).bind fun v14 =>
  (fieldA 2 (ptr (n + 2) 0)).bind fun v15 =>
  (st false 1 v15 v14 H12).bind fun H16 =>
  (ld true 3 (ptr (n + 2) 0) H16).bind fun v17 =>
  (st true 3 (ptr (n + 1) 0) v17 H16).bind fun H18 =>
  (ld true 3 (ptr (n + 1) 0) H18).bind fun v19 =>
  some (v19, H18, n + 17)
theorem s100 (C : Calling) (L : Body → Body) (t : Tm) (H : Hp) (n : Nat) : bodyK Try.prog C L Try.f100 t H n = S100 C L t H n := by kernel_rfl
theorem c100 (args : List Value) (H : Hp) (n : Nat) : Call Try.prog 100 args H n = S100 (Call Try.prog) Loop (argsT args) H n := (Call_body Try.func100 args H n).trans (s100 ..)
noncomputable def S101 (C : Calling) (L : Body → Body) (t : Tm) (H : Hp) (n : Nat) : Option (Value × Hp × Nat) :=
  (vcells (t 0)).bind fun c2 =>
  let H1 := H.set (n) (some (.row c2 0 true))
  let H3 := H1.set (n + 1) (some (.row [.int .i64 0, .int .i64 0, .string ⟨#[]⟩, .int .i64 0, .int .i64 0] 0 true))
  let H4 := H3.set (n + 2) (some (.row [.int .i64 0, .int .i64 0, .string ⟨#[]⟩, .int .i64 0, .int .i64 0] 0 true))
  (fieldA 0 (ptr (n) 0)).bind fun v5 =>
  (ld false 1 v5 H4).bind fun v6 =>
  (fieldA 0 (ptr (n + 2) 0)).bind fun v7 =>
  (st false 1 v7 v6 H4).bind fun H8 =>
  (fieldA 1 (ptr (n) 0)).bind fun v9 =>
  (ld false 1 v9 H8).bind fun v10 =>
  (fieldA 1 (ptr (n + 2) 0)).bind fun v11 =>
  (st false 1 v11 v10 H8).bind fun H12 =>
  (fieldA 2 (ptr (n) 0)).bind fun v13 =>
  (ld false 1 v13 H12).bind fun v14 =>
  (fieldA 2 (ptr (n + 2) 0)).bind fun v15 =>
  (st false 1 v15 v14 H12).bind fun H16 =>
  (fieldA 3 (ptr (n) 0)).bind fun v17 =>
  (ld false 1 v17 H16).bind fun v18 =>
  (fieldA 3 (ptr (n + 2) 0)).bind fun v19 =>
  (st false 1 v19 v18 H16).bind fun H20 =>
  (fieldA 4 (ptr (n) 0)).bind fun v21 =>
  (ld false 1 v21 H20).bind fun v22 =>
  (fieldA 4 (ptr (n + 2) 0)).bind fun v23 =>
  (st false 1 v23 v22 H20).bind fun H24 =>
  (ld true 5 (ptr (n + 2) 0) H24).bind fun v25 =>
  (st true 5 (ptr (n + 1) 0) v25 H24).bind fun H26 =>
  (ld true 5 (ptr (n + 1) 0) H26).bind fun v27 =>
  some (v27, H26, n + 25)
theorem s101 (C : Calling) (L : Body → Body) (t : Tm) (H : Hp) (n : Nat) : bodyK Try.prog C L Try.f101 t H n = S101 C L t H n := by kernel_rfl
theorem c101 (args : List Value) (H : Hp) (n : Nat) : Call Try.prog 101 args H n = S101 (Call Try.prog) Loop (argsT args) H n := (Call_body Try.func101 args H n).trans (s101 ..)
noncomputable def S102 (C : Calling) (L : Body → Body) (t : Tm) (H : Hp) (n : Nat) : Option (Value × Hp × Nat) :=
  (vcells (t 0)).bind fun c2 =>
  let H1 := H.set (n) (some (.row c2 0 true))
  (fieldA 2 (ptr (n) 0)).bind fun v3 =>
  (ld false 1 v3 H1).bind fun v4 =>
  (binK .plain .eql v4 (.string ⟨#[]⟩)).bind fun v5 =>
  (fieldA 3 (ptr (n) 0)).bind fun v6 =>
  (ld false 1 v6 H1).bind fun v7 =>
  (binK .plain .eql v7 (.int .i64 0)).bind fun v8 =>
  (fieldA 4 (ptr (n) 0)).bind fun v9 =>
  (ld false 1 v9 H1).bind fun v10 =>
  (binK .plain .eql v10 (.int .i64 0)).bind fun v11 =>
  (fieldA 0 (ptr (n) 0)).bind fun v12 =>
  (ld false 1 v12 H1).bind fun v13 =>
  (binK .plain .eql v13 (.int .i64 1)).bind fun v14 =>
  let t16 : Tm := put (put (put (put (put (put (put (put (put (put (put (put (put (put (put (put (put (put (put (put t 2 (ptr (n) 0)) 4 (.bool false)) 10 v3) 11 v4) 12 v5) 5 (.int .i64 0)) 6 (.int .i64 0)) 7 v5) 13 v6) 14 v7) 15 v8) 16 v9) 17 v10) 18 v11) 8 v8) 9 v11) 19 v12) 20 v13) 22 v14) 21 v14
  (csel v14
    (some ⟨.normal, t16, H1, n + 20⟩)
    ((binK .plain .eql v13 (.int .i64 2)).bind fun v17 =>
     let t19 : Tm := put (put t16 24 v17) 23 v17
     (csel v17
       (some ⟨.normal, put t19 6 (.int .i64 1), H1, n + 23⟩)
       ((binK .plain .eql v13 (.int .i64 3)).bind fun v20 =>
        let t22 : Tm := put (put t19 26 v20) 25 v20
        (csel v20
          (some ⟨.normal, put (put t22 5 (.int .i64 (-1000000000))) 6 (.int .i64 1000000000), H1, n + 26⟩)
          ((binK .plain .eql v13 (.int .i64 4)).bind fun v23 =>
           let t25 : Tm := put (put t22 28 v23) 27 v23
           (csel v23
             ((fieldA 2 (ptr (n) 0)).bind fun v26 =>
              (ld false 1 v26 H1).bind fun v27 =>
              (C 69 [v27] H1 (n + 30)).bind fun q28 =>
              some ⟨.normal, put (put (put (put t25 29 v26) 30 v27) 31 q28.1) 7 q28.1, q28.2.1, q28.2.2⟩)
             ((binK .plain .eql v13 (.int .i64 5)).bind fun v29 =>
              let t31 : Tm := put (put t25 33 v29) 32 v29
              (csel v29
                ((fieldA 3 (ptr (n) 0)).bind fun v32 =>
                 (ld false 1 v32 H1).bind fun v33 =>
                 (binK .plain .sub (t31 1) (.int .i64 1)).bind fun v34 =>
                 (C 70 [v33, .int .i64 0, v34] H1 (n + 40)).bind fun q35 =>
                 (fieldA 4 (ptr (n) 0)).bind fun v36 =>
                 (ld false 1 v36 q35.2.1).bind fun v37 =>
                 ask (ld false 1 v36 H1 = some v37) <|
                 (binK .plain .sub (t31 1) (.int .i64 1)).bind fun v38 =>
                 (C 70 [v37, .int .i64 0, v38] q35.2.1 (q35.2.2)).bind fun q39 =>
                 some ⟨.normal, put (put (put (put (put (put (put (put (put (put (put (put t31 34 v32) 35 v33) 36 (t31 1)) 37 v34) 38 q35.1) 39 v36) 40 v37) 41 (t31 1)) 42 v38) 43 q39.1) 8 q35.1) 9 q39.1, q39.2.1, q39.2.2⟩)
                ((binK .plain .eql v13 (.int .i64 6)).bind fun v40 =>
                 let t42 : Tm := put (put t31 45 v40) 44 v40
                 (csel v40
                   ((fieldA 3 (ptr (n) 0)).bind fun v43 =>
                    (ld false 1 v43 H1).bind fun v44 =>
                    (binK .plain .sub (t42 1) (.int .i64 1)).bind fun v45 =>
                    (C 70 [v44, .int .i64 0, v45] H1 (n + 37)).bind fun q46 =>
                    some ⟨.normal, put (put (put (put (put (put (put t42 46 v43) 47 v44) 48 (t42 1)) 49 v45) 50 q46.1) 6 (.int .i64 1000000000)) 8 q46.1, q46.2.1, q46.2.2⟩)
                   ((binK .plain .eql v13 (.int .i64 7)).bind fun v47 =>
                    let t49 : Tm := put (put t42 52 v47) 51 v47
                    (csel v47
                      ((fieldA 3 (ptr (n) 0)).bind fun v50 =>
                       (ld false 1 v50 H1).bind fun v51 =>
                       (binK .plain .sub (t49 1) (.int .i64 1)).bind fun v52 =>
                       (C 70 [v51, .int .i64 0, v52] H1 (n + 38)).bind fun q53 =>
                       some ⟨.normal, put (put (put (put (put (put t49 53 v50) 54 v51) 55 (t49 1)) 56 v52) 57 q53.1) 8 q53.1, q53.2.1, q53.2.2⟩)
                      ((binK .plain .eql v13 (.int .i64 8)).bind fun v54 =>
                       let t56 : Tm := put (put t49 59 v54) 58 v54
                       (csel v54
                         (some ⟨.normal, put t56 6 (.int .i64 99), H1, n + 35⟩)
                         ((binK .plain .eql v13 (.int .i64 9)).bind fun v57 =>
                          csel v57
                            (some ⟨.normal, put (put (put t56 61 v57) 60 v57) 6 (.int .i64 1000000000), H1, n + 37⟩)
                            (some ⟨.ret, put (put (put t56 61 v57) 60 v57) 4 (.bool false), H1, n + 37⟩))
                       ).bind fun (o55 : Out) =>
                       some o55)
                    ).bind fun (o48 : Out) =>
                    some o48)
                 ).bind fun (o41 : Out) =>
                 some o41)
              ).bind fun (o30 : Out) =>
              some o30)
           ).bind fun (o24 : Out) =>
           some o24)
        ).bind fun (o21 : Out) =>
        some o21)
     ).bind fun (o18 : Out) =>
     some o18)
  ).bind fun (o15 : Out) =>
  let o58 := outOf 0 o15
  thenK o58
    ((fieldA 1 (o58.t 2)).bind fun v59 =>
     (ld false 1 v59 o58.H).bind fun v60 =>
     (C 70 [v60, o58.t 5, o58.t 6] o58.H (o58.n + 15)).bind fun q61 =>
     (pickV q61.1 (gsel q61.1 true (o58.t 7) (.tuple #[])) (.bool false)).bind fun v62 =>
     (pickV v62 (gsel v62 true (o58.t 8) (.tuple #[])) (.bool false)).bind fun v63 =>
     (pickV v63 (gsel v63 true (o58.t 9) (.tuple #[])) (.bool false)).bind fun v64 =>
     some (v64, q61.2.1, q61.2.2))
    (finE o58.e
       (some (o58.t 4, o58.H, o58.n)))
theorem s102 (C : Calling) (L : Body → Body) (t : Tm) (H : Hp) (n : Nat) : bodyK Try.prog C L Try.f102 t H n = S102 C L t H n := by kernel_rfl
theorem c102 (args : List Value) (H : Hp) (n : Nat) : Call Try.prog 102 args H n = S102 (Call Try.prog) Loop (argsT args) H n := (Call_body Try.func102 args H n).trans (s102 ..)
noncomputable def S103 (C : Calling) (L : Body → Body) (t : Tm) (H : Hp) (n : Nat) : Option (Value × Hp × Nat) :=
  (binK .slice .eql (t 0) nilS).bind fun v1 =>
  csel v1
    (some (nilS, H, n + 4))
    ((bsl (n + 3) 5 0 [.int .i64 0, .int .i64 0, .string ⟨#[]⟩, .int .i64 0, .int .i64 0] [] H).bind fun p2 =>
     (app (n + 5) 5 48 p2.1 (t 0) p2.2).bind fun p3 =>
     some (p3.1, p3.2, n + 7))
theorem s103 (C : Calling) (L : Body → Body) (t : Tm) (H : Hp) (n : Nat) : bodyK Try.prog C L Try.f103 t H n = S103 C L t H n := by kernel_rfl
theorem c103 (args : List Value) (H : Hp) (n : Nat) : Call Try.prog 103 args H n = S103 (Call Try.prog) Loop (argsT args) H n := (Call_body Try.func103 args H n).trans (s103 ..)
noncomputable def S104 (C : Calling) (L : Body → Body) (t : Tm) (H : Hp) (n : Nat) : Option (Value × Hp × Nat) :=
  (vcells (t 0)).bind fun c2 =>
  let H1 := H.set (n) (some (.row c2 0 true))
  (vcells (t 1)).bind fun c4 =>
  let H3 := H1.set (n + 1) (some (.row c4 0 true))
  (fieldA 0 (ptr (n) 0)).bind fun v5 =>
  (ld false 1 v5 H3).bind fun v6 =>
  (fieldA 0 (ptr (n + 1) 0)).bind fun v7 =>
  (ld false 1 v7 H3).bind fun v8 =>
  (binK .plain .neq v6 v8).bind fun v9 =>
  csel v9
    (some (.bool false, H3, n + 9))
    ((fieldA 1 (ptr (n) 0)).bind fun v10 =>
     (ld false 1 v10 H3).bind fun v11 =>
     (fieldA 1 (ptr (n + 1) 0)).bind fun v12 =>
     (ld false 1 v12 H3).bind fun v13 =>
     (binK .plain .neq v11 v13).bind fun v14 =>
     csel v14
       (some (.bool false, H3, n + 14))
       ((fieldA 2 (ptr (n) 0)).bind fun v15 =>
        (ld false 1 v15 H3).bind fun v16 =>
        (fieldA 2 (ptr (n + 1) 0)).bind fun v17 =>
        (ld false 1 v17 H3).bind fun v18 =>
        (binK .plain .neq v16 v18).bind fun v19 =>
        csel v19
          (some (.bool false, H3, n + 19))
          ((fieldA 3 (ptr (n) 0)).bind fun v20 =>
           (ld false 1 v20 H3).bind fun v21 =>
           (fieldA 3 (ptr (n + 1) 0)).bind fun v22 =>
           (ld false 1 v22 H3).bind fun v23 =>
           (binK .plain .neq v21 v23).bind fun v24 =>
           csel v24
             (some (.bool false, H3, n + 24))
             (some (.bool true, H3, n + 24)))))
theorem s104 (C : Calling) (L : Body → Body) (t : Tm) (H : Hp) (n : Nat) : bodyK Try.prog C L Try.f104 t H n = S104 C L t H n := by kernel_rfl
theorem c104 (args : List Value) (H : Hp) (n : Nat) : Call Try.prog 104 args H n = S104 (Call Try.prog) Loop (argsT args) H n := (Call_body Try.func104 args H n).trans (s104 ..)
noncomputable def S105 (C : Calling) (L : Body → Body) (t : Tm) (H : Hp) (n : Nat) : Option (Value × Hp × Nat) :=
  (vcells (t 0)).bind fun c2 =>
  let H1 := H.set (n) (some (.row c2 0 true))
  (vcells (t 1)).bind fun c4 =>
  let H3 := H1.set (n + 1) (some (.row c4 0 true))
  (fieldA 0 (ptr (n) 0)).bind fun v5 =>
  (ld false 1 v5 H3).bind fun v6 =>
  (fieldA 0 (ptr (n + 1) 0)).bind fun v7 =>
  (ld false 1 v7 H3).bind fun v8 =>
  (binK .plain .neq v6 v8).bind fun v9 =>
  csel v9
    (some (.bool false, H3, n + 9))
    ((fieldA 1 (ptr (n) 0)).bind fun v10 =>
     (ld false 1 v10 H3).bind fun v11 =>
     (fieldA 1 (ptr (n + 1) 0)).bind fun v12 =>
     (ld false 1 v12 H3).bind fun v13 =>
     (binK .plain .neq v11 v13).bind fun v14 =>
     csel v14
       (some (.bool false, H3, n + 14))
       ((fieldA 2 (ptr (n) 0)).bind fun v15 =>
        (ld false 1 v15 H3).bind fun v16 =>
        (fieldA 2 (ptr (n + 1) 0)).bind fun v17 =>
        (ld false 1 v17 H3).bind fun v18 =>
        (binK .plain .neq v16 v18).bind fun v19 =>
        csel v19
          (some (.bool false, H3, n + 19))
          (some (.bool true, H3, n + 19))))
theorem s105 (C : Calling) (L : Body → Body) (t : Tm) (H : Hp) (n : Nat) : bodyK Try.prog C L Try.f105 t H n = S105 C L t H n := by kernel_rfl
theorem c105 (args : List Value) (H : Hp) (n : Nat) : Call Try.prog 105 args H n = S105 (Call Try.prog) Loop (argsT args) H n := (Call_body Try.func105 args H n).trans (s105 ..)
noncomputable def S106 (C : Calling) (L : Body → Body) (t : Tm) (H : Hp) (n : Nat) : Option (Value × Hp × Nat) :=
  (vcells (t 0)).bind fun c2 =>
  let H1 := H.set (n) (some (.row c2 0 true))
  (vcells (t 1)).bind fun c4 =>
  let H3 := H1.set (n + 1) (some (.row c4 0 true))
  (fieldA 0 (ptr (n) 0)).bind fun v5 =>
  (ld false 1 v5 H3).bind fun v6 =>
  (fieldA 0 (ptr (n + 1) 0)).bind fun v7 =>
  (ld false 1 v7 H3).bind fun v8 =>
  (binK .plain .neq v6 v8).bind fun v9 =>
  csel v9
    (some (.bool false, H3, n + 9))
    ((fieldA 1 (ptr (n) 0)).bind fun v10 =>
     (ld false 1 v10 H3).bind fun v11 =>
     (fieldA 1 (ptr (n + 1) 0)).bind fun v12 =>
     (ld false 1 v12 H3).bind fun v13 =>
     (binK .plain .neq v11 v13).bind fun v14 =>
     csel v14
       (some (.bool false, H3, n + 14))
       ((fieldA 2 (ptr (n) 0)).bind fun v15 =>
        (ld false 1 v15 H3).bind fun v16 =>
        (fieldA 2 (ptr (n + 1) 0)).bind fun v17 =>
        (ld false 1 v17 H3).bind fun v18 =>
        (binK .plain .neq v16 v18).bind fun v19 =>
        csel v19
          (some (.bool false, H3, n + 19))
          ((fieldA 3 (ptr (n) 0)).bind fun v20 =>
           (ld false 1 v20 H3).bind fun v21 =>
           (fieldA 3 (ptr (n + 1) 0)).bind fun v22 =>
           (ld false 1 v22 H3).bind fun v23 =>
           (binK .plain .neq v21 v23).bind fun v24 =>
           csel v24
             (some (.bool false, H3, n + 24))
             ((fieldA 4 (ptr (n) 0)).bind fun v25 =>
              (ld false 1 v25 H3).bind fun v26 =>
              (fieldA 4 (ptr (n + 1) 0)).bind fun v27 =>
              (ld false 1 v27 H3).bind fun v28 =>
              (binK .plain .neq v26 v28).bind fun v29 =>
              csel v29
                (some (.bool false, H3, n + 29))
                (some (.bool true, H3, n + 29))))))
theorem s106 (C : Calling) (L : Body → Body) (t : Tm) (H : Hp) (n : Nat) : bodyK Try.prog C L Try.f106 t H n = S106 C L t H n := by kernel_rfl
theorem c106 (args : List Value) (H : Hp) (n : Nat) : Call Try.prog 106 args H n = S106 (Call Try.prog) Loop (argsT args) H n := (Call_body Try.func106 args H n).trans (s106 ..)
noncomputable def S107L0 (C : Calling) (L : Body → Body) : Body := fun t H n =>
  (binK .plain .gtr (t 0) (.int .i64 0)).bind fun v3 =>
  csel v3
    ((binK .plain .rem (t 0) (.int .i64 10)).bind fun v4 =>
     (binK .plain .add (.int .i64 48) v4).bind fun v5 =>
     (conv (.toInt .u8) (n + 5) v5 H).bind fun p6 =>
     (bsl (n + 6) 1 1 [.int .u8 0] [(0, 1, p6.1)] p6.2).bind fun p7 =>
     (conv .bytesToStr (n + 7) p7.1 p7.2).bind fun p8 =>
     (binK .plain .add p8.1 (t 3)).bind fun v9 =>
     (binK .plain .quo (t 0) (.int .i64 10)).bind fun v10 =>
     some ⟨.normal, put (put (put (put (put (put (put (put (put (put (put (put (put (put t 6 (t 0)) 7 v3) 8 (t 0)) 9 v4) 10 v5) 11 p6.1) 12 p7.1) 13 p8.1) 14 (t 3)) 15 v9) 3 v9) 16 (t 0)) 17 v10) 0 v10, p8.2, n + 14⟩)
    (some ⟨(.exit 0), put (put t 6 (t 0)) 7 v3, H, n + 2⟩)
noncomputable def S107 (C : Calling) (L : Body → Body) (t : Tm) (H : Hp) (n : Nat) : Option (Value × Hp × Nat) :=
  (binK .plain .leq (t 0) (.int .i64 0)).bind fun v1 =>
  csel v1
    (some (.string ⟨#[109, 48]⟩, H, n + 4))
    ((L (S107L0 C L) (put (put (put (put t 2 (.string ⟨#[]⟩)) 4 (t 0)) 5 v1) 3 (.string ⟨#[]⟩)) H (n + 4)).bind fun (o2 : Out) =>
     (binK .plain .add (.string ⟨#[109]⟩) (o2.t 3)).bind fun v11 =>
     some (v11, o2.H, o2.n + 3))
theorem s107 (C : Calling) (L : Body → Body) (t : Tm) (H : Hp) (n : Nat) : bodyK Try.prog C L Try.f107 t H n = S107 C L t H n := by kernel_rfl
theorem c107 (args : List Value) (H : Hp) (n : Nat) : Call Try.prog 107 args H n = S107 (Call Try.prog) Loop (argsT args) H n := (Call_body Try.func107 args H n).trans (s107 ..)
noncomputable def S108L0 (C : Calling) (L : Body → Body) : Body := fun t H n =>
  (lenV false (t 0)).bind fun v2 =>
  (binK .plain .lss (t 5) v2).bind fun v3 =>
  csel v3
    ((idxA 5 (t 0) (t 5)).bind fun v4 =>
     (fieldA 0 v4).bind fun v5 =>
     (ld false 1 v5 H).bind fun v6 =>
     (binK .plain .neq v6 (t 1)).bind fun v7 =>
     csel v7
       (some ⟨.ret, put (put (put (put (put (put (put (put (put (put (put (put t 6 (t 5)) 7 (t 0)) 8 v2) 9 v3) 12 (t 0)) 13 (t 5)) 14 v4) 15 v5) 16 v6) 17 (t 1)) 18 v7) 4 (.int .i64 (-1)), H, n + 12⟩)
       ((binK .plain .add (t 1) (.int .i64 1)).bind fun v8 =>
        (idxA 5 (t 0) (t 5)).bind fun v9 =>
        (fieldA 1 v9).bind fun v10 =>
        (ld false 1 v10 H).bind fun v11 =>
        (binK .plain .neq v11 v8).bind fun v12 =>
        csel v12
          (some ⟨.ret, put (put (put (put (put (put (put (put (put (put (put (put (put (put (put (put (put (put (put (put (put (put t 6 (t 5)) 7 (t 0)) 8 v2) 9 v3) 12 (t 0)) 13 (t 5)) 14 v4) 15 v5) 16 v6) 17 (t 1)) 18 v7) 19 (t 1)) 20 v8) 1 v8) 21 (t 0)) 22 (t 5)) 23 v9) 24 v10) 25 v11) 26 v8) 27 v12) 4 (.int .i64 (-1)), H, n + 22⟩)
          ((binK .plain .add v8 (.int .i64 1)).bind fun v13 =>
           (idxA 5 (t 0) (t 5)).bind fun v14 =>
           (fieldA 2 v14).bind fun v15 =>
           (ld false 1 v15 H).bind fun v16 =>
           (C 107 [v13] H (n + 32)).bind fun q17 =>
           ask (ld false 1 v15 q17.2.1 = some v16) <|
           (binK .plain .neq v16 q17.1).bind fun v18 =>
           csel v18
             (some ⟨.ret, put (put (put (put (put (put (put (put (put (put (put (put (put (put (put (put (put (put (put (put (put (put (put (put (put (put (put (put (put (put (put (put (put t 6 (t 5)) 7 (t 0)) 8 v2) 9 v3) 12 (t 0)) 13 (t 5)) 14 v4) 15 v5) 16 v6) 17 (t 1)) 18 v7) 19 (t 1)) 20 v8) 1 v8) 21 (t 0)) 22 (t 5)) 23 v9) 24 v10) 25 v11) 26 v8) 27 v12) 28 v8) 29 v13) 1 v13) 30 (t 0)) 31 (t 5)) 32 v14) 33 v15) 34 v16) 35 v13) 36 q17.1) 37 v18) 4 (.int .i64 (-1)), q17.2.1, q17.2.2 + 1⟩)
             ((binK .plain .add v13 (.int .i64 1)).bind fun v19 =>
              (idxA 5 (t 0) (t 5)).bind fun v20 =>
              (fieldA 3 v20).bind fun v21 =>
              (ld false 1 v21 q17.2.1).bind fun v22 =>
              (binK .plain .neq v22 v19).bind fun v23 =>
              csel v23
                (some ⟨.ret, put (put (put (put (put (put (put (put (put (put (put (put (put (put (put (put (put (put (put (put (put (put (put (put (put (put (put (put (put (put (put (put (put (put (put (put (put (put (put (put (put (put (put t 6 (t 5)) 7 (t 0)) 8 v2) 9 v3) 12 (t 0)) 13 (t 5)) 14 v4) 15 v5) 16 v6) 17 (t 1)) 18 v7) 19 (t 1)) 20 v8) 1 v8) 21 (t 0)) 22 (t 5)) 23 v9) 24 v10) 25 v11) 26 v8) 27 v12) 28 v8) 29 v13) 1 v13) 30 (t 0)) 31 (t 5)) 32 v14) 33 v15) 34 v16) 35 v13) 36 q17.1) 37 v18) 38 v13) 39 v19) 1 v19) 40 (t 0)) 41 (t 5)) 42 v20) 43 v21) 44 v22) 45 v19) 46 v23) 4 (.int .i64 (-1)), q17.2.1, q17.2.2 + 11⟩)
                ((binK .plain .add v19 (.int .i64 1)).bind fun v24 =>
                 (idxA 5 (t 0) (t 5)).bind fun v25 =>
                 (fieldA 4 v25).bind fun v26 =>
                 (ld false 1 v26 q17.2.1).bind fun v27 =>
                 (binK .plain .neq v27 v24).bind fun v28 =>
                 csel v28
                   (some ⟨.ret, put (put (put (put (put (put (put (put (put (put (put (put (put (put (put (put (put (put (put (put (put (put (put (put (put (put (put (put (put (put (put (put (put (put (put (put (put (put (put (put (put (put (put (put (put (put (put (put (put (put (put (put (put t 6 (t 5)) 7 (t 0)) 8 v2) 9 v3) 12 (t 0)) 13 (t 5)) 14 v4) 15 v5) 16 v6) 17 (t 1)) 18 v7) 19 (t 1)) 20 v8) 1 v8) 21 (t 0)) 22 (t 5)) 23 v9) 24 v10) 25 v11) 26 v8) 27 v12) 28 v8) 29 v13) 1 v13) 30 (t 0)) 31 (t 5)) 32 v14) 33 v15) 34 v16) 35 v13) 36 q17.1) 37 v18) 38 v13) 39 v19) 1 v19) 40 (t 0)) 41 (t 5)) 42 v20) 43 v21) 44 v22) 45 v19) 46 v23) 47 v19) 48 v24) 1 v24) 49 (t 0)) 50 (t 5)) 51 v25) 52 v26) 53 v27) 54 v24) 55 v28) 4 (.int .i64 (-1)), q17.2.1, q17.2.2 + 21⟩)
                   ((binK .plain .add v24 (.int .i64 1)).bind fun v29 =>
                    (binK .plain .add (t 5) (.int .i64 1)).bind fun v30 =>
                    some ⟨.normal, put (put (put (put (put (put (put (put (put (put (put (put (put (put (put (put (put (put (put (put (put (put (put (put (put (put (put (put (put (put (put (put (put (put (put (put (put (put (put (put (put (put (put (put (put (put (put (put (put (put (put (put (put (put (put (put (put (put t 6 (t 5)) 7 (t 0)) 8 v2) 9 v3) 12 (t 0)) 13 (t 5)) 14 v4) 15 v5) 16 v6) 17 (t 1)) 18 v7) 19 (t 1)) 20 v8) 1 v8) 21 (t 0)) 22 (t 5)) 23 v9) 24 v10) 25 v11) 26 v8) 27 v12) 28 v8) 29 v13) 1 v13) 30 (t 0)) 31 (t 5)) 32 v14) 33 v15) 34 v16) 35 v13) 36 q17.1) 37 v18) 38 v13) 39 v19) 1 v19) 40 (t 0)) 41 (t 5)) 42 v20) 43 v21) 44 v22) 45 v19) 46 v23) 47 v19) 48 v24) 1 v24) 49 (t 0)) 50 (t 5)) 51 v25) 52 v26) 53 v27) 54 v24) 55 v28) 56 v24) 57 v29) 1 v29) 10 (t 5)) 11 v30) 5 v30, q17.2.1, q17.2.2 + 26⟩))))))
    (some ⟨(.exit 0), put (put (put (put t 6 (t 5)) 7 (t 0)) 8 v2) 9 v3, H, n + 4⟩)
noncomputable def S108 (C : Calling) (L : Body → Body) (t : Tm) (H : Hp) (n : Nat) : Option (Value × Hp × Nat) :=
  (L (S108L0 C L) (put (put t 4 (.int .i64 0)) 5 (.int .i64 0)) H (n + 2)).bind fun (o1 : Out) =>
  let o31 := outOf 0 o1
  thenK o31
    (some (o31.t 1, o31.H, o31.n + 2))
    (finE o31.e
       (some (o31.t 4, o31.H, o31.n)))
theorem s108 (C : Calling) (L : Body → Body) (t : Tm) (H : Hp) (n : Nat) : bodyK Try.prog C L Try.f108 t H n = S108 C L t H n := by kernel_rfl
theorem c108 (args : List Value) (H : Hp) (n : Nat) : Call Try.prog 108 args H n = S108 (Call Try.prog) Loop (argsT args) H n := (Call_body Try.func108 args H n).trans (s108 ..)
noncomputable def S110 (C : Calling) (L : Body → Body) (t : Tm) (H : Hp) (n : Nat) : Option (Value × Hp × Nat) :=
  (binK .plain .geq (t 0) (.int .u8 97)).bind fun v1 =>
  let t3 : Tm := put (put (put (put t 2 (.bool false)) 3 (t 0)) 4 v1) 5 v1
  (gsel v1 true
    ((binK .plain .leq (t3 0) (.int .u8 122)).bind fun v4 =>
     some (put (put t3 6 (t3 0)) 7 v4, H, n + 14))
    (some (put (put t3 6 (.tuple #[])) 7 (.tuple #[]), H, n + 14))
  ).bind fun (q2 : R3) =>
  (pickV (q2.1 5) (q2.1 7) (.bool false)).bind fun v5 =>
  let t7 : Tm := put (put q2.1 8 v5) 9 v5
  (gsel v5 false
    ((bsl (n + 8) 1 8 [.int .u8 0] [(0, 1, .int .u8 43), (1, 1, .int .u8 45), (2, 1, .int .u8 42), (3, 1, .int .u8 60), (4, 1, .int .u8 61), (5, 1, .int .u8 63), (6, 1, .int .u8 33), (7, 1, .int .u8 47)] q2.2.1).bind fun p8 =>
     (conv .mark (n + 9) p8.1 p8.2).bind fun p9 =>
     (C 130 [p9.1, t7 0] p9.2 (q2.2.2)).bind fun q10 =>
     some (put (put (put (put t7 10 p8.1) 11 p9.1) 12 (t7 0)) 13 q10.1, q10.2.1, q10.2.2))
    (some (put (put (put (put t7 10 (.tuple #[])) 11 (.tuple #[])) 12 (.tuple #[])) 13 (.tuple #[]), q2.2.1, q2.2.2))
  ).bind fun (q6 : R3) =>
  (pickV (q6.1 9) (.bool true) (q6.1 13)).bind fun v11 =>
  some (v11, q6.2.1, q6.2.2)
theorem s110 (C : Calling) (L : Body → Body) (t : Tm) (H : Hp) (n : Nat) : bodyK Try.prog C L Try.f110 t H n = S110 C L t H n := by kernel_rfl
theorem c110 (args : List Value) (H : Hp) (n : Nat) : Call Try.prog 110 args H n = S110 (Call Try.prog) Loop (argsT args) H n := (Call_body Try.func110 args H n).trans (s110 ..)
noncomputable def S111 (C : Calling) (L : Body → Body) (t : Tm) (H : Hp) (n : Nat) : Option (Value × Hp × Nat) :=
  (binK .plain .geq (t 0) (.int .u8 97)).bind fun v1 =>
  let t3 : Tm := put (put (put (put t 2 (.bool false)) 3 (t 0)) 4 v1) 5 v1
  (gsel v1 true
    ((binK .plain .leq (t3 0) (.int .u8 122)).bind fun v4 =>
     some (put (put t3 6 (t3 0)) 7 v4, H, n + 40))
    (some (put (put t3 6 (.tuple #[])) 7 (.tuple #[]), H, n + 40))
  ).bind fun (q2 : R3) =>
  (pickV (q2.1 5) (q2.1 7) (.bool false)).bind fun v5 =>
  let t7 : Tm := put (put q2.1 8 v5) 9 v5
  (gsel v5 false
    ((binK .plain .eql (t7 0) (.int .u8 43)).bind fun v8 =>
     some (put (put t7 10 (t7 0)) 11 v8, q2.2.1, q2.2.2))
    (some (put (put t7 10 (.tuple #[])) 11 (.tuple #[]), q2.2.1, q2.2.2))
  ).bind fun (q6 : R3) =>
  (pickV (q6.1 9) (.bool true) (q6.1 11)).bind fun v9 =>
  let t11 : Tm := put (put q6.1 12 v9) 13 v9
  (gsel v9 false
    ((binK .plain .eql (t11 0) (.int .u8 45)).bind fun v12 =>
     some (put (put t11 14 (t11 0)) 15 v12, q6.2.1, q6.2.2))
    (some (put (put t11 14 (.tuple #[])) 15 (.tuple #[]), q6.2.1, q6.2.2))
  ).bind fun (q10 : R3) =>
  (pickV (q10.1 13) (.bool true) (q10.1 15)).bind fun v13 =>
  let t15 : Tm := put (put q10.1 16 v13) 17 v13
  (gsel v13 false
    ((binK .plain .eql (t15 0) (.int .u8 42)).bind fun v16 =>
     some (put (put t15 18 (t15 0)) 19 v16, q10.2.1, q10.2.2))
    (some (put (put t15 18 (.tuple #[])) 19 (.tuple #[]), q10.2.1, q10.2.2))
  ).bind fun (q14 : R3) =>
  (pickV (q14.1 17) (.bool true) (q14.1 19)).bind fun v17 =>
  let t19 : Tm := put (put q14.1 20 v17) 21 v17
  (gsel v17 false
    ((binK .plain .eql (t19 0) (.int .u8 60)).bind fun v20 =>
     some (put (put t19 22 (t19 0)) 23 v20, q14.2.1, q14.2.2))
    (some (put (put t19 22 (.tuple #[])) 23 (.tuple #[]), q14.2.1, q14.2.2))
  ).bind fun (q18 : R3) =>
  (pickV (q18.1 21) (.bool true) (q18.1 23)).bind fun v21 =>
  let t23 : Tm := put (put q18.1 24 v21) 25 v21
  (gsel v21 false
    ((binK .plain .eql (t23 0) (.int .u8 61)).bind fun v24 =>
     some (put (put t23 26 (t23 0)) 27 v24, q18.2.1, q18.2.2))
    (some (put (put t23 26 (.tuple #[])) 27 (.tuple #[]), q18.2.1, q18.2.2))
  ).bind fun (q22 : R3) =>
  (pickV (q22.1 25) (.bool true) (q22.1 27)).bind fun v25 =>
  let t27 : Tm := put (put q22.1 28 v25) 29 v25
  (gsel v25 false
    ((binK .plain .eql (t27 0) (.int .u8 63)).bind fun v28 =>
     some (put (put t27 30 (t27 0)) 31 v28, q22.2.1, q22.2.2))
    (some (put (put t27 30 (.tuple #[])) 31 (.tuple #[]), q22.2.1, q22.2.2))
  ).bind fun (q26 : R3) =>
  (pickV (q26.1 29) (.bool true) (q26.1 31)).bind fun v29 =>
  let t31 : Tm := put (put q26.1 32 v29) 33 v29
  (gsel v29 false
    ((binK .plain .eql (t31 0) (.int .u8 33)).bind fun v32 =>
     some (put (put t31 34 (t31 0)) 35 v32, q26.2.1, q26.2.2))
    (some (put (put t31 34 (.tuple #[])) 35 (.tuple #[]), q26.2.1, q26.2.2))
  ).bind fun (q30 : R3) =>
  (pickV (q30.1 33) (.bool true) (q30.1 35)).bind fun v33 =>
  let t35 : Tm := put (put q30.1 36 v33) 37 v33
  (gsel v33 false
    ((binK .plain .eql (t35 0) (.int .u8 47)).bind fun v36 =>
     some (put (put t35 38 (t35 0)) 39 v36, q30.2.1, q30.2.2))
    (some (put (put t35 38 (.tuple #[])) 39 (.tuple #[]), q30.2.1, q30.2.2))
  ).bind fun (q34 : R3) =>
  (pickV (q34.1 37) (.bool true) (q34.1 39)).bind fun v37 =>
  some (v37, q34.2.1, q34.2.2)
theorem s111 (C : Calling) (L : Body → Body) (t : Tm) (H : Hp) (n : Nat) : bodyK Try.prog C L Try.f111 t H n = S111 C L t H n := by kernel_rfl
theorem c111 (args : List Value) (H : Hp) (n : Nat) : Call Try.prog 111 args H n = S111 (Call Try.prog) Loop (argsT args) H n := (Call_body Try.func111 args H n).trans (s111 ..)
noncomputable def S112L0 (C : Calling) (L : Body → Body) : Body := fun t H n =>
  (fieldA 0 (t 4)).bind fun v8 =>
  (ld false 1 v8 H).bind fun v9 =>
  (lenV false v9).bind fun v10 =>
  (binK .plain .lss (t 8) v10).bind fun v11 =>
  csel v11
    (let t13 : Tm := put (put (put (put (put t 14 (t 8)) 15 v8) 16 v9) 17 v10) 18 v11
     Option.bind
       ((idxA 1 (t13 2) (t13 8)).bind fun v14 =>
        (ld false 1 v14 H).bind fun v15 =>
        (un .not v15).bind fun v16 =>
        csel v16
          (some ⟨(.exit 1), put (put (put (put (put t13 21 (t13 2)) 22 (t13 8)) 23 v14) 24 v15) 25 v16, H, n + 10⟩)
          ((fieldA 0 (t13 4)).bind fun v17 =>
           (ld false 1 v17 H).bind fun v18 =>
           (idxA 5 v18 (t13 8)).bind fun v19 =>
           (ld true 5 v19 H).bind fun v20 =>
           let H21 := H.set (n + 15) (some (.row [.int .i64 0, .int .i64 0, .string ⟨#[]⟩, .int .i64 0, .int .i64 0] 0 true))
           (st true 5 (ptr (n + 15) 0) v20 H21).bind fun H22 =>
           (fieldA 0 (ptr (n + 15) 0)).bind fun v23 =>
           (ld false 1 v23 H22).bind fun v24 =>
           (binK .plain .eql v24 (.int .i64 5)).bind fun v25 =>
           let t27 : Tm := put (put (put (put (put (put (put (put (put (put (put (put (put (put (put t13 21 (t13 2)) 22 (t13 8)) 23 v14) 24 v15) 25 v16) 26 v17) 27 v18) 28 (t13 8)) 29 v19) 30 v20) 9 (ptr (n + 15) 0)) 31 v23) 32 v24) 34 v25) 33 v25
           (csel v25
             ((fieldA 3 (ptr (n + 15) 0)).bind fun v28 =>
              (ld false 1 v28 H22).bind fun v29 =>
              (idxA 1 (t27 7) v29).bind fun v30 =>
              (ld false 1 v30 H22).bind fun v31 =>
              (fieldA 3 (ptr (n + 15) 0)).bind fun v32 =>
              (st false 1 v32 v31 H22).bind fun H33 =>
              (fieldA 4 (ptr (n + 15) 0)).bind fun v34 =>
              (ld false 1 v34 H33).bind fun v35 =>
              (idxA 1 (t27 7) v35).bind fun v36 =>
              (ld false 1 v36 H33).bind fun v37 =>
              (fieldA 4 (ptr (n + 15) 0)).bind fun v38 =>
              (st false 1 v38 v37 H33).bind fun H39 =>
              some ⟨.normal, put (put (put (put (put (put (put (put (put (put (put (put t27 35 (t27 7)) 36 v28) 37 v29) 38 v30) 39 v31) 40 v32) 41 (t27 7)) 42 v34) 43 v35) 44 v36) 45 v37) 46 v38, H39, n + 35⟩)
             ((binK .plain .eql v24 (.int .i64 6)).bind fun v40 =>
              let t42 : Tm := put (put t27 48 v40) 47 v40
              (csel v40
                (some ⟨.normal, t42, H22, n + 23⟩)
                ((binK .plain .eql v24 (.int .i64 7)).bind fun v43 =>
                 some ⟨.normal, put (put t42 49 v43) 47 v43, H22, n + 25⟩)
              ).bind fun (o41 : Out) =>
              (csel (o41.t 47)
                ((fieldA 3 (o41.t 9)).bind fun v46 =>
                 (ld false 1 v46 o41.H).bind fun v47 =>
                 (idxA 1 (o41.t 7) v47).bind fun v48 =>
                 (ld false 1 v48 o41.H).bind fun v49 =>
                 (fieldA 3 (o41.t 9)).bind fun v50 =>
                 (st false 1 v50 v49 o41.H).bind fun H51 =>
                 some ⟨.normal, put (put (put (put (put (put o41.t 50 (o41.t 7)) 51 v46) 52 v47) 53 v48) 54 v49) 55 v50, H51, o41.n + 7⟩)
                (some ⟨.normal, o41.t, o41.H, o41.n⟩)
              ).bind fun (o44 : Out) =>
              some ⟨.normal, o44.t, o44.H, o44.n⟩)
           ).bind fun (o26 : Out) =>
           (ld true 5 (o26.t 9) o26.H).bind fun v52 =>
           (C 48 [o26.t 0, v52] o26.H (o26.n + 7)).bind fun q53 =>
           (idxA 1 (o26.t 7) (o26.t 8)).bind fun v54 =>
           (st false 1 v54 q53.1 q53.2.1).bind fun H55 =>
           some ⟨.normal, put (put (put (put (put (put o26.t 56 (o26.t 7)) 57 (o26.t 8)) 58 (o26.t 0)) 59 v52) 60 q53.1) 61 v54, H55, q53.2.2⟩))
     fun (o12 : Out) =>
     (binK .plain .add (o12.t 8) (.int .i64 1)).bind fun v56 =>
     some ⟨.normal, put (put (put o12.t 19 (o12.t 8)) 20 v56) 8 v56, o12.H, o12.n + 3⟩)
    (some ⟨(.exit 0), put (put (put (put (put t 14 (t 8)) 15 v8) 16 v9) 17 v10) 18 v11, H, n + 5⟩)
noncomputable def S112 (C : Calling) (L : Body → Body) (t : Tm) (H : Hp) (n : Nat) : Option (Value × Hp × Nat) :=
  (vcells (t 1)).bind fun c2 =>
  let H1 := H.set (n) (some (.row c2 0 true))
  (fieldA 0 (ptr (n) 0)).bind fun v3 =>
  (ld false 1 v3 H1).bind fun v4 =>
  (lenV false v4).bind fun v5 =>
  (mks (n + 5) 1 8 [.int .i64 0] v5 v5 H1).bind fun p6 =>
  (L (S112L0 C L) (put (put (put (put (put (put (put (put t 4 (ptr (n) 0)) 6 nilS) 10 v3) 11 v4) 12 v5) 13 p6.1) 7 p6.1) 8 (.int .i64 0)) p6.2 (n + 8)).bind fun (o7 : Out) =>
  some (o7.t 7, o7.H, o7.n + 2)
theorem s112 (C : Calling) (L : Body → Body) (t : Tm) (H : Hp) (n : Nat) : bodyK Try.prog C L Try.f112 t H n = S112 C L t H n := by kernel_rfl
theorem c112 (args : List Value) (H : Hp) (n : Nat) : Call Try.prog 112 args H n = S112 (Call Try.prog) Loop (argsT args) H n := (Call_body Try.func112 args H n).trans (s112 ..)
noncomputable def S113L1 (C : Calling) (L : Body → Body) : Body := fun t H n =>
  (binK .plain .geq (t 7) (.int .i64 0)).bind fun v20 =>
  csel v20
    (let t22 : Tm := put (put t 29 (t 7)) 30 v20
     Option.bind
       ((fieldA 0 (t22 2)).bind fun v23 =>
        (ld false 1 v23 H).bind fun v24 =>
        (idxA 5 v24 (t22 7)).bind fun v25 =>
        (ld true 5 v25 H).bind fun v26 =>
        let H27 := H.set (n + 7) (some (.row [.int .i64 0, .int .i64 0, .string ⟨#[]⟩, .int .i64 0, .int .i64 0] 0 true))
        (st true 5 (ptr (n + 7) 0) v26 H27).bind fun H28 =>
        (idxA 1 (t22 5) (t22 7)).bind fun v29 =>
        (ld false 1 v29 H28).bind fun v30 =>
        (un .not v30).bind fun v31 =>
        csel v31
          (some ⟨(.exit 3), put (put (put (put (put (put (put (put (put (put (put t22 33 v23) 34 v24) 35 (t22 7)) 36 v25) 37 v26) 8 (ptr (n + 7) 0)) 38 (t22 5)) 39 (t22 7)) 40 v29) 41 v30) 42 v31, H28, n + 14⟩)
          ((fieldA 0 (ptr (n + 7) 0)).bind fun v32 =>
           (ld false 1 v32 H28).bind fun v33 =>
           (binK .plain .eql v33 (.int .i64 5)).bind fun v34 =>
           let t36 : Tm := put (put (put (put (put (put (put (put (put (put (put (put (put (put (put t22 33 v23) 34 v24) 35 (t22 7)) 36 v25) 37 v26) 8 (ptr (n + 7) 0)) 38 (t22 5)) 39 (t22 7)) 40 v29) 41 v30) 42 v31) 43 v32) 44 v33) 46 v34) 45 v34
           (csel v34
             ((fieldA 3 (ptr (n + 7) 0)).bind fun v37 =>
              (ld false 1 v37 H28).bind fun v38 =>
              (idxA 1 (t36 5) v38).bind fun v39 =>
              (st false 1 v39 (.bool true) H28).bind fun H40 =>
              (fieldA 4 (ptr (n + 7) 0)).bind fun v41 =>
              (ld false 1 v41 H40).bind fun v42 =>
              (idxA 1 (t36 5) v42).bind fun v43 =>
              (st false 1 v43 (.bool true) H40).bind fun H44 =>
              some ⟨.normal, put (put (put (put (put (put (put (put t36 47 (t36 5)) 48 v37) 49 v38) 50 v39) 51 (t36 5)) 52 v41) 53 v42) 54 v43, H44, n + 28⟩)
             ((binK .plain .eql v33 (.int .i64 6)).bind fun v45 =>
              let t47 : Tm := put (put t36 56 v45) 55 v45
              (csel v45
                (some ⟨.normal, t47, H28, n + 20⟩)
                ((binK .plain .eql v33 (.int .i64 7)).bind fun v48 =>
                 some ⟨.normal, put (put t47 57 v48) 55 v48, H28, n + 22⟩)
              ).bind fun (o46 : Out) =>
              (csel (o46.t 55)
                ((fieldA 3 (o46.t 8)).bind fun v51 =>
                 (ld false 1 v51 o46.H).bind fun v52 =>
                 (idxA 1 (o46.t 5) v52).bind fun v53 =>
                 (st false 1 v53 (.bool true) o46.H).bind fun H54 =>
                 some ⟨.normal, put (put (put (put o46.t 58 (o46.t 5)) 59 v51) 60 v52) 61 v53, H54, o46.n + 5⟩)
                (some ⟨.normal, o46.t, o46.H, o46.n⟩)
              ).bind fun (o49 : Out) =>
              some ⟨.normal, o49.t, o49.H, o49.n⟩)
           ).bind fun (o35 : Out) =>
           some ⟨.normal, o35.t, o35.H, o35.n⟩))
     fun (o21 : Out) =>
     (binK .plain .sub (o21.t 7) (.int .i64 1)).bind fun v55 =>
     some ⟨.normal, put (put (put o21.t 31 (o21.t 7)) 32 v55) 7 v55, o21.H, o21.n + 3⟩)
    (some ⟨(.exit 2), put (put t 29 (t 7)) 30 v20, H, n + 2⟩)
noncomputable def S113L0 (C : Calling) (L : Body → Body) : Body := fun t H n =>
  (lenV false (t 1)).bind fun v8 =>
  (binK .plain .lss (t 6) v8).bind fun v9 =>
  csel v9
    ((idxA 1 (t 1) (t 6)).bind fun v10 =>
     (ld false 1 v10 H).bind fun v11 =>
     (idxA 1 (t 5) v11).bind fun v12 =>
     (st false 1 v12 (.bool true) H).bind fun H13 =>
     (binK .plain .add (t 6) (.int .i64 1)).bind fun v14 =>
     some ⟨.normal, put (put (put (put (put (put (put (put (put (put (put (put (put t 13 (t 6)) 14 (t 1)) 15 v8) 16 v9) 19 (t 5)) 20 (t 1)) 21 (t 6)) 22 v10) 23 v11) 24 v12) 17 (t 6)) 18 v14) 6 v14, H13, n + 14⟩)
    (some ⟨(.exit 0), put (put (put (put t 13 (t 6)) 14 (t 1)) 15 v8) 16 v9, H, n + 4⟩)
noncomputable def S113 (C : Calling) (L : Body → Body) (t : Tm) (H : Hp) (n : Nat) : Option (Value × Hp × Nat) :=
  (vcells (t 0)).bind fun c2 =>
  let H1 := H.set (n) (some (.row c2 0 true))
  (fieldA 0 (ptr (n) 0)).bind fun v3 =>
  (ld false 1 v3 H1).bind fun v4 =>
  (lenV false v4).bind fun v5 =>
  (mks (n + 5) 1 1 [.bool false] v5 v5 H1).bind fun p6 =>
  (L (S113L0 C L) (put (put (put (put (put (put (put (put t 2 (ptr (n) 0)) 4 nilS) 9 v3) 10 v4) 11 v5) 12 p6.1) 5 p6.1) 6 (.int .i64 0)) p6.2 (n + 8)).bind fun (o7 : Out) =>
  (fieldA 0 (o7.t 2)).bind fun v15 =>
  (ld false 1 v15 o7.H).bind fun v16 =>
  (lenV false v16).bind fun v17 =>
  (binK .plain .sub v17 (.int .i64 1)).bind fun v18 =>
  (L (S113L1 C L) (put (put (put (put (put o7.t 25 v15) 26 v16) 27 v17) 28 v18) 7 v18) o7.H (o7.n + 5)).bind fun (o19 : Out) =>
  some (o19.t 5, o19.H, o19.n + 2)
theorem s113 (C : Calling) (L : Body → Body) (t : Tm) (H : Hp) (n : Nat) : bodyK Try.prog C L Try.f113 t H n = S113 C L t H n := by kernel_rfl
theorem c113 (args : List Value) (H : Hp) (n : Nat) : Call Try.prog 113 args H n = S113 (Call Try.prog) Loop (argsT args) H n := (Call_body Try.func113 args H n).trans (s113 ..)
noncomputable def S114L0 (C : Calling) (L : Body → Body) : Body := fun t H n =>
  (binK .plain .lss (t 21) (t 20)).bind fun v13 =>
  csel v13
    (let t15 : Tm := put t 22 v13
     Option.bind
       ((idxA 5 (t15 19) (t15 21)).bind fun v16 =>
        (ld true 5 v16 H).bind fun v17 =>
        let H18 := H.set (n + 4) (some (.row [.int .i64 0, .int .i64 0, .string ⟨#[]⟩, .int .i64 0, .int .i64 0] 0 true))
        (st true 5 (ptr (n + 4) 0) v17 H18).bind fun H19 =>
        (idxA 1 (t15 7) (t15 21)).bind fun v20 =>
        (st false 1 v20 (.int .i64 (-1)) H19).bind fun H21 =>
        (idxA 1 (t15 8) (t15 21)).bind fun v22 =>
        (ld false 1 v22 H21).bind fun v23 =>
        (un .not v23).bind fun v24 =>
        csel v24
          (some ⟨(.exit 1), put (put (put (put (put (put (put (put (put (put (put (put (put t15 23 (t15 21)) 24 v16) 25 v17) 10 (ptr (n + 4) 0)) 9 (t15 21)) 26 (t15 7)) 27 (t15 21)) 28 v20) 29 (t15 8)) 30 (t15 21)) 31 v22) 32 v23) 33 v24, H21, n + 16⟩)
          ((fieldA 0 (ptr (n + 4) 0)).bind fun v25 =>
           (ld false 1 v25 H21).bind fun v26 =>
           (binK .plain .eql v26 (.int .i64 5)).bind fun v27 =>
           let t29 : Tm := put (put (put (put (put (put (put (put (put (put (put (put (put (put (put (put (put t15 23 (t15 21)) 24 v16) 25 v17) 10 (ptr (n + 4) 0)) 9 (t15 21)) 26 (t15 7)) 27 (t15 21)) 28 v20) 29 (t15 8)) 30 (t15 21)) 31 v22) 32 v23) 33 v24) 34 v25) 35 v26) 37 v27) 36 v27
           (csel v27
             ((fieldA 3 (ptr (n + 4) 0)).bind fun v30 =>
              (ld false 1 v30 H21).bind fun v31 =>
              (idxA 1 (t29 7) v31).bind fun v32 =>
              (ld false 1 v32 H21).bind fun v33 =>
              (fieldA 4 (ptr (n + 4) 0)).bind fun v34 =>
              (ld false 1 v34 H21).bind fun v35 =>
              (idxA 1 (t29 7) v35).bind fun v36 =>
              (ld false 1 v36 H21).bind fun v37 =>
              (fieldA 3 (ptr (n + 4) 0)).bind fun v38 =>
              (st false 1 v38 v33 H21).bind fun H39 =>
              ask (ld false 1 v36 H39 = some v37) <|
              (fieldA 4 (ptr (n + 4) 0)).bind fun v40 =>
              (st false 1 v40 v37 H39).bind fun H41 =>
              some ⟨.normal, put (put (put (put (put (put (put (put (put (put (put (put t29 38 (t29 7)) 39 v30) 40 v31) 41 v32) 42 v33) 43 (t29 7)) 44 v34) 45 v35) 46 v36) 47 v37) 48 v38) 49 v40, H41, n + 34⟩)
             ((binK .plain .eql v26 (.int .i64 6)).bind fun v42 =>
              let t44 : Tm := put (put t29 51 v42) 50 v42
              (csel v42
                (some ⟨.normal, t44, H21, n + 22⟩)
                ((binK .plain .eql v26 (.int .i64 7)).bind fun v45 =>
                 some ⟨.normal, put (put t44 52 v45) 50 v45, H21, n + 24⟩)
              ).bind fun (o43 : Out) =>
              (csel (o43.t 50)
                ((fieldA 3 (o43.t 10)).bind fun v48 =>
                 (ld false 1 v48 o43.H).bind fun v49 =>
                 (idxA 1 (o43.t 7) v49).bind fun v50 =>
                 (ld false 1 v50 o43.H).bind fun v51 =>
                 (fieldA 3 (o43.t 10)).bind fun v52 =>
                 (st false 1 v52 v51 o43.H).bind fun H53 =>
                 some ⟨.normal, put (put (put (put (put (put o43.t 53 (o43.t 7)) 54 v48) 55 v49) 56 v50) 57 v51) 58 v52, H53, o43.n + 7⟩)
                (some ⟨.normal, o43.t, o43.H, o43.n⟩)
              ).bind fun (o46 : Out) =>
              some ⟨.normal, o46.t, o46.H, o46.n⟩)
           ).bind fun (o28 : Out) =>
           (ld true 5 (o28.t 10) o28.H).bind fun v54 =>
           (C 56 [o28.t 0, v54] o28.H (o28.n + 7)).bind fun q55 =>
           (idxA 1 (o28.t 7) (o28.t 9)).bind fun v56 =>
           (st false 1 v56 q55.1 q55.2.1).bind fun H57 =>
           some ⟨.normal, put (put (put (put (put (put o28.t 59 (o28.t 7)) 60 (o28.t 9)) 61 (o28.t 0)) 62 v54) 63 q55.1) 64 v56, H57, q55.2.2⟩))
     fun (o14 : Out) =>
     (binK .plain .add (o14.t 21) (.int .i64 1)).bind fun v58 =>
     some ⟨.normal, put (put o14.t 65 v58) 21 v58, o14.H, o14.n + 2⟩)
    (some ⟨(.exit 0), put t 22 v13, H, n + 1⟩)
noncomputable def S114 (C : Calling) (L : Body → Body) (t : Tm) (H : Hp) (n : Nat) : Option (Value × Hp × Nat) :=
  (vcells (t 1)).bind fun c2 =>
  let H1 := H.set (n) (some (.row c2 0 true))
  (fieldA 0 (ptr (n) 0)).bind fun v3 =>
  (ld false 1 v3 H1).bind fun v4 =>
  (lenV false v4).bind fun v5 =>
  (mks (n + 5) 1 8 [.int .i64 0] v5 v5 H1).bind fun p6 =>
  (ld true 1 (ptr (n) 0) p6.2).bind fun v7 =>
  (C 131 [v7, t 2] p6.2 (n + 11)).bind fun q8 =>
  (fieldA 0 (ptr (n) 0)).bind fun v9 =>
  (ld false 1 v9 q8.2.1).bind fun v10 =>
  (lenV false v10).bind fun v11 =>
  (L (S114L0 C L) (put (put (put (put (put (put (put (put (put (put (put (put (put (put (put t 4 (ptr (n) 0)) 6 nilS) 11 v3) 12 v4) 13 v5) 14 p6.1) 7 p6.1) 15 v7) 16 (t 2)) 17 q8.1) 8 q8.1) 18 v9) 19 v10) 20 v11) 21 (.int .i64 0)) q8.2.1 (q8.2.2 + 4)).bind fun (o12 : Out) =>
  some (o12.t 7, o12.H, o12.n + 2)
theorem s114 (C : Calling) (L : Body → Body) (t : Tm) (H : Hp) (n : Nat) : bodyK Try.prog C L Try.f114 t H n = S114 C L t H n := by kernel_rfl
theorem c114 (args : List Value) (H : Hp) (n : Nat) : Call Try.prog 114 args H n = S114 (Call Try.prog) Loop (argsT args) H n := (Call_body Try.func114 args H n).trans (s114 ..)
noncomputable def S130 (C : Calling) (L : Body → Body) (t : Tm) (H : Hp) (n : Nat) : Option (Value × Hp × Nat) :=
  (C 146 [t 0, t 1] H (n + 6)).bind fun q1 =>
  (binK .plain .geq q1.1 (.int .i64 0)).bind fun v2 =>
  some (v2, q1.2.1, q1.2.2)
theorem s130 (C : Calling) (L : Body → Body) (t : Tm) (H : Hp) (n : Nat) : bodyK Try.prog C L Try.f130 t H n = S130 C L t H n := by kernel_rfl
theorem c130 (args : List Value) (H : Hp) (n : Nat) : Call Try.prog 130 args H n = S130 (Call Try.prog) Loop (argsT args) H n := (Call_body Try.func130 args H n).trans (s130 ..)
noncomputable def S131L1 (C : Calling) (L : Body → Body) : Body := fun t H n =>
  (binK .plain .geq (t 8) (.int .i64 0)).bind fun v20 =>
  csel v20
    (let t22 : Tm := put (put t 28 (t 8)) 29 v20
     Option.bind
       ((idxA 1 (t22 5) (t22 8)).bind fun v23 =>
        (ld false 1 v23 H).bind fun v24 =>
        (un .not v24).bind fun v25 =>
        csel v25
          (some ⟨(.exit 3), put (put (put (put (put t22 32 (t22 5)) 33 (t22 8)) 34 v23) 35 v24) 36 v25, H, n + 7⟩)
          ((fieldA 0 (t22 2)).bind fun v26 =>
           (ld false 1 v26 H).bind fun v27 =>
           (idxA 5 v27 (t22 8)).bind fun v28 =>
           (ld true 5 v28 H).bind fun v29 =>
           let H30 := H.set (n + 12) (some (.row [.int .i64 0, .int .i64 0, .string ⟨#[]⟩, .int .i64 0, .int .i64 0] 0 true))
           (st true 5 (ptr (n + 12) 0) v29 H30).bind fun H31 =>
           (fieldA 0 (ptr (n + 12) 0)).bind fun v32 =>
           (ld false 1 v32 H31).bind fun v33 =>
           (binK .plain .eql v33 (.int .i64 5)).bind fun v34 =>
           let t36 : Tm := put (put (put (put (put (put (put (put (put (put (put (put (put (put (put t22 32 (t22 5)) 33 (t22 8)) 34 v23) 35 v24) 36 v25) 37 v26) 38 v27) 39 (t22 8)) 40 v28) 41 v29) 9 (ptr (n + 12) 0)) 42 v32) 43 v33) 45 v34) 44 v34
           (csel v34
             ((fieldA 3 (ptr (n + 12) 0)).bind fun v37 =>
              (ld false 1 v37 H31).bind fun v38 =>
              (idxA 1 (t36 5) v38).bind fun v39 =>
              (st false 1 v39 (.bool true) H31).bind fun H40 =>
              (fieldA 4 (ptr (n + 12) 0)).bind fun v41 =>
              (ld false 1 v41 H40).bind fun v42 =>
              (idxA 1 (t36 5) v42).bind fun v43 =>
              (st false 1 v43 (.bool true) H40).bind fun H44 =>
              some ⟨.normal, put (put (put (put (put (put (put (put t36 46 (t36 5)) 47 v37) 48 v38) 49 v39) 50 (t36 5)) 51 v41) 52 v42) 53 v43, H44, n + 28⟩)
             ((binK .plain .eql v33 (.int .i64 6)).bind fun v45 =>
              let t47 : Tm := put (put t36 55 v45) 54 v45
              (csel v45
                (some ⟨.normal, t47, H31, n + 20⟩)
                ((binK .plain .eql v33 (.int .i64 7)).bind fun v48 =>
                 some ⟨.normal, put (put t47 56 v48) 54 v48, H31, n + 22⟩)
              ).bind fun (o46 : Out) =>
              (csel (o46.t 54)
                ((fieldA 3 (o46.t 9)).bind fun v51 =>
                 (ld false 1 v51 o46.H).bind fun v52 =>
                 (idxA 1 (o46.t 5) v52).bind fun v53 =>
                 (st false 1 v53 (.bool true) o46.H).bind fun H54 =>
                 some ⟨.normal, put (put (put (put o46.t 57 (o46.t 5)) 58 v51) 59 v52) 60 v53, H54, o46.n + 5⟩)
                (some ⟨.normal, o46.t, o46.H, o46.n⟩)
              ).bind fun (o49 : Out) =>
              some ⟨.normal, o49.t, o49.H, o49.n⟩)
           ).bind fun (o35 : Out) =>
           some ⟨.normal, o35.t, o35.H, o35.n⟩))
     fun (o21 : Out) =>
     (binK .plain .sub (o21.t 8) (.int .i64 1)).bind fun v55 =>
     some ⟨.normal, put (put (put o21.t 30 (o21.t 8)) 31 v55) 8 v55, o21.H, o21.n + 3⟩)
    (some ⟨(.exit 2), put (put t 28 (t 8)) 29 v20, H, n + 2⟩)
noncomputable def S131L0 (C : Calling) (L : Body → Body) : Body := fun t H n =>
  (binK .plain .lss (t 16) (t 15)).bind fun v9 =>
  csel v9
    ((idxA 1 (t 14) (t 16)).bind fun v10 =>
     (ld false 1 v10 H).bind fun v11 =>
     (idxA 1 (t 5) v11).bind fun v12 =>
     (st false 1 v12 (.bool true) H).bind fun H13 =>
     (binK .plain .add (t 16) (.int .i64 1)).bind fun v14 =>
     some ⟨.normal, put (put (put (put (put (put (put (put (put t 17 v9) 18 v10) 19 v11) 7 v11) 20 (t 5)) 21 v11) 22 v12) 23 v14) 16 v14, H13, n + 10⟩)
    (some ⟨(.exit 0), put t 17 v9, H, n + 1⟩)
noncomputable def S131 (C : Calling) (L : Body → Body) (t : Tm) (H : Hp) (n : Nat) : Option (Value × Hp × Nat) :=
  (vcells (t 0)).bind fun c2 =>
  let H1 := H.set (n) (some (.row c2 0 true))
  (fieldA 0 (ptr (n) 0)).bind fun v3 =>
  (ld false 1 v3 H1).bind fun v4 =>
  (lenV false v4).bind fun v5 =>
  (mks (n + 5) 1 1 [.bool false] v5 v5 H1).bind fun p6 =>
  (lenV false (t 1)).bind fun v7 =>
  (L (S131L0 C L) (put (put (put (put (put (put (put (put (put (put t 2 (ptr (n) 0)) 4 nilS) 10 v3) 11 v4) 12 v5) 13 p6.1) 5 p6.1) 14 (t 1)) 15 v7) 16 (.int .i64 0)) p6.2 (n + 10)).bind fun (o8 : Out) =>
  (fieldA 0 (o8.t 2)).bind fun v15 =>
  (ld false 1 v15 o8.H).bind fun v16 =>
  (lenV false v16).bind fun v17 =>
  (binK .plain .sub v17 (.int .i64 1)).bind fun v18 =>
  (L (S131L1 C L) (put (put (put (put (put o8.t 24 v15) 25 v16) 26 v17) 27 v18) 8 v18) o8.H (o8.n + 5)).bind fun (o19 : Out) =>
  some (o19.t 5, o19.H, o19.n + 2)
theorem s131 (C : Calling) (L : Body → Body) (t : Tm) (H : Hp) (n : Nat) : bodyK Try.prog C L Try.f131 t H n = S131 C L t H n := by kernel_rfl
theorem c131 (args : List Value) (H : Hp) (n : Nat) : Call Try.prog 131 args H n = S131 (Call Try.prog) Loop (argsT args) H n := (Call_body Try.func131 args H n).trans (s131 ..)
noncomputable def S146L0 (C : Calling) (L : Body → Body) : Body := fun t H n =>
  (binK .plain .lss (t 8) (t 7)).bind fun v3 =>
  csel v3
    ((idxA 1 (t 0) (t 8)).bind fun v4 =>
     (ld false 1 v4 H).bind fun v5 =>
     (binK .plain .eql (t 1) v5).bind fun v6 =>
     csel v6
       (some ⟨.ret, put (put (put (put (put (put (put (put (put (put (put t 9 v3) 10 (t 8)) 5 (t 8)) 11 (t 1)) 12 (t 0)) 13 (t 8)) 14 v4) 15 v5) 16 v6) 17 (t 8)) 4 (t 8), H, n + 11⟩)
       ((binK .plain .add (t 8) (.int .i64 1)).bind fun v7 =>
        some ⟨.normal, put (put (put (put (put (put (put (put (put (put (put t 9 v3) 10 (t 8)) 5 (t 8)) 11 (t 1)) 12 (t 0)) 13 (t 8)) 14 v4) 15 v5) 16 v6) 18 v7) 8 v7, H, n + 11⟩))
    (some ⟨(.exit 0), put t 9 v3, H, n + 1⟩)
noncomputable def S146 (C : Calling) (L : Body → Body) (t : Tm) (H : Hp) (n : Nat) : Option (Value × Hp × Nat) :=
  (lenV false (t 0)).bind fun v1 =>
  (L (S146L0 C L) (put (put (put (put t 4 (.int .i64 0)) 6 (t 0)) 7 v1) 8 (.int .i64 0)) H (n + 4)).bind fun (o2 : Out) =>
  let o8 := outOf 0 o2
  thenK o8
    (some (.int .i64 (-1), o8.H, o8.n + 1))
    (finE o8.e
       (some (o8.t 4, o8.H, o8.n)))
theorem s146 (C : Calling) (L : Body → Body) (t : Tm) (H : Hp) (n : Nat) : bodyK Try.prog C L Try.f146 t H n = S146 C L t H n := by kernel_rfl
theorem c146 (args : List Value) (H : Hp) (n : Nat) : Call Try.prog 146 args H n = S146 (Call Try.prog) Loop (argsT args) H n := (Call_body Try.func146 args H n).trans (s146 ..)
end Go.Proofs.Ytjbfdaemgpmgjaa.Ax
