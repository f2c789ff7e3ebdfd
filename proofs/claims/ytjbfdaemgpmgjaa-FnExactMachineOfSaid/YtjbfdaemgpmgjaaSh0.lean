/- What the bodies of some functions of the program come to in the abstract machine. -/
import Derived.Test.YtjbfdaemgpmgjaaProg
import Derived.Test.YtjbfdaemgpmgjaaAx3
set_option linter.unusedVariables false
namespace Go.Proofs.Ytjbfdaemgpmgjaa.Ax
open Go
set_option maxRecDepth 100000
/-! 3: laws.FnExactMachineOf -/
noncomputable def S3 (C : Calling) (L : Body → Body) (t : Tm) (H : Hp) (n : Nat) : Option (Value × Hp × Nat) :=
  (vcells (t 0)).bind fun c2 =>
  let H1 := H.set (n) (some (.row c2 0 true))
  (vcells (t 1)).bind fun c4 =>
  let H3 := H1.set (n + 1) (some (.row c4 0 true))
  (ld true 3 (ptr (n) 0) H3).bind fun v5 =>
  (C 8 [v5, .int .i64 1048576] H3 (n + 8)).bind fun q6 =>
  (binK .plain .lss q6.1 (.int .i64 0)).bind fun v7 =>
  csel v7
    (some (.bool true, q6.2.1, q6.2.2 + 3))
    ((ld true 1 (ptr (n + 1) 0) q6.2.1).bind fun v8 =>
     (C 9 [v8, q6.1] q6.2.1 (q6.2.2 + 6)).bind fun q9 =>
     (binK .plain .lss q9.1 (.int .i64 0)).bind fun v10 =>
     csel v10
       (some (.bool true, q9.2.1, q9.2.2 + 3))
       ((ld true 3 (ptr (n) 0) q9.2.1).bind fun v11 =>
        (C 11 [v11] q9.2.1 (q9.2.2 + 14)).bind fun q12 =>
        (ld true 1 (ptr (n + 1) 0) q12.2.1).bind fun v13 =>
        ask (ld true 1 (ptr (n + 1) 0) q9.2.1 = some v13) <|
        (C 12 [v13] q12.2.1 (q12.2.2)).bind fun q14 =>
        (C 10 [q12.1, q14.1, t 2] q14.2.1 (q14.2.2)).bind fun q15 =>
        (ext 0 q15.1).bind fun v16 =>
        (ext 1 q15.1).bind fun v17 =>
        let H18 := q15.2.1.set (q9.2.2 + 11) (some (.row [nilS, .int .i64 0, .int .i64 0, .int .i64 0, .int .i64 0, .int .i64 0, .int .i64 0, .int .i64 0] 0 true))
        (st true 8 (ptr (q9.2.2 + 11) 0) v16 H18).bind fun H19 =>
        (ld true 3 (ptr (n) 0) H19).bind fun v20 =>
        (C 11 [v20] H19 (q15.2.2 + 4)).bind fun q21 =>
        let H22 := q21.2.1.set (q15.2.2 + 2) (some (.row [nilS, nilS, nilS] 0 true))
        (st true 3 (ptr (q15.2.2 + 2) 0) q21.1 H22).bind fun H23 =>
        (ld true 1 (ptr (n + 1) 0) H23).bind fun v24 =>
        (C 12 [v24] H23 (q21.2.2 + 4)).bind fun q25 =>
        let H26 := q25.2.1.set (q21.2.2 + 2) (some (.row [nilS] 0 true))
        (st true 1 (ptr (q21.2.2 + 2) 0) q25.1 H26).bind fun H27 =>
        (ld true 3 (ptr (q15.2.2 + 2) 0) H27).bind fun v28 =>
        (ld true 1 (ptr (q21.2.2 + 2) 0) H27).bind fun v29 =>
        (C 13 [v28, v29, t 2] H27 (q25.2.2 + 10)).bind fun q30 =>
        (ext 0 q30.1).bind fun v31 =>
        (ext 1 q30.1).bind fun v32 =>
        let H33 := q30.2.1.set (q25.2.2 + 7) (some (.row [nilS, .int .i64 0, .int .i64 0, .int .i64 0, .int .i64 0, .int .i64 0, .int .i64 0, .int .i64 0] 0 true))
        (st true 8 (ptr (q25.2.2 + 7) 0) v31 H33).bind fun H34 =>
        (ld true 8 (ptr (q25.2.2 + 7) 0) H34).bind fun v35 =>
        (ld true 8 (ptr (q9.2.2 + 11) 0) H34).bind fun v36 =>
        (C 14 [v35, v36] H34 (q30.2.2 + 9)).bind fun q37 =>
        (un .not q37.1).bind fun v38 =>
        let t40 : Tm := put (put (put (put (put (put (put (put (put (put (put (put (put (put (put (put (put (put (put (put (put (put (put (put (put (put (put (put (put (put (put (put (put (put (put (put (put (put (put (put (put (put (put (put (put (put (put t 3 (ptr (n) 0)) 4 (ptr (n + 1) 0)) 6 (.bool false)) 7 (.int .i64 1048576)) 19 v5) 20 (.int .i64 1048576)) 21 q6.1) 7 q6.1) 22 q6.1) 23 v7) 24 v8) 25 q6.1) 26 q9.1) 7 q9.1) 27 q9.1) 28 v10) 30 v11) 31 q12.1) 32 v13) 33 q14.1) 34 (t 2)) 35 q15.1) 29 q15.1) 36 v16) 37 v17) 8 (ptr (q9.2.2 + 11) 0)) 9 v17) 38 v20) 39 q21.1) 10 (ptr (q15.2.2 + 2) 0)) 40 v24) 41 q25.1) 11 (ptr (q21.2.2 + 2) 0)) 43 v28) 44 v29) 45 (t 2)) 46 q30.1) 42 q30.1) 47 v31) 48 v32) 12 (ptr (q25.2.2 + 7) 0)) 13 v32) 49 v35) 50 v36) 51 q37.1) 52 v38) 53 v38
        (gsel v38 false
          ((binK .bool .neq v32 v17).bind fun v41 =>
           some (put (put (put t40 54 v32) 55 v17) 56 v41, q37.2.1, q37.2.2))
          (some (put (put (put t40 54 (.tuple #[])) 55 (.tuple #[])) 56 (.tuple #[]), q37.2.1, q37.2.2))
        ).bind fun (q39 : R3) =>
        (pickV (q39.1 53) (.bool true) (q39.1 56)).bind fun v42 =>
        csel v42
          (some (.bool false, q39.2.1, q39.2.2 + 1))
          ((ld true 3 (q39.1 10) q39.2.1).bind fun v43 =>
           (ld true 3 (q39.1 3) q39.2.1).bind fun v44 =>
           (C 11 [v44] q39.2.1 (q39.2.2 + 5)).bind fun q45 =>
           ask (ld true 3 (q39.1 10) q45.2.1 = some v43) <|
           (C 15 [v43, q45.1] q45.2.1 (q45.2.2)).bind fun q46 =>
           (un .not q46.1).bind fun v47 =>
           csel v47
             (some (.bool false, q46.2.1, q46.2.2 + 1))
             ((ld true 1 (q39.1 11) q46.2.1).bind fun v48 =>
              (ld true 1 (q39.1 4) q46.2.1).bind fun v49 =>
              (C 12 [v49] q46.2.1 (q46.2.2 + 5)).bind fun q50 =>
              ask (ld true 1 (q39.1 11) q50.2.1 = some v48) <|
              (C 16 [v48, q50.1] q50.2.1 (q50.2.2)).bind fun q51 =>
              (un .not q51.1).bind fun v52 =>
              csel v52
                (some (.bool false, q51.2.1, q51.2.2 + 1))
                ((ld true 3 (q39.1 10) q51.2.1).bind fun v53 =>
                 (C 17 [v53, .int .i64 1] q51.2.1 (q51.2.2 + 5)).bind fun q54 =>
                 (ld true 1 (q39.1 11) q54.2.1).bind fun v55 =>
                 (C 18 [v55, q54.1] q54.2.1 (q54.2.2 + 4)).bind fun q56 =>
                 (binK .plain .lss q56.1 (.int .i64 0)).bind fun v57 =>
                 let t59 : Tm := put (put (put (put (put (put (put (put (put (put (put (put (put (put (put (put (put (put (put (put (put (put (put q39.1 57 v42) 58 v43) 59 v44) 60 q45.1) 61 q46.1) 62 v47) 63 v48) 64 v49) 65 q50.1) 66 q51.1) 67 v52) 14 (.int .i64 1)) 68 v53) 69 (.int .i64 1)) 70 q54.1) 14 q54.1) 71 v55) 72 q54.1) 73 q56.1) 14 q56.1) 74 q56.1) 75 v57) 76 v57
                 (gsel v57 false
                   ((ld true 8 (t59 12) q56.2.1).bind fun v60 =>
                    (ld true 8 (t59 8) q56.2.1).bind fun v61 =>
                    (C 14 [v60, v61] q56.2.1 (q56.2.2 + 13)).bind fun q62 =>
                    (un .not q62.1).bind fun v63 =>
                    some (put (put (put (put t59 77 v60) 78 v61) 79 q62.1) 80 v63, q62.2.1, q62.2.2))
                   (some (put (put (put (put t59 77 (.tuple #[])) 78 (.tuple #[])) 79 (.tuple #[])) 80 (.tuple #[]), q56.2.1, q56.2.2 + 13))
                 ).bind fun (q58 : R3) =>
                 (pickV (q58.1 76) (.bool true) (q58.1 80)).bind fun v64 =>
                 let t66 : Tm := put (put q58.1 81 v64) 82 v64
                 (gsel v64 false
                   ((binK .bool .neq (t66 13) (t66 9)).bind fun v67 =>
                    some (put (put (put t66 83 (t66 13)) 84 (t66 9)) 85 v67, q58.2.1, q58.2.2))
                   (some (put (put (put t66 83 (.tuple #[])) 84 (.tuple #[])) 85 (.tuple #[]), q58.2.1, q58.2.2))
                 ).bind fun (q65 : R3) =>
                 (pickV (q65.1 82) (.bool true) (q65.1 85)).bind fun v68 =>
                 csel v68
                   (some (.bool false, q65.2.1, q65.2.2 + 1))
                   ((ld true 8 (q65.1 12) q65.2.1).bind fun v69 =>
                    (C 19 [v69, .int .i64 1] q65.2.1 (q65.2.2 + 5)).bind fun q70 =>
                    (ld true 8 (q65.1 12) q70.2.1).bind fun v71 =>
                    (C 20 [v71, .int .i64 1] q70.2.1 (q70.2.2 + 5)).bind fun q72 =>
                    (binK .plain .lss q72.1 (.int .i64 0)).bind fun v73 =>
                    csel v73
                      (some (.bool false, q72.2.1, q72.2.2 + 3))
                      ((binK .plain .neq q72.1 q70.1).bind fun v74 =>
                       csel v74
                         (some (.bool false, q72.2.1, q72.2.2 + 6))
                         ((ld true 3 (q65.1 3) q72.2.1).bind fun v75 =>
                          (C 11 [v75] q72.2.1 (q72.2.2 + 17)).bind fun q76 =>
                          (ld true 1 (q65.1 4) q76.2.1).bind fun v77 =>
                          ask (ld true 1 (q65.1 4) q72.2.1 = some v77) <|
                          (C 12 [v77] q76.2.1 (q76.2.2)).bind fun q78 =>
                          (C 13 [q76.1, q78.1, q65.1 2] q78.2.1 (q78.2.2)).bind fun q79 =>
                          (ext 0 q79.1).bind fun v80 =>
                          (ext 1 q79.1).bind fun v81 =>
                          let H82 := q79.2.1.set (q72.2.2 + 14) (some (.row [nilS, .int .i64 0, .int .i64 0, .int .i64 0, .int .i64 0, .int .i64 0, .int .i64 0, .int .i64 0] 0 true))
                          (st true 8 (ptr (q72.2.2 + 14) 0) v80 H82).bind fun H83 =>
                          (ld true 8 (ptr (q72.2.2 + 14) 0) H83).bind fun v84 =>
                          (ld true 8 (q65.1 8) H83).bind fun v85 =>
                          (C 14 [v84, v85] H83 (q79.2.2 + 9)).bind fun q86 =>
                          (un .not q86.1).bind fun v87 =>
                          let t89 : Tm := put (put (put (put (put (put (put (put (put (put (put (put (put (put (put (put (put (put (put (put (put (put (put (put (put (put (put (put (put (put (put (put q65.1 86 v68) 15 (.int .i64 1)) 87 v69) 88 (.int .i64 1)) 89 q70.1) 15 q70.1) 16 (.int .i64 1)) 90 v71) 91 (.int .i64 1)) 92 q72.1) 16 q72.1) 93 q72.1) 94 v73) 95 q72.1) 96 q70.1) 97 v74) 99 v75) 100 q76.1) 101 v77) 102 q78.1) 103 (q65.1 2)) 104 q79.1) 98 q79.1) 105 v80) 106 v81) 17 (ptr (q72.2.2 + 14) 0)) 18 v81) 107 v84) 108 v85) 109 q86.1) 110 v87) 111 v87
                          (gsel v87 false
                            ((binK .bool .neq v81 (t89 9)).bind fun v90 =>
                             some (put (put (put t89 112 v81) 113 (t89 9)) 114 v90, q86.2.1, q86.2.2))
                            (some (put (put (put t89 112 (.tuple #[])) 113 (.tuple #[])) 114 (.tuple #[]), q86.2.1, q86.2.2))
                          ).bind fun (q88 : R3) =>
                          (pickV (q88.1 111) (.bool true) (q88.1 114)).bind fun v91 =>
                          csel v91
                            (some (.bool false, q88.2.1, q88.2.2 + 1))
                            ((ld true 8 (q88.1 12) q88.2.1).bind fun v92 =>
                             (C 20 [v92, .int .i64 1] q88.2.1 (q88.2.2 + 5)).bind fun q93 =>
                             (binK .plain .lss q93.1 (.int .i64 0)).bind fun v94 =>
                             csel v94
                               (some (.bool false, q93.2.1, q93.2.2 + 3))
                               ((binK .plain .neq q93.1 (q88.1 15)).bind fun v95 =>
                                csel v95
                                  (some (.bool false, q93.2.1, q93.2.2 + 6))
                                  (some (.bool true, q93.2.1, q93.2.2 + 6))))))))))))
theorem s3 (C : Calling) (L : Body → Body) (t : Tm) (H : Hp) (n : Nat) : bodyK Try.prog C L Try.f3 t H n = S3 C L t H n := by kernel_rfl
theorem c3 (args : List Value) (H : Hp) (n : Nat) : Call Try.prog 3 args H n = S3 (Call Try.prog) Loop (argsT args) H n := (Call_body Try.func3 args H n).trans (s3 ..)
/-! 8: laws.szCode -/
noncomputable def S8 (C : Calling) (L : Body → Body) (t : Tm) (H : Hp) (n : Nat) : Option (Value × Hp × Nat) :=
  (vcells (t 0)).bind fun c2 =>
  let H1 := H.set (n) (some (.row c2 0 true))
  (fieldA 0 (ptr (n) 0)).bind fun v3 =>
  (ld true 1 v3 H1).bind fun v4 =>
  (C 9 [v4, t 1] H1 (n + 7)).bind fun q5 =>
  (binK .plain .lss q5.1 (.int .i64 0)).bind fun v6 =>
  csel v6
    (some (.int .i64 (-1), q5.2.1, q5.2.2 + 3))
    ((fieldA 1 (ptr (n) 0)).bind fun v7 =>
     (ld false 1 v7 q5.2.1).bind fun v8 =>
     (C 42 [v8, q5.1] q5.2.1 (q5.2.2 + 7)).bind fun q9 =>
     (binK .plain .lss q9.1 (.int .i64 0)).bind fun v10 =>
     csel v10
       (some (.int .i64 (-1), q9.2.1, q9.2.2 + 3))
       ((fieldA 2 (ptr (n) 0)).bind fun v11 =>
        (ld false 1 v11 q9.2.1).bind fun v12 =>
        (C 43 [v12, q9.1] q9.2.1 (q9.2.2 + 7)).bind fun q13 =>
        (binK .plain .lss q13.1 (.int .i64 0)).bind fun v14 =>
        csel v14
          (some (.int .i64 (-1), q13.2.1, q13.2.2 + 3))
          (some (q13.1, q13.2.1, q13.2.2 + 4))))
theorem s8 (C : Calling) (L : Body → Body) (t : Tm) (H : Hp) (n : Nat) : bodyK Try.prog C L Try.f8 t H n = S8 C L t H n := by kernel_rfl
theorem c8 (args : List Value) (H : Hp) (n : Nat) : Call Try.prog 8 args H n = S8 (Call Try.prog) Loop (argsT args) H n := (Call_body Try.func8 args H n).trans (s8 ..)
/-! 9: laws.szPool -/
noncomputable def S9 (C : Calling) (L : Body → Body) (t : Tm) (H : Hp) (n : Nat) : Option (Value × Hp × Nat) :=
  (vcells (t 0)).bind fun c2 =>
  let H1 := H.set (n) (some (.row c2 0 true))
  (fieldA 0 (ptr (n) 0)).bind fun v3 =>
  (ld false 1 v3 H1).bind fun v4 =>
  (C 44 [v4, t 1] H1 (n + 7)).bind fun q5 =>
  (binK .plain .lss q5.1 (.int .i64 0)).bind fun v6 =>
  csel v6
    (some (.int .i64 (-1), q5.2.1, q5.2.2 + 3))
    (some (q5.1, q5.2.1, q5.2.2 + 4))
theorem s9 (C : Calling) (L : Body → Body) (t : Tm) (H : Hp) (n : Nat) : bodyK Try.prog C L Try.f9 t H n = S9 C L t H n := by kernel_rfl
theorem c9 (args : List Value) (H : Hp) (n : Nat) : Call Try.prog 9 args H n = S9 (Call Try.prog) Loop (argsT args) H n := (Call_body Try.func9 args H n).trans (s9 ..)
/-! 10: spec.MachineOf -/
noncomputable def S10 (C : Calling) (L : Body → Body) (t : Tm) (H : Hp) (n : Nat) : Option (Value × Hp × Nat) :=
  (vcells (t 0)).bind fun c2 =>
  let H1 := H.set (n) (some (.row c2 0 true))
  (vcells (t 1)).bind fun c4 =>
  let H3 := H1.set (n + 1) (some (.row c4 0 true))
  let H5 := H3.set (n + 2) (some (.row [nilS, .int .i64 0, .int .i64 0, .int .i64 0, .int .i64 0, .int .i64 0, .int .i64 0, .int .i64 0] 0 true))
  (ld true 3 (ptr (n) 0) H5).bind fun v6 =>
  (C 25 [v6] H5 (n + 25)).bind fun q7 =>
  (un .not q7.1).bind fun v8 =>
  let t10 : Tm := put (put (put (put (put (put (put (put t 3 (ptr (n) 0)) 4 (ptr (n + 1) 0)) 6 (ptr (n + 2) 0)) 7 (.bool false)) 12 v6) 13 q7.1) 14 v8) 15 v8
  (gsel v8 false
    ((ld true 1 (ptr (n + 1) 0) q7.2.1).bind fun v11 =>
     (C 45 [v11] q7.2.1 (q7.2.2)).bind fun q12 =>
     (un .not q12.1).bind fun v13 =>
     some (put (put (put t10 16 v11) 17 q12.1) 18 v13, q12.2.1, q12.2.2))
    (some (put (put (put t10 16 (.tuple #[])) 17 (.tuple #[])) 18 (.tuple #[]), q7.2.1, q7.2.2))
  ).bind fun (q9 : R3) =>
  (pickV (q9.1 15) (.bool true) (q9.1 18)).bind fun v14 =>
  let t16 : Tm := put (put q9.1 19 v14) 20 v14
  (gsel v14 false
    ((ld true 1 (t16 4) q9.2.1).bind fun v17 =>
     (C 46 [v17, t16 2] q9.2.1 (q9.2.2)).bind fun q18 =>
     (un .not q18.1).bind fun v19 =>
     some (put (put (put (put t16 21 v17) 22 (t16 2)) 23 q18.1) 24 v19, q18.2.1, q18.2.2))
    (some (put (put (put (put t16 21 (.tuple #[])) 22 (.tuple #[])) 23 (.tuple #[])) 24 (.tuple #[]), q9.2.1, q9.2.2))
  ).bind fun (q15 : R3) =>
  (pickV (q15.1 20) (.bool true) (q15.1 24)).bind fun v20 =>
  let t22 : Tm := put (put q15.1 25 v20) 26 v20
  (gsel v20 false
    ((fieldA 0 (t22 4)).bind fun v23 =>
     (ld false 1 v23 q15.2.1).bind fun v24 =>
     (lenV false v24).bind fun v25 =>
     (binK .plain .add v25 (.int .i64 2)).bind fun v26 =>
     (binK .plain .gtr v26 (.int .i64 3000)).bind fun v27 =>
     some (put (put (put (put (put t22 27 v23) 28 v24) 29 v25) 30 v26) 31 v27, q15.2.1, q15.2.2))
    (some (put (put (put (put (put t22 27 (.tuple #[])) 28 (.tuple #[])) 29 (.tuple #[])) 30 (.tuple #[])) 31 (.tuple #[]), q15.2.1, q15.2.2))
  ).bind fun (q21 : R3) =>
  (pickV (q21.1 26) (.bool true) (q21.1 31)).bind fun v28 =>
  csel v28
    ((bld [nilS, .int .i64 0, .int .i64 0, .int .i64 0, .int .i64 0, .int .i64 0, .int .i64 0, .int .i64 0] []).bind fun v29 =>
     (st true 8 (q21.1 6) v29 q21.2.1).bind fun H30 =>
     (ld true 8 (q21.1 6) H30).bind fun v31 =>
     iteK ([v31, .bool false].all notTup) <|
     some (.tuple ⟨[v31, .bool false]⟩, H30, q21.2.2 + 3))
    ((fieldA 0 (q21.1 4)).bind fun v32 =>
     (ld false 1 v32 q21.2.1).bind fun v33 =>
     (idxA 5 v33 (q21.1 2)).bind fun v34 =>
     (ld true 5 v34 q21.2.1).bind fun v35 =>
     let H36 := q21.2.1.set (q21.2.2 + 5) (some (.row [.int .i64 0, .int .i64 0, .string ⟨#[]⟩, .int .i64 0, .int .i64 0] 0 true))
     (st true 5 (ptr (q21.2.2 + 5) 0) v35 H36).bind fun H37 =>
     (fieldA 0 (ptr (q21.2.2 + 5) 0)).bind fun v38 =>
     (ld false 1 v38 H37).bind fun v39 =>
     (binK .plain .neq v39 (.int .i64 6)).bind fun v40 =>
     let t42 : Tm := put (put (put (put (put (put (put (put (put (put (put q21.1 32 v28) 34 v32) 35 v33) 36 (q21.1 2)) 37 v34) 38 v35) 8 (ptr (q21.2.2 + 5) 0)) 39 v38) 40 v39) 41 v40) 42 v40
     (gsel v40 false
       ((fieldA 1 (ptr (q21.2.2 + 5) 0)).bind fun v43 =>
        (ld false 1 v43 H37).bind fun v44 =>
        (binK .plain .rem v44 (.int .i64 8)).bind fun v45 =>
        (binK .plain .neq v45 (.int .i64 0)).bind fun v46 =>
        some (put (put (put (put t42 43 v43) 44 v44) 45 v45) 46 v46, H37, q21.2.2 + 25))
       (some (put (put (put (put t42 43 (.tuple #[])) 44 (.tuple #[])) 45 (.tuple #[])) 46 (.tuple #[]), H37, q21.2.2 + 25))
     ).bind fun (q41 : R3) =>
     (pickV (q41.1 42) (.bool true) (q41.1 46)).bind fun v47 =>
     let t49 : Tm := put (put q41.1 47 v47) 48 v47
     (gsel v47 false
       ((fieldA 1 (t49 8)).bind fun v50 =>
        (ld false 1 v50 q41.2.1).bind fun v51 =>
        (binK .plain .quo v51 (.int .i64 8)).bind fun v52 =>
        (fieldA 1 (t49 3)).bind fun v53 =>
        (ld false 1 v53 q41.2.1).bind fun v54 =>
        (lenV false v54).bind fun v55 =>
        (binK .plain .geq v52 v55).bind fun v56 =>
        some (put (put (put (put (put (put (put t49 49 v50) 50 v51) 51 v52) 52 v53) 53 v54) 54 v55) 55 v56, q41.2.1, q41.2.2))
       (some (put (put (put (put (put (put (put t49 49 (.tuple #[])) 50 (.tuple #[])) 51 (.tuple #[])) 52 (.tuple #[])) 53 (.tuple #[])) 54 (.tuple #[])) 55 (.tuple #[]), q41.2.1, q41.2.2))
     ).bind fun (q48 : R3) =>
     (pickV (q48.1 48) (.bool true) (q48.1 55)).bind fun v57 =>
     csel v57
       ((bld [nilS, .int .i64 0, .int .i64 0, .int .i64 0, .int .i64 0, .int .i64 0, .int .i64 0, .int .i64 0] []).bind fun v58 =>
        (st true 8 (q48.1 6) v58 q48.2.1).bind fun H59 =>
        (ld true 8 (q48.1 6) H59).bind fun v60 =>
        iteK ([v60, .bool false].all notTup) <|
        some (.tuple ⟨[v60, .bool false]⟩, H59, q48.2.2 + 3))
       ((ld true 1 (q48.1 4) q48.2.1).bind fun v61 =>
        (C 47 [v61] q48.2.1 (q48.2.2 + 4)).bind fun q62 =>
        let H63 := q62.2.1.set (q48.2.2 + 2) (some (.row [nilS] 0 true))
        (st true 1 (ptr (q48.2.2 + 2) 0) q62.1 H63).bind fun H64 =>
        (bld [.int .i64 0, .int .i64 0, .string ⟨#[]⟩, .int .i64 0, .int .i64 0] [(0, 1, .int .i64 1)]).bind fun v65 =>
        (C 48 [ptr (q48.2.2 + 2) 0, v65] H64 (q62.2.2 + 3)).bind fun q66 =>
        (fieldA 3 (q48.1 8)).bind fun v67 =>
        (ld false 1 v67 q66.2.1).bind fun v68 =>
        (bld [.int .i64 0, .int .i64 0, .string ⟨#[]⟩, .int .i64 0, .int .i64 0] [(0, 1, .int .i64 5), (3, 1, q66.1), (4, 1, v68)]).bind fun v69 =>
        (C 48 [ptr (q48.2.2 + 2) 0, v69] q66.2.1 (q66.2.2 + 6)).bind fun q70 =>
        (ld true 1 (ptr (q48.2.2 + 2) 0) q70.2.1).bind fun v71 =>
        (fieldA 1 (q48.1 8)).bind fun v72 =>
        (ld false 1 v72 q70.2.1).bind fun v73 =>
        (binK .plain .quo v73 (.int .i64 8)).bind fun v74 =>
        (bld [nilS, .int .i64 0, .int .i64 0, .int .i64 0, .int .i64 0, .int .i64 0, .int .i64 0, .int .i64 0] [(0, 1, v71), (1, 1, v74), (2, 1, q66.1), (3, 1, q70.1), (4, 1, q66.1)]).bind fun v75 =>
        (st true 8 (q48.1 6) v75 q70.2.1).bind fun H76 =>
        (ld true 8 (q48.1 6) H76).bind fun v77 =>
        iteK ([v77, .bool true].all notTup) <|
        some (.tuple ⟨[v77, .bool true]⟩, H76, q70.2.2 + 10)))
theorem s10 (C : Calling) (L : Body → Body) (t : Tm) (H : Hp) (n : Nat) : bodyK Try.prog C L Try.f10 t H n = S10 C L t H n := by kernel_rfl
theorem c10 (args : List Value) (H : Hp) (n : Nat) : Call Try.prog 10 args H n = S10 (Call Try.prog) Loop (argsT args) H n := (Call_body Try.func10 args H n).trans (s10 ..)
/-! 11: laws.toCode -/
noncomputable def S11 (C : Calling) (L : Body → Body) (t : Tm) (H : Hp) (n : Nat) : Option (Value × Hp × Nat) :=
  (vcells (t 0)).bind fun c2 =>
  let H1 := H.set (n) (some (.row c2 0 true))
  let H3 := H1.set (n + 1) (some (.row [nilS, nilS, nilS] 0 true))
  let H4 := H3.set (n + 2) (some (.row [nilS, nilS, nilS] 0 true))
  (fieldA 0 (ptr (n) 0)).bind fun v5 =>
  (ld true 1 v5 H4).bind fun v6 =>
  (C 12 [v6] H4 (n + 8)).bind fun q7 =>
  (fieldA 0 (ptr (n + 2) 0)).bind fun v8 =>
  (st true 1 v8 q7.1 q7.2.1).bind fun H9 =>
  (fieldA 1 (ptr (n) 0)).bind fun v10 =>
  (ld false 1 v10 H9).bind fun v11 =>
  (C 49 [v11] H9 (q7.2.2 + 5)).bind fun q12 =>
  (fieldA 1 (ptr (n + 2) 0)).bind fun v13 =>
  (st false 1 v13 q12.1 q12.2.1).bind fun H14 =>
  (fieldA 2 (ptr (n) 0)).bind fun v15 =>
  (ld false 1 v15 H14).bind fun v16 =>
  (C 50 [v16] H14 (q12.2.2 + 5)).bind fun q17 =>
  (fieldA 2 (ptr (n + 2) 0)).bind fun v18 =>
  (st false 1 v18 q17.1 q17.2.1).bind fun H19 =>
  (ld true 3 (ptr (n + 2) 0) H19).bind fun v20 =>
  (st true 3 (ptr (n + 1) 0) v20 H19).bind fun H21 =>
  (ld true 3 (ptr (n + 1) 0) H21).bind fun v22 =>
  some (v22, H21, q17.2.2 + 2)
theorem s11 (C : Calling) (L : Body → Body) (t : Tm) (H : Hp) (n : Nat) : bodyK Try.prog C L Try.f11 t H n = S11 C L t H n := by kernel_rfl
theorem c11 (args : List Value) (H : Hp) (n : Nat) : Call Try.prog 11 args H n = S11 (Call Try.prog) Loop (argsT args) H n := (Call_body Try.func11 args H n).trans (s11 ..)
/-! 12: laws.toPool -/
noncomputable def S12 (C : Calling) (L : Body → Body) (t : Tm) (H : Hp) (n : Nat) : Option (Value × Hp × Nat) :=
  (vcells (t 0)).bind fun c2 =>
  let H1 := H.set (n) (some (.row c2 0 true))
  let H3 := H1.set (n + 1) (some (.row [nilS] 0 true))
  let H4 := H3.set (n + 2) (some (.row [nilS] 0 true))
  (fieldA 0 (ptr (n) 0)).bind fun v5 =>
  (ld false 1 v5 H4).bind fun v6 =>
  (C 51 [v6] H4 (n + 8)).bind fun q7 =>
  (fieldA 0 (ptr (n + 2) 0)).bind fun v8 =>
  (st false 1 v8 q7.1 q7.2.1).bind fun H9 =>
  (ld true 1 (ptr (n + 2) 0) H9).bind fun v10 =>
  (st true 1 (ptr (n + 1) 0) v10 H9).bind fun H11 =>
  (ld true 1 (ptr (n + 1) 0) H11).bind fun v12 =>
  some (v12, H11, q7.2.2 + 2)
theorem s12 (C : Calling) (L : Body → Body) (t : Tm) (H : Hp) (n : Nat) : bodyK Try.prog C L Try.f12 t H n = S12 C L t H n := by kernel_rfl
theorem c12 (args : List Value) (H : Hp) (n : Nat) : Call Try.prog 12 args H n = S12 (Call Try.prog) Loop (argsT args) H n := (Call_body Try.func12 args H n).trans (s12 ..)
/-! 13: impl.MachineOf -/
noncomputable def S13 (C : Calling) (L : Body → Body) (t : Tm) (H : Hp) (n : Nat) : Option (Value × Hp × Nat) :=
  (vcells (t 0)).bind fun c2 =>
  let H1 := H.set (n) (some (.row c2 0 true))
  (vcells (t 1)).bind fun c4 =>
  let H3 := H1.set (n + 1) (some (.row c4 0 true))
  let H5 := H3.set (n + 2) (some (.row [nilS, .int .i64 0, .int .i64 0, .int .i64 0, .int .i64 0, .int .i64 0, .int .i64 0, .int .i64 0] 0 true))
  (ld true 3 (ptr (n) 0) H5).bind fun v6 =>
  (C 23 [v6] H5 (n + 49)).bind fun q7 =>
  (un .not q7.1).bind fun v8 =>
  let t10 : Tm := put (put (put (put (put (put (put (put t 3 (ptr (n) 0)) 4 (ptr (n + 1) 0)) 6 (ptr (n + 2) 0)) 7 (.bool false)) 9 v6) 10 q7.1) 11 v8) 12 v8
  (gsel v8 false
    ((ld true 1 (ptr (n + 1) 0) q7.2.1).bind fun v11 =>
     (C 52 [v11] q7.2.1 (q7.2.2)).bind fun q12 =>
     (un .not q12.1).bind fun v13 =>
     some ⟨put (put (put t10 13 v11) 14 q12.1) 15 v13, q12.2.1, q12.2.2, [⟨4, true, 1, ptr (n + 1) 0, v11⟩, ⟨0, true, 3, ptr (n) 0, v6⟩], [(5, q7.2.1), (1, H5)]⟩)
    (some ⟨put (put (put t10 13 (.tuple #[])) 14 (.tuple #[])) 15 (.tuple #[]), q7.2.1, q7.2.2, [⟨0, true, 3, ptr (n) 0, v6⟩], [(1, H5)]⟩)
  ).bind fun (q9 : R5) =>
  (pickV (q9.t 12) (.bool true) (q9.t 15)).bind fun v14 =>
  let t16 : Tm := put (put q9.t 16 v14) 17 v14
  (gsel v14 false
    ((ld true 1 (t16 4) q9.H).bind fun v17 =>
     askB 511 true 1 (t16 4) v17 q9.hs <|
     (C 53 [v17, t16 2] q9.H (q9.n)).bind fun q18 =>
     asks 2047 q18.2.1 q9.rs <|
     (un .not q18.1).bind fun v19 =>
     some ⟨put (put (put (put t16 18 v17) 19 (t16 2)) 20 q18.1) 21 v19, q18.2.1, q18.2.2, (⟨9, true, 1, t16 4, v17⟩ :: q9.rs), ((11, q9.H) :: q9.hs)⟩)
    (some ⟨put (put (put (put t16 18 (.tuple #[])) 19 (.tuple #[])) 20 (.tuple #[])) 21 (.tuple #[]), q9.H, q9.n, q9.rs, q9.hs⟩)
  ).bind fun (q15 : R5) =>
  (pickV (q15.t 17) (.bool true) (q15.t 21)).bind fun v20 =>
  let t22 : Tm := put (put q15.t 22 v20) 23 v20
  (gsel v20 false
    ((fieldA 0 (t22 4)).bind fun v23 =>
     (ld false 1 v23 q15.H).bind fun v24 =>
     askB 65535 false 1 v23 v24 q15.hs <|
     (idxA 5 v24 (t22 2)).bind fun v25 =>
     (fieldA 0 v25).bind fun v26 =>
     (ld false 1 v26 q15.H).bind fun v27 =>
     askB 1048575 false 1 v26 v27 q15.hs <|
     (binK .plain .neq v27 (.int .i64 6)).bind fun v28 =>
     some ⟨put (put (put (put (put (put (put t22 24 v23) 25 v24) 26 (t22 2)) 27 v25) 28 v26) 29 v27) 30 v28, q15.H, q15.n, (⟨20, false, 1, v26, v27⟩ :: ⟨16, false, 1, v23, v24⟩ :: q15.rs), q15.hs⟩)
    (some ⟨put (put (put (put (put (put (put t22 24 (.tuple #[])) 25 (.tuple #[])) 26 (.tuple #[])) 27 (.tuple #[])) 28 (.tuple #[])) 29 (.tuple #[])) 30 (.tuple #[]), q15.H, q15.n, q15.rs, q15.hs⟩)
  ).bind fun (q21 : R5) =>
  (pickV (q21.t 23) (.bool true) (q21.t 30)).bind fun v29 =>
  let t31 : Tm := put (put q21.t 31 v29) 32 v29
  (gsel v29 false
    ((fieldA 0 (t31 4)).bind fun v32 =>
     (ld false 1 v32 q21.H).bind fun v33 =>
     askB 33554431 false 1 v32 v33 q21.hs <|
     (idxA 5 v33 (t31 2)).bind fun v34 =>
     (fieldA 1 v34).bind fun v35 =>
     (ld false 1 v35 q21.H).bind fun v36 =>
     askB 536870911 false 1 v35 v36 q21.hs <|
     (binK .plain .rem v36 (.int .i64 8)).bind fun v37 =>
     (binK .plain .neq v37 (.int .i64 0)).bind fun v38 =>
     some ⟨put (put (put (put (put (put (put (put t31 33 v32) 34 v33) 35 (t31 2)) 36 v34) 37 v35) 38 v36) 39 v37) 40 v38, q21.H, q21.n, (⟨29, false, 1, v35, v36⟩ :: ⟨25, false, 1, v32, v33⟩ :: q21.rs), q21.hs⟩)
    (some ⟨put (put (put (put (put (put (put (put t31 33 (.tuple #[])) 34 (.tuple #[])) 35 (.tuple #[])) 36 (.tuple #[])) 37 (.tuple #[])) 38 (.tuple #[])) 39 (.tuple #[])) 40 (.tuple #[]), q21.H, q21.n, q21.rs, q21.hs⟩)
  ).bind fun (q30 : R5) =>
  (pickV (q30.t 32) (.bool true) (q30.t 40)).bind fun v39 =>
  let t41 : Tm := put (put q30.t 41 v39) 42 v39
  (gsel v39 false
    ((ld true 3 (t41 3) q30.H).bind fun v42 =>
     askB 17179869183 true 3 (t41 3) v42 q30.hs <|
     (fieldA 0 (t41 4)).bind fun v43 =>
     (ld false 1 v43 q30.H).bind fun v44 =>
     askB 51539607551 false 1 v43 v44 q30.hs <|
     (idxA 5 v44 (t41 2)).bind fun v45 =>
     (fieldA 1 v45).bind fun v46 =>
     (ld false 1 v46 q30.H).bind fun v47 =>
     askB 1082331758591 false 1 v46 v47 q30.hs <|
     (binK .plain .quo v47 (.int .i64 8)).bind fun v48 =>
     (C 54 [v42, v48] q30.H (q30.n)).bind fun q49 =>
     asks 4398046511103 q49.2.1 q30.rs <|
     (un .not q49.1).bind fun v50 =>
     some ⟨put (put (put (put (put (put (put (put (put (put t41 43 v42) 44 v43) 45 v44) 46 (t41 2)) 47 v45) 48 v46) 49 v47) 50 v48) 51 q49.1) 52 v50, q49.2.1, q49.2.2, (⟨40, false, 1, v46, v47⟩ :: ⟨36, false, 1, v43, v44⟩ :: ⟨34, true, 3, t41 3, v42⟩ :: q30.rs), ((42, q30.H) :: q30.hs)⟩)
    (some ⟨put (put (put (put (put (put (put (put (put (put t41 43 (.tuple #[])) 44 (.tuple #[])) 45 (.tuple #[])) 46 (.tuple #[])) 47 (.tuple #[])) 48 (.tuple #[])) 49 (.tuple #[])) 50 (.tuple #[])) 51 (.tuple #[])) 52 (.tuple #[]), q30.H, q30.n, q30.rs, q30.hs⟩)
  ).bind fun (q40 : R5) =>
  (pickV (q40.t 42) (.bool true) (q40.t 52)).bind fun v51 =>
  csel v51
    ((bld [nilS, .int .i64 0, .int .i64 0, .int .i64 0, .int .i64 0, .int .i64 0, .int .i64 0, .int .i64 0] []).bind fun v52 =>
     (st true 8 (q40.t 6) v52 q40.H).bind fun H53 =>
     (ld true 8 (q40.t 6) H53).bind fun v54 =>
     iteK ([v54, .bool false].all notTup) <|
     some (.tuple ⟨[v54, .bool false]⟩, H53, q40.n + 3))
    ((ld true 1 (q40.t 4) q40.H).bind fun v55 =>
     (C 55 [v55] q40.H (q40.n + 12)).bind fun q56 =>
     (fieldA 0 (q40.t 4)).bind fun v57 =>
     (ld false 1 v57 q56.2.1).bind fun v58 =>
     ask (ld false 1 v57 q40.H = some v58) <|
     (idxA 5 v58 (q40.t 2)).bind fun v59 =>
     (fieldA 1 v59).bind fun v60 =>
     (ld false 1 v60 q56.2.1).bind fun v61 =>
     ask (ld false 1 v60 q40.H = some v61) <|
     (binK .plain .quo v61 (.int .i64 8)).bind fun v62 =>
     (bld [nilS, .int .i64 0, .int .i64 0, .int .i64 0, .int .i64 0, .int .i64 0, .int .i64 0, .int .i64 0] [(0, 1, q56.1), (1, 1, v62)]).bind fun v63 =>
     let H64 := q56.2.1.set (q40.n + 10) (some (.row [nilS, .int .i64 0, .int .i64 0, .int .i64 0, .int .i64 0, .int .i64 0, .int .i64 0, .int .i64 0] 0 true))
     (st true 8 (ptr (q40.n + 10) 0) v63 H64).bind fun H65 =>
     (fieldA 0 (ptr (q40.n + 10) 0)).bind fun v66 =>
     (bld [.int .i64 0, .int .i64 0, .string ⟨#[]⟩, .int .i64 0, .int .i64 0] [(0, 1, .int .i64 1)]).bind fun v67 =>
     (C 56 [v66, v67] H65 (q56.2.2 + 5)).bind fun q68 =>
     (fieldA 2 (ptr (q40.n + 10) 0)).bind fun v69 =>
     (st false 1 v69 q68.1 q68.2.1).bind fun H70 =>
     (fieldA 2 (ptr (q40.n + 10) 0)).bind fun v71 =>
     (ld false 1 v71 H70).bind fun v72 =>
     (fieldA 4 (ptr (q40.n + 10) 0)).bind fun v73 =>
     (st false 1 v73 v72 H70).bind fun H74 =>
     (fieldA 0 (ptr (q40.n + 10) 0)).bind fun v75 =>
     (fieldA 2 (ptr (q40.n + 10) 0)).bind fun v76 =>
     (ld false 1 v76 H74).bind fun v77 =>
     (fieldA 0 (q40.t 4)).bind fun v78 =>
     (ld false 1 v78 H74).bind fun v79 =>
     (idxA 5 v79 (q40.t 2)).bind fun v80 =>
     (fieldA 3 v80).bind fun v81 =>
     (ld false 1 v81 H74).bind fun v82 =>
     (C 57 [v75, v77, v82] H74 (q68.2.2 + 16)).bind fun q83 =>
     (fieldA 3 (ptr (q40.n + 10) 0)).bind fun v84 =>
     (st false 1 v84 q83.1 q83.2.1).bind fun H85 =>
     (fieldA 0 (ptr (q40.n + 10) 0)).bind fun v86 =>
     (fieldA 0 v86).bind fun v87 =>
     (ld false 1 v87 H85).bind fun v88 =>
     (lenV false v88).bind fun v89 =>
     (binK .plain .gtr v89 (.int .i64 3000)).bind fun v90 =>
     csel v90
       ((bld [nilS, .int .i64 0, .int .i64 0, .int .i64 0, .int .i64 0, .int .i64 0, .int .i64 0, .int .i64 0] []).bind fun v91 =>
        (st true 8 (q40.t 6) v91 H85).bind fun H92 =>
        (ld true 8 (q40.t 6) H92).bind fun v93 =>
        iteK ([v93, .bool false].all notTup) <|
        some (.tuple ⟨[v93, .bool false]⟩, H92, q83.2.2 + 8))
       ((ld true 8 (ptr (q40.n + 10) 0) H85).bind fun v94 =>
        (st true 8 (q40.t 6) v94 H85).bind fun H95 =>
        (ld true 8 (q40.t 6) H95).bind fun v96 =>
        iteK ([v96, .bool true].all notTup) <|
        some (.tuple ⟨[v96, .bool true]⟩, H95, q83.2.2 + 8)))
theorem s13 (C : Calling) (L : Body → Body) (t : Tm) (H : Hp) (n : Nat) : bodyK Try.prog C L Try.f13 t H n = S13 C L t H n := by kernel_rfl
theorem c13 (args : List Value) (H : Hp) (n : Nat) : Call Try.prog 13 args H n = S13 (Call Try.prog) Loop (argsT args) H n := (Call_body Try.func13 args H n).trans (s13 ..)
/-! 14: laws.eqMachine -/
noncomputable def S14 (C : Calling) (L : Body → Body) (t : Tm) (H : Hp) (n : Nat) : Option (Value × Hp × Nat) :=
  (vcells (t 0)).bind fun c2 =>
  let H1 := H.set (n) (some (.row c2 0 true))
  (vcells (t 1)).bind fun c4 =>
  let H3 := H1.set (n + 1) (some (.row c4 0 true))
  (fieldA 0 (ptr (n) 0)).bind fun v5 =>
  (ld true 1 v5 H3).bind fun v6 =>
  (fieldA 0 (ptr (n + 1) 0)).bind fun v7 =>
  (ld true 1 v7 H3).bind fun v8 =>
  (C 16 [v6, v8] H3 (n + 9)).bind fun q9 =>
  (un .not q9.1).bind fun v10 =>
  csel v10
    (some (.bool false, q9.2.1, q9.2.2 + 1))
    ((fieldA 1 (ptr (n) 0)).bind fun v11 =>
     (ld false 1 v11 q9.2.1).bind fun v12 =>
     (fieldA 1 (ptr (n + 1) 0)).bind fun v13 =>
     (ld false 1 v13 q9.2.1).bind fun v14 =>
     (binK .plain .neq v12 v14).bind fun v15 =>
     csel v15
       (some (.bool false, q9.2.1, q9.2.2 + 6))
       ((fieldA 2 (ptr (n) 0)).bind fun v16 =>
        (ld false 1 v16 q9.2.1).bind fun v17 =>
        (fieldA 2 (ptr (n + 1) 0)).bind fun v18 =>
        (ld false 1 v18 q9.2.1).bind fun v19 =>
        (binK .plain .neq v17 v19).bind fun v20 =>
        csel v20
          (some (.bool false, q9.2.1, q9.2.2 + 11))
          ((fieldA 3 (ptr (n) 0)).bind fun v21 =>
           (ld false 1 v21 q9.2.1).bind fun v22 =>
           (fieldA 3 (ptr (n + 1) 0)).bind fun v23 =>
           (ld false 1 v23 q9.2.1).bind fun v24 =>
           (binK .plain .neq v22 v24).bind fun v25 =>
           csel v25
             (some (.bool false, q9.2.1, q9.2.2 + 16))
             ((fieldA 4 (ptr (n) 0)).bind fun v26 =>
              (ld false 1 v26 q9.2.1).bind fun v27 =>
              (fieldA 4 (ptr (n + 1) 0)).bind fun v28 =>
              (ld false 1 v28 q9.2.1).bind fun v29 =>
              (binK .plain .neq v27 v29).bind fun v30 =>
              csel v30
                (some (.bool false, q9.2.1, q9.2.2 + 21))
                ((fieldA 5 (ptr (n) 0)).bind fun v31 =>
                 (ld false 1 v31 q9.2.1).bind fun v32 =>
                 (fieldA 5 (ptr (n + 1) 0)).bind fun v33 =>
                 (ld false 1 v33 q9.2.1).bind fun v34 =>
                 (binK .plain .neq v32 v34).bind fun v35 =>
                 csel v35
                   (some (.bool false, q9.2.1, q9.2.2 + 26))
                   ((fieldA 6 (ptr (n) 0)).bind fun v36 =>
                    (ld false 1 v36 q9.2.1).bind fun v37 =>
                    (fieldA 6 (ptr (n + 1) 0)).bind fun v38 =>
                    (ld false 1 v38 q9.2.1).bind fun v39 =>
                    (binK .plain .neq v37 v39).bind fun v40 =>
                    csel v40
                      (some (.bool false, q9.2.1, q9.2.2 + 31))
                      ((fieldA 7 (ptr (n) 0)).bind fun v41 =>
                       (ld false 1 v41 q9.2.1).bind fun v42 =>
                       (fieldA 7 (ptr (n + 1) 0)).bind fun v43 =>
                       (ld false 1 v43 q9.2.1).bind fun v44 =>
                       (binK .plain .neq v42 v44).bind fun v45 =>
                       csel v45
                         (some (.bool false, q9.2.1, q9.2.2 + 36))
                         (some (.bool true, q9.2.1, q9.2.2 + 36)))))))))
theorem s14 (C : Calling) (L : Body → Body) (t : Tm) (H : Hp) (n : Nat) : bodyK Try.prog C L Try.f14 t H n = S14 C L t H n := by kernel_rfl
theorem c14 (args : List Value) (H : Hp) (n : Nat) : Call Try.prog 14 args H n = S14 (Call Try.prog) Loop (argsT args) H n := (Call_body Try.func14 args H n).trans (s14 ..)
/-! 15: laws.eqCode -/
noncomputable def S15 (C : Calling) (L : Body → Body) (t : Tm) (H : Hp) (n : Nat) : Option (Value × Hp × Nat) :=
  (vcells (t 0)).bind fun c2 =>
  let H1 := H.set (n) (some (.row c2 0 true))
  (vcells (t 1)).bind fun c4 =>
  let H3 := H1.set (n + 1) (some (.row c4 0 true))
  (fieldA 0 (ptr (n) 0)).bind fun v5 =>
  (ld true 1 v5 H3).bind fun v6 =>
  (fieldA 0 (ptr (n + 1) 0)).bind fun v7 =>
  (ld true 1 v7 H3).bind fun v8 =>
  (C 16 [v6, v8] H3 (n + 9)).bind fun q9 =>
  (un .not q9.1).bind fun v10 =>
  csel v10
    (some (.bool false, q9.2.1, q9.2.2 + 1))
    ((fieldA 1 (ptr (n) 0)).bind fun v11 =>
     (ld false 1 v11 q9.2.1).bind fun v12 =>
     (fieldA 1 (ptr (n + 1) 0)).bind fun v13 =>
     (ld false 1 v13 q9.2.1).bind fun v14 =>
     (C 58 [v12, v14] q9.2.1 (q9.2.2 + 6)).bind fun q15 =>
     (un .not q15.1).bind fun v16 =>
     csel v16
       (some (.bool false, q15.2.1, q15.2.2 + 1))
       ((fieldA 2 (ptr (n) 0)).bind fun v17 =>
        (ld false 1 v17 q15.2.1).bind fun v18 =>
        (fieldA 2 (ptr (n + 1) 0)).bind fun v19 =>
        (ld false 1 v19 q15.2.1).bind fun v20 =>
        (C 59 [v18, v20] q15.2.1 (q15.2.2 + 6)).bind fun q21 =>
        (un .not q21.1).bind fun v22 =>
        csel v22
          (some (.bool false, q21.2.1, q21.2.2 + 1))
          (some (.bool true, q21.2.1, q21.2.2 + 1))))
theorem s15 (C : Calling) (L : Body → Body) (t : Tm) (H : Hp) (n : Nat) : bodyK Try.prog C L Try.f15 t H n = S15 C L t H n := by kernel_rfl
theorem c15 (args : List Value) (H : Hp) (n : Nat) : Call Try.prog 15 args H n = S15 (Call Try.prog) Loop (argsT args) H n := (Call_body Try.func15 args H n).trans (s15 ..)
/-! 16: laws.eqPool -/
noncomputable def S16 (C : Calling) (L : Body → Body) (t : Tm) (H : Hp) (n : Nat) : Option (Value × Hp × Nat) :=
  (vcells (t 0)).bind fun c2 =>
  let H1 := H.set (n) (some (.row c2 0 true))
  (vcells (t 1)).bind fun c4 =>
  let H3 := H1.set (n + 1) (some (.row c4 0 true))
  (fieldA 0 (ptr (n) 0)).bind fun v5 =>
  (ld false 1 v5 H3).bind fun v6 =>
  (fieldA 0 (ptr (n + 1) 0)).bind fun v7 =>
  (ld false 1 v7 H3).bind fun v8 =>
  (C 60 [v6, v8] H3 (n + 9)).bind fun q9 =>
  (un .not q9.1).bind fun v10 =>
  csel v10
    (some (.bool false, q9.2.1, q9.2.2 + 1))
    (some (.bool true, q9.2.1, q9.2.2 + 1))
theorem s16 (C : Calling) (L : Body → Body) (t : Tm) (H : Hp) (n : Nat) : bodyK Try.prog C L Try.f16 t H n = S16 C L t H n := by kernel_rfl
theorem c16 (args : List Value) (H : Hp) (n : Nat) : Call Try.prog 16 args H n = S16 (Call Try.prog) Loop (argsT args) H n := (Call_body Try.func16 args H n).trans (s16 ..)
/-! 17: laws.markCode -/
noncomputable def S17 (C : Calling) (L : Body → Body) (t : Tm) (H : Hp) (n : Nat) : Option (Value × Hp × Nat) :=
  (vcells (t 0)).bind fun c2 =>
  let H1 := H.set (n) (some (.row c2 0 true))
  (fieldA 0 (ptr (n) 0)).bind fun v3 =>
  (ld true 1 v3 H1).bind fun v4 =>
  (C 18 [v4, t 1] H1 (n + 7)).bind fun q5 =>
  (fieldA 1 (ptr (n) 0)).bind fun v6 =>
  (ld false 1 v6 q5.2.1).bind fun v7 =>
  (C 61 [v7, q5.1] q5.2.1 (q5.2.2 + 5)).bind fun q8 =>
  (fieldA 2 (ptr (n) 0)).bind fun v9 =>
  (ld false 1 v9 q8.2.1).bind fun v10 =>
  (C 62 [v10, q8.1] q8.2.1 (q8.2.2 + 5)).bind fun q11 =>
  some (q11.1, q11.2.1, q11.2.2 + 2)
theorem s17 (C : Calling) (L : Body → Body) (t : Tm) (H : Hp) (n : Nat) : bodyK Try.prog C L Try.f17 t H n = S17 C L t H n := by kernel_rfl
theorem c17 (args : List Value) (H : Hp) (n : Nat) : Call Try.prog 17 args H n = S17 (Call Try.prog) Loop (argsT args) H n := (Call_body Try.func17 args H n).trans (s17 ..)
/-! 18: laws.markPool -/
noncomputable def S18 (C : Calling) (L : Body → Body) (t : Tm) (H : Hp) (n : Nat) : Option (Value × Hp × Nat) :=
  (vcells (t 0)).bind fun c2 =>
  let H1 := H.set (n) (some (.row c2 0 true))
  (fieldA 0 (ptr (n) 0)).bind fun v3 =>
  (ld false 1 v3 H1).bind fun v4 =>
  (C 63 [v4, t 1] H1 (n + 7)).bind fun q5 =>
  some (q5.1, q5.2.1, q5.2.2 + 2)
theorem s18 (C : Calling) (L : Body → Body) (t : Tm) (H : Hp) (n : Nat) : bodyK Try.prog C L Try.f18 t H n = S18 C L t H n := by kernel_rfl
theorem c18 (args : List Value) (H : Hp) (n : Nat) : Call Try.prog 18 args H n = S18 (Call Try.prog) Loop (argsT args) H n := (Call_body Try.func18 args H n).trans (s18 ..)
/-! 19: laws.markMachine -/
noncomputable def S19 (C : Calling) (L : Body → Body) (t : Tm) (H : Hp) (n : Nat) : Option (Value × Hp × Nat) :=
  (vcells (t 0)).bind fun c2 =>
  let H1 := H.set (n) (some (.row c2 0 true))
  (fieldA 0 (ptr (n) 0)).bind fun v3 =>
  (ld true 1 v3 H1).bind fun v4 =>
  (C 18 [v4, t 1] H1 (n + 7)).bind fun q5 =>
  some (q5.1, q5.2.1, q5.2.2 + 2)
theorem s19 (C : Calling) (L : Body → Body) (t : Tm) (H : Hp) (n : Nat) : bodyK Try.prog C L Try.f19 t H n = S19 C L t H n := by kernel_rfl
theorem c19 (args : List Value) (H : Hp) (n : Nat) : Call Try.prog 19 args H n = S19 (Call Try.prog) Loop (argsT args) H n := (Call_body Try.func19 args H n).trans (s19 ..)
/-! 20: laws.heldMachine -/
noncomputable def S20 (C : Calling) (L : Body → Body) (t : Tm) (H : Hp) (n : Nat) : Option (Value × Hp × Nat) :=
  (vcells (t 0)).bind fun c2 =>
  let H1 := H.set (n) (some (.row c2 0 true))
  (fieldA 0 (ptr (n) 0)).bind fun v3 =>
  (ld true 1 v3 H1).bind fun v4 =>
  (C 64 [v4, t 1] H1 (n + 7)).bind fun q5 =>
  (binK .plain .lss q5.1 (.int .i64 0)).bind fun v6 =>
  csel v6
    (some (.int .i64 (-1), q5.2.1, q5.2.2 + 3))
    (some (q5.1, q5.2.1, q5.2.2 + 4))
theorem s20 (C : Calling) (L : Body → Body) (t : Tm) (H : Hp) (n : Nat) : bodyK Try.prog C L Try.f20 t H n = S20 C L t H n := by kernel_rfl
theorem c20 (args : List Value) (H : Hp) (n : Nat) : Call Try.prog 20 args H n = S20 (Call Try.prog) Loop (argsT args) H n := (Call_body Try.func20 args H n).trans (s20 ..)
/-! 23: impl.CodeOk -/
noncomputable def S23L1 (C : Calling) (L : Body → Body) : Body := fun t H n =>
  (binK .plain .lss (t 36) (t 35)).bind fun v35 =>
  csel v35
    ((idxA 3 (t 34) (t 36)).bind fun v36 =>
     (ld true 3 v36 H).bind fun v37 =>
     let H38 := H.set (n + 4) (some (.row [.string ⟨#[]⟩, .int .i64 0, .int .i64 0] 0 true))
     (st true 3 (ptr (n + 4) 0) v37 H38).bind fun H39 =>
     (fieldA 0 (ptr (n + 4) 0)).bind fun v40 =>
     (ld false 1 v40 H39).bind fun v41 =>
     (C 69 [v41] H39 (n + 35)).bind fun q42 =>
     (un .not q42.1).bind fun v43 =>
     let t45 : Tm := put (put (put (put (put (put (put (put (put (put (put t 37 v35) 38 (t 36)) 39 v36) 40 v37) 5 (ptr (n + 4) 0)) 4 (t 36)) 41 v40) 42 v41) 43 q42.1) 44 v43) 45 v43
     (gsel v43 false
       ((ld true 3 (t45 1) q42.2.1).bind fun v46 =>
        (fieldA 0 (ptr (n + 4) 0)).bind fun v47 =>
        (ld false 1 v47 q42.2.1).bind fun v48 =>
        (C 24 [v46, v48] q42.2.1 (q42.2.2)).bind fun q49 =>
        (binK .plain .neq q49.1 (t 36)).bind fun v50 =>
        some (put (put (put (put (put (put t45 46 v46) 47 v47) 48 v48) 49 q49.1) 50 (t 36)) 51 v50, q49.2.1, q49.2.2))
       (some (put (put (put (put (put (put t45 46 (.tuple #[])) 47 (.tuple #[])) 48 (.tuple #[])) 49 (.tuple #[])) 50 (.tuple #[])) 51 (.tuple #[]), q42.2.1, q42.2.2))
     ).bind fun (q44 : R3) =>
     (pickV (q44.1 45) (.bool true) (q44.1 51)).bind fun v51 =>
     let t53 : Tm := put (put q44.1 52 v51) 53 v51
     (gsel v51 false
       ((fieldA 1 (t53 5)).bind fun v54 =>
        (ld false 1 v54 q44.2.1).bind fun v55 =>
        (fieldA 1 (t53 1)).bind fun v56 =>
        (ld false 1 v56 q44.2.1).bind fun v57 =>
        (lenV false v57).bind fun v58 =>
        (binK .plain .sub v58 (.int .i64 1)).bind fun v59 =>
        (C 70 [v55, .int .i64 0, v59] q44.2.1 (q44.2.2)).bind fun q60 =>
        (un .not q60.1).bind fun v61 =>
        some (put (put (put (put (put (put (put (put t53 54 v54) 55 v55) 56 v56) 57 v57) 58 v58) 59 v59) 60 q60.1) 61 v61, q60.2.1, q60.2.2))
       (some (put (put (put (put (put (put (put (put t53 54 (.tuple #[])) 55 (.tuple #[])) 56 (.tuple #[])) 57 (.tuple #[])) 58 (.tuple #[])) 59 (.tuple #[])) 60 (.tuple #[])) 61 (.tuple #[]), q44.2.1, q44.2.2))
     ).bind fun (q52 : R3) =>
     (pickV (q52.1 53) (.bool true) (q52.1 61)).bind fun v62 =>
     let t64 : Tm := put (put q52.1 62 v62) 63 v62
     (gsel v62 false
       ((fieldA 2 (t64 5)).bind fun v65 =>
        (ld false 1 v65 q52.2.1).bind fun v66 =>
        (C 70 [v66, .int .i64 0, .int .i64 4] q52.2.1 (q52.2.2)).bind fun q67 =>
        (un .not q67.1).bind fun v68 =>
        some (put (put (put (put t64 64 v65) 65 v66) 66 q67.1) 67 v68, q67.2.1, q67.2.2))
       (some (put (put (put (put t64 64 (.tuple #[])) 65 (.tuple #[])) 66 (.tuple #[])) 67 (.tuple #[]), q52.2.1, q52.2.2))
     ).bind fun (q63 : R3) =>
     (pickV (q63.1 63) (.bool true) (q63.1 67)).bind fun v69 =>
     csel v69
       (some ⟨.ret, put (put q63.1 68 v69) 2 (.bool false), q63.2.1, q63.2.2 + 1⟩)
       ((binK .plain .add (q63.1 36) (.int .i64 1)).bind fun v70 =>
        some ⟨.normal, put (put (put q63.1 68 v69) 69 v70) 36 v70, q63.2.1, q63.2.2 + 2⟩))
    (some ⟨(.exit 2), put t 37 v35, H, n + 1⟩)
noncomputable def S23L0 (C : Calling) (L : Body → Body) : Body := fun t H n =>
  (binK .plain .lss (t 25) (t 24)).bind fun v25 =>
  csel v25
    ((ld true 3 (t 1) H).bind fun v26 =>
     (C 68 [v26, t 25] H (n + 7)).bind fun q27 =>
     (un .not q27.1).bind fun v28 =>
     csel v28
       (some ⟨.ret, put (put (put (put (put (put (put (put t 26 v25) 27 (t 25)) 3 (t 25)) 28 v26) 29 (t 25)) 30 q27.1) 31 v28) 2 (.bool false), q27.2.1, q27.2.2 + 1⟩)
       ((binK .plain .add (t 25) (.int .i64 1)).bind fun v29 =>
        some ⟨.normal, put (put (put (put (put (put (put (put (put t 26 v25) 27 (t 25)) 3 (t 25)) 28 v26) 29 (t 25)) 30 q27.1) 31 v28) 32 v29) 25 v29, q27.2.1, q27.2.2 + 2⟩))
    (some ⟨(.exit 0), put t 26 v25, H, n + 1⟩)
noncomputable def S23 (C : Calling) (L : Body → Body) (t : Tm) (H : Hp) (n : Nat) : Option (Value × Hp × Nat) :=
  (vcells (t 0)).bind fun c2 =>
  let H1 := H.set (n) (some (.row c2 0 true))
  (fieldA 0 (ptr (n) 0)).bind fun v3 =>
  (ld true 1 v3 H1).bind fun v4 =>
  (C 52 [v4] H1 (n + 18)).bind fun q5 =>
  (un .not q5.1).bind fun v6 =>
  let t8 : Tm := put (put (put (put (put (put (put t 1 (ptr (n) 0)) 2 (.bool false)) 6 v3) 7 v4) 8 q5.1) 9 v6) 10 v6
  (gsel v6 false
    ((fieldA 1 (ptr (n) 0)).bind fun v9 =>
     (ld false 1 v9 q5.2.1).bind fun v10 =>
     (lenV false v10).bind fun v11 =>
     (binK .plain .gtr v11 (.int .i64 400)).bind fun v12 =>
     some (put (put (put (put t8 11 v9) 12 v10) 13 v11) 14 v12, q5.2.1, q5.2.2))
    (some (put (put (put (put t8 11 (.tuple #[])) 12 (.tuple #[])) 13 (.tuple #[])) 14 (.tuple #[]), q5.2.1, q5.2.2))
  ).bind fun (q7 : R3) =>
  (pickV (q7.1 10) (.bool true) (q7.1 14)).bind fun v13 =>
  let t15 : Tm := put (put q7.1 15 v13) 16 v13
  (gsel v13 false
    ((fieldA 2 (t15 1)).bind fun v16 =>
     (ld false 1 v16 q7.2.1).bind fun v17 =>
     (lenV false v17).bind fun v18 =>
     (binK .plain .gtr v18 (.int .i64 20)).bind fun v19 =>
     some (put (put (put (put t15 17 v16) 18 v17) 19 v18) 20 v19, q7.2.1, q7.2.2))
    (some (put (put (put (put t15 17 (.tuple #[])) 18 (.tuple #[])) 19 (.tuple #[])) 20 (.tuple #[]), q7.2.1, q7.2.2))
  ).bind fun (q14 : R3) =>
  (pickV (q14.1 16) (.bool true) (q14.1 20)).bind fun v20 =>
  csel v20
    (some (.bool false, q14.2.1, q14.2.2 + 1))
    ((fieldA 1 (q14.1 1)).bind fun v21 =>
     (ld false 1 v21 q14.2.1).bind fun v22 =>
     (lenV false v22).bind fun v23 =>
     (L (S23L0 C L) (put (put (put (put (put q14.1 21 v20) 22 v21) 23 v22) 24 v23) 25 (.int .i64 0)) q14.2.1 (q14.2.2 + 4)).bind fun (o24 : Out) =>
     let o30 := outOf 0 o24
     thenK o30
       ((fieldA 2 (o30.t 1)).bind fun v31 =>
        (ld false 1 v31 o30.H).bind fun v32 =>
        (lenV false v32).bind fun v33 =>
        (L (S23L1 C L) (put (put (put (put o30.t 33 v31) 34 v32) 35 v33) 36 (.int .i64 0)) o30.H (o30.n + 4)).bind fun (o34 : Out) =>
        let o71 := outOf 2 o34
        thenK o71
          (some (.bool true, o71.H, o71.n + 1))
          (finE o71.e
             (some (o71.t 2, o71.H, o71.n))))
       (finE o30.e
          (some (o30.t 2, o30.H, o30.n))))
theorem s23 (C : Calling) (L : Body → Body) (t : Tm) (H : Hp) (n : Nat) : bodyK Try.prog C L Try.f23 t H n = S23 C L t H n := by kernel_rfl
theorem c23 (args : List Value) (H : Hp) (n : Nat) : Call Try.prog 23 args H n = S23 (Call Try.prog) Loop (argsT args) H n := (Call_body Try.func23 args H n).trans (s23 ..)
/-! 24: impl.DefOf -/
noncomputable def S24 (C : Calling) (L : Body → Body) (t : Tm) (H : Hp) (n : Nat) : Option (Value × Hp × Nat) :=
  (vcells (t 0)).bind fun c2 =>
  let H1 := H.set (n) (some (.row c2 0 true))
  (vcells (t 1)).bind fun c4 =>
  let H3 := H1.set (n + 1) (some (.row c4 0 true))
  (fieldA 2 (ptr (n) 0)).bind fun v5 =>
  (ld false 1 v5 H3).bind fun v6 =>
  iteK ([ptr (n + 1) 0].all ptrV) <|
  (C 71 [v6, .func (.func 72) #[] ⟨[ptr (n + 1) 0]⟩] H3 (n + 8)).bind fun q7 =>
  some (q7.1, q7.2.1, q7.2.2)
theorem s24 (C : Calling) (L : Body → Body) (t : Tm) (H : Hp) (n : Nat) : bodyK Try.prog C L Try.f24 t H n = S24 C L t H n := by kernel_rfl
theorem c24 (args : List Value) (H : Hp) (n : Nat) : Call Try.prog 24 args H n = S24 (Call Try.prog) Loop (argsT args) H n := (Call_body Try.func24 args H n).trans (s24 ..)
/-! 25: spec.CodeOk -/
noncomputable def S25L1 (C : Calling) (L : Body → Body) : Body := fun t H n =>
  (fieldA 2 (t 1)).bind fun v32 =>
  (ld false 1 v32 H).bind fun v33 =>
  (lenV false v33).bind fun v34 =>
  (binK .plain .lss (t 4) v34).bind fun v35 =>
  csel v35
    ((fieldA 2 (t 1)).bind fun v36 =>
     (ld false 1 v36 H).bind fun v37 =>
     (idxA 3 v37 (t 4)).bind fun v38 =>
     (ld true 3 v38 H).bind fun v39 =>
     let H40 := H.set (n + 10) (some (.row [.string ⟨#[]⟩, .int .i64 0, .int .i64 0] 0 true))
     (st true 3 (ptr (n + 10) 0) v39 H40).bind fun H41 =>
     (fieldA 0 (ptr (n + 10) 0)).bind fun v42 =>
     (ld false 1 v42 H41).bind fun v43 =>
     (C 74 [v43] H41 (n + 40)).bind fun q44 =>
     (un .not q44.1).bind fun v45 =>
     let t47 : Tm := put (put (put (put (put (put (put (put (put (put (put (put (put (put (put (put t 33 (t 4)) 34 v32) 35 v33) 36 v34) 37 v35) 40 v36) 41 v37) 42 (t 4)) 43 v38) 44 v39) 5 (ptr (n + 10) 0)) 45 v42) 46 v43) 47 q44.1) 48 v45) 49 v45
     (gsel v45 false
       ((ld true 3 (t47 1) q44.2.1).bind fun v48 =>
        (fieldA 0 (ptr (n + 10) 0)).bind fun v49 =>
        (ld false 1 v49 q44.2.1).bind fun v50 =>
        (C 26 [v48, v50] q44.2.1 (q44.2.2)).bind fun q51 =>
        (binK .plain .neq q51.1 (t47 4)).bind fun v52 =>
        some (put (put (put (put (put (put t47 50 v48) 51 v49) 52 v50) 53 q51.1) 54 (t47 4)) 55 v52, q51.2.1, q51.2.2))
       (some (put (put (put (put (put (put t47 50 (.tuple #[])) 51 (.tuple #[])) 52 (.tuple #[])) 53 (.tuple #[])) 54 (.tuple #[])) 55 (.tuple #[]), q44.2.1, q44.2.2))
     ).bind fun (q46 : R3) =>
     (pickV (q46.1 49) (.bool true) (q46.1 55)).bind fun v53 =>
     let t55 : Tm := put (put q46.1 56 v53) 57 v53
     (gsel v53 false
       ((fieldA 1 (t55 5)).bind fun v56 =>
        (ld false 1 v56 q46.2.1).bind fun v57 =>
        (fieldA 1 (t55 1)).bind fun v58 =>
        (ld false 1 v58 q46.2.1).bind fun v59 =>
        (lenV false v59).bind fun v60 =>
        (binK .plain .sub v60 (.int .i64 1)).bind fun v61 =>
        (C 75 [v57, .int .i64 0, v61] q46.2.1 (q46.2.2)).bind fun q62 =>
        (un .not q62.1).bind fun v63 =>
        some (put (put (put (put (put (put (put (put t55 58 v56) 59 v57) 60 v58) 61 v59) 62 v60) 63 v61) 64 q62.1) 65 v63, q62.2.1, q62.2.2))
       (some (put (put (put (put (put (put (put (put t55 58 (.tuple #[])) 59 (.tuple #[])) 60 (.tuple #[])) 61 (.tuple #[])) 62 (.tuple #[])) 63 (.tuple #[])) 64 (.tuple #[])) 65 (.tuple #[]), q46.2.1, q46.2.2))
     ).bind fun (q54 : R3) =>
     (pickV (q54.1 57) (.bool true) (q54.1 65)).bind fun v64 =>
     let t66 : Tm := put (put q54.1 66 v64) 67 v64
     (gsel v64 false
       ((fieldA 2 (t66 5)).bind fun v67 =>
        (ld false 1 v67 q54.2.1).bind fun v68 =>
        (C 75 [v68, .int .i64 0, .int .i64 4] q54.2.1 (q54.2.2)).bind fun q69 =>
        (un .not q69.1).bind fun v70 =>
        some (put (put (put (put t66 68 v67) 69 v68) 70 q69.1) 71 v70, q69.2.1, q69.2.2))
       (some (put (put (put (put t66 68 (.tuple #[])) 69 (.tuple #[])) 70 (.tuple #[])) 71 (.tuple #[]), q54.2.1, q54.2.2))
     ).bind fun (q65 : R3) =>
     (pickV (q65.1 67) (.bool true) (q65.1 71)).bind fun v71 =>
     csel v71
       (some ⟨.ret, put (put q65.1 72 v71) 2 (.bool false), q65.2.1, q65.2.2 + 1⟩)
       ((binK .plain .add (q65.1 4) (.int .i64 1)).bind fun v72 =>
        some ⟨.normal, put (put (put (put q65.1 72 v71) 38 (q65.1 4)) 39 v72) 4 v72, q65.2.1, q65.2.2 + 3⟩))
    (some ⟨(.exit 2), put (put (put (put (put t 33 (t 4)) 34 v32) 35 v33) 36 v34) 37 v35, H, n + 5⟩)
noncomputable def S25L0 (C : Calling) (L : Body → Body) : Body := fun t H n =>
  (fieldA 1 (t 1)).bind fun v22 =>
  (ld false 1 v22 H).bind fun v23 =>
  (lenV false v23).bind fun v24 =>
  (binK .plain .lss (t 3) v24).bind fun v25 =>
  csel v25
    ((ld true 3 (t 1) H).bind fun v26 =>
     (C 73 [v26, t 3] H (n + 9)).bind fun q27 =>
     (un .not q27.1).bind fun v28 =>
     csel v28
       (some ⟨.ret, put (put (put (put (put (put (put (put (put (put t 22 (t 3)) 23 v22) 24 v23) 25 v24) 26 v25) 29 v26) 30 (t 3)) 31 q27.1) 32 v28) 2 (.bool false), q27.2.1, q27.2.2 + 1⟩)
       ((binK .plain .add (t 3) (.int .i64 1)).bind fun v29 =>
        some ⟨.normal, put (put (put (put (put (put (put (put (put (put (put (put t 22 (t 3)) 23 v22) 24 v23) 25 v24) 26 v25) 29 v26) 30 (t 3)) 31 q27.1) 32 v28) 27 (t 3)) 28 v29) 3 v29, q27.2.1, q27.2.2 + 3⟩))
    (some ⟨(.exit 0), put (put (put (put (put t 22 (t 3)) 23 v22) 24 v23) 25 v24) 26 v25, H, n + 5⟩)
noncomputable def S25 (C : Calling) (L : Body → Body) (t : Tm) (H : Hp) (n : Nat) : Option (Value × Hp × Nat) :=
  (vcells (t 0)).bind fun c2 =>
  let H1 := H.set (n) (some (.row c2 0 true))
  (fieldA 0 (ptr (n) 0)).bind fun v3 =>
  (ld true 1 v3 H1).bind fun v4 =>
  (C 45 [v4] H1 (n + 18)).bind fun q5 =>
  (un .not q5.1).bind fun v6 =>
  let t8 : Tm := put (put (put (put (put (put (put t 1 (ptr (n) 0)) 2 (.bool false)) 6 v3) 7 v4) 8 q5.1) 9 v6) 10 v6
  (gsel v6 false
    ((fieldA 1 (ptr (n) 0)).bind fun v9 =>
     (ld false 1 v9 q5.2.1).bind fun v10 =>
     (lenV false v10).bind fun v11 =>
     (binK .plain .gtr v11 (.int .i64 400)).bind fun v12 =>
     some (put (put (put (put t8 11 v9) 12 v10) 13 v11) 14 v12, q5.2.1, q5.2.2))
    (some (put (put (put (put t8 11 (.tuple #[])) 12 (.tuple #[])) 13 (.tuple #[])) 14 (.tuple #[]), q5.2.1, q5.2.2))
  ).bind fun (q7 : R3) =>
  (pickV (q7.1 10) (.bool true) (q7.1 14)).bind fun v13 =>
  let t15 : Tm := put (put q7.1 15 v13) 16 v13
  (gsel v13 false
    ((fieldA 2 (t15 1)).bind fun v16 =>
     (ld false 1 v16 q7.2.1).bind fun v17 =>
     (lenV false v17).bind fun v18 =>
     (binK .plain .gtr v18 (.int .i64 20)).bind fun v19 =>
     some (put (put (put (put t15 17 v16) 18 v17) 19 v18) 20 v19, q7.2.1, q7.2.2))
    (some (put (put (put (put t15 17 (.tuple #[])) 18 (.tuple #[])) 19 (.tuple #[])) 20 (.tuple #[]), q7.2.1, q7.2.2))
  ).bind fun (q14 : R3) =>
  (pickV (q14.1 16) (.bool true) (q14.1 20)).bind fun v20 =>
  csel v20
    (some (.bool false, q14.2.1, q14.2.2 + 1))
    ((L (S25L0 C L) (put (put q14.1 21 v20) 3 (.int .i64 0)) q14.2.1 (q14.2.2 + 1)).bind fun (o21 : Out) =>
     let o30 := outOf 0 o21
     thenK o30
       ((L (S25L1 C L) (put o30.t 4 (.int .i64 0)) o30.H (o30.n + 1)).bind fun (o31 : Out) =>
        let o73 := outOf 2 o31
        thenK o73
          (some (.bool true, o73.H, o73.n + 1))
          (finE o73.e
             (some (o73.t 2, o73.H, o73.n))))
       (finE o30.e
          (some (o30.t 2, o30.H, o30.n))))
theorem s25 (C : Calling) (L : Body → Body) (t : Tm) (H : Hp) (n : Nat) : bodyK Try.prog C L Try.f25 t H n = S25 C L t H n := by kernel_rfl
theorem c25 (args : List Value) (H : Hp) (n : Nat) : Call Try.prog 25 args H n = S25 (Call Try.prog) Loop (argsT args) H n := (Call_body Try.func25 args H n).trans (s25 ..)
/-! 26: spec.DefOf -/
noncomputable def S26L0 (C : Calling) (L : Body → Body) : Body := fun t H n =>
  (fieldA 2 (t 2)).bind fun v4 =>
  (ld false 1 v4 H).bind fun v5 =>
  (lenV false v5).bind fun v6 =>
  (binK .plain .lss (t 5) v6).bind fun v7 =>
  csel v7
    ((fieldA 2 (t 2)).bind fun v8 =>
     (ld false 1 v8 H).bind fun v9 =>
     (idxA 3 v9 (t 5)).bind fun v10 =>
     (fieldA 0 v10).bind fun v11 =>
     (ld false 1 v11 H).bind fun v12 =>
     (binK .plain .eql v12 (t 1)).bind fun v13 =>
     csel v13
       (some ⟨.ret, put (put (put (put (put (put (put (put (put (put (put (put (put (put (put t 6 (t 5)) 7 v4) 8 v5) 9 v6) 10 v7) 13 v8) 14 v9) 15 (t 5)) 16 v10) 17 v11) 18 v12) 19 (t 1)) 20 v13) 21 (t 5)) 4 (t 5), H, n + 15⟩)
       ((binK .plain .add (t 5) (.int .i64 1)).bind fun v14 =>
        some ⟨.normal, put (put (put (put (put (put (put (put (put (put (put (put (put (put (put (put t 6 (t 5)) 7 v4) 8 v5) 9 v6) 10 v7) 13 v8) 14 v9) 15 (t 5)) 16 v10) 17 v11) 18 v12) 19 (t 1)) 20 v13) 11 (t 5)) 12 v14) 5 v14, H, n + 16⟩))
    (some ⟨(.exit 0), put (put (put (put (put t 6 (t 5)) 7 v4) 8 v5) 9 v6) 10 v7, H, n + 5⟩)
noncomputable def S26 (C : Calling) (L : Body → Body) (t : Tm) (H : Hp) (n : Nat) : Option (Value × Hp × Nat) :=
  (vcells (t 0)).bind fun c2 =>
  let H1 := H.set (n) (some (.row c2 0 true))
  (L (S26L0 C L) (put (put (put t 2 (ptr (n) 0)) 4 (.int .i64 0)) 5 (.int .i64 0)) H1 (n + 3)).bind fun (o3 : Out) =>
  let o15 := outOf 0 o3
  thenK o15
    (some (.int .i64 (-1), o15.H, o15.n + 1))
    (finE o15.e
       (some (o15.t 4, o15.H, o15.n)))
theorem s26 (C : Calling) (L : Body → Body) (t : Tm) (H : Hp) (n : Nat) : bodyK Try.prog C L Try.f26 t H n = S26 C L t H n := by kernel_rfl
theorem c26 (args : List Value) (H : Hp) (n : Nat) : Call Try.prog 26 args H n = S26 (Call Try.prog) Loop (argsT args) H n := (Call_body Try.func26 args H n).trans (s26 ..)
/-! 42: laws.szInstrS -/
noncomputable def S42L0 (C : Calling) (L : Body → Body) : Body := fun t H n =>
  (lenV false (t 0)).bind fun v5 =>
  (binK .plain .lss (t 5) v5).bind fun v6 =>
  csel v6
    ((idxA 4 (t 0) (t 5)).bind fun v7 =>
     (ld true 4 v7 H).bind fun v8 =>
     (C 95 [v8, t 1] H (n + 11)).bind fun q9 =>
     (binK .plain .lss q9.1 (.int .i64 0)).bind fun v10 =>
     csel v10
       (some ⟨.ret, put (put (put (put (put (put (put (put (put (put (put (put (put (put t 12 (t 5)) 13 (t 0)) 14 v5) 15 v6) 18 (t 0)) 19 (t 5)) 20 v7) 21 v8) 22 (t 1)) 23 q9.1) 1 q9.1) 24 q9.1) 25 v10) 4 (.int .i64 (-1)), q9.2.1, q9.2.2 + 3⟩)
       ((binK .plain .add (t 5) (.int .i64 1)).bind fun v11 =>
        some ⟨.normal, put (put (put (put (put (put (put (put (put (put (put (put (put (put (put (put t 12 (t 5)) 13 (t 0)) 14 v5) 15 v6) 18 (t 0)) 19 (t 5)) 20 v7) 21 v8) 22 (t 1)) 23 q9.1) 1 q9.1) 24 q9.1) 25 v10) 16 (t 5)) 17 v11) 5 v11, q9.2.1, q9.2.2 + 5⟩))
    (some ⟨(.exit 0), put (put (put (put t 12 (t 5)) 13 (t 0)) 14 v5) 15 v6, H, n + 4⟩)
noncomputable def S42 (C : Calling) (L : Body → Body) (t : Tm) (H : Hp) (n : Nat) : Option (Value × Hp × Nat) :=
  (lenV false (t 0)).bind fun v1 =>
  (binK .plain .sub (t 1) v1).bind fun v2 =>
  (binK .plain .lss v2 (.int .i64 0)).bind fun v3 =>
  csel v3
    (some (.int .i64 (-1), H, n + 9))
    ((L (S42L0 C L) (put (put (put (put (put (put (put (put (put t 4 (.int .i64 0)) 6 (t 1)) 7 (t 0)) 8 v1) 9 v2) 1 v2) 10 v2) 11 v3) 5 (.int .i64 0)) H (n + 9)).bind fun (o4 : Out) =>
     let o12 := outOf 0 o4
     thenK o12
       (some (o12.t 1, o12.H, o12.n + 2))
       (finE o12.e
          (some (o12.t 4, o12.H, o12.n))))
theorem s42 (C : Calling) (L : Body → Body) (t : Tm) (H : Hp) (n : Nat) : bodyK Try.prog C L Try.f42 t H n = S42 C L t H n := by kernel_rfl
theorem c42 (args : List Value) (H : Hp) (n : Nat) : Call Try.prog 42 args H n = S42 (Call Try.prog) Loop (argsT args) H n := (Call_body Try.func42 args H n).trans (s42 ..)
/-! 43: laws.szDefS -/
noncomputable def S43L0 (C : Calling) (L : Body → Body) : Body := fun t H n =>
  (lenV false (t 0)).bind fun v5 =>
  (binK .plain .lss (t 5) v5).bind fun v6 =>
  csel v6
    ((idxA 3 (t 0) (t 5)).bind fun v7 =>
     (ld true 3 v7 H).bind fun v8 =>
     (C 96 [v8, t 1] H (n + 11)).bind fun q9 =>
     (binK .plain .lss q9.1 (.int .i64 0)).bind fun v10 =>
     csel v10
       (some ⟨.ret, put (put (put (put (put (put (put (put (put (put (put (put (put (put t 12 (t 5)) 13 (t 0)) 14 v5) 15 v6) 18 (t 0)) 19 (t 5)) 20 v7) 21 v8) 22 (t 1)) 23 q9.1) 1 q9.1) 24 q9.1) 25 v10) 4 (.int .i64 (-1)), q9.2.1, q9.2.2 + 3⟩)
       ((binK .plain .add (t 5) (.int .i64 1)).bind fun v11 =>
        some ⟨.normal, put (put (put (put (put (put (put (put (put (put (put (put (put (put (put (put t 12 (t 5)) 13 (t 0)) 14 v5) 15 v6) 18 (t 0)) 19 (t 5)) 20 v7) 21 v8) 22 (t 1)) 23 q9.1) 1 q9.1) 24 q9.1) 25 v10) 16 (t 5)) 17 v11) 5 v11, q9.2.1, q9.2.2 + 5⟩))
    (some ⟨(.exit 0), put (put (put (put t 12 (t 5)) 13 (t 0)) 14 v5) 15 v6, H, n + 4⟩)
noncomputable def S43 (C : Calling) (L : Body → Body) (t : Tm) (H : Hp) (n : Nat) : Option (Value × Hp × Nat) :=
  (lenV false (t 0)).bind fun v1 =>
  (binK .plain .sub (t 1) v1).bind fun v2 =>
  (binK .plain .lss v2 (.int .i64 0)).bind fun v3 =>
  csel v3
    (some (.int .i64 (-1), H, n + 9))
    ((L (S43L0 C L) (put (put (put (put (put (put (put (put (put t 4 (.int .i64 0)) 6 (t 1)) 7 (t 0)) 8 v1) 9 v2) 1 v2) 10 v2) 11 v3) 5 (.int .i64 0)) H (n + 9)).bind fun (o4 : Out) =>
     let o12 := outOf 0 o4
     thenK o12
       (some (o12.t 1, o12.H, o12.n + 2))
       (finE o12.e
          (some (o12.t 4, o12.H, o12.n))))
theorem s43 (C : Calling) (L : Body → Body) (t : Tm) (H : Hp) (n : Nat) : bodyK Try.prog C L Try.f43 t H n = S43 C L t H n := by kernel_rfl
theorem c43 (args : List Value) (H : Hp) (n : Nat) : Call Try.prog 43 args H n = S43 (Call Try.prog) Loop (argsT args) H n := (Call_body Try.func43 args H n).trans (s43 ..)
/-! 44: laws.szNodeS -/
noncomputable def S44L0 (C : Calling) (L : Body → Body) : Body := fun t H n =>
  (lenV false (t 0)).bind fun v5 =>
  (binK .plain .lss (t 5) v5).bind fun v6 =>
  csel v6
    ((idxA 5 (t 0) (t 5)).bind fun v7 =>
     (ld true 5 v7 H).bind fun v8 =>
     (C 97 [v8, t 1] H (n + 11)).bind fun q9 =>
     (binK .plain .lss q9.1 (.int .i64 0)).bind fun v10 =>
     csel v10
       (some ⟨.ret, put (put (put (put (put (put (put (put (put (put (put (put (put (put t 12 (t 5)) 13 (t 0)) 14 v5) 15 v6) 18 (t 0)) 19 (t 5)) 20 v7) 21 v8) 22 (t 1)) 23 q9.1) 1 q9.1) 24 q9.1) 25 v10) 4 (.int .i64 (-1)), q9.2.1, q9.2.2 + 3⟩)
       ((binK .plain .add (t 5) (.int .i64 1)).bind fun v11 =>
        some ⟨.normal, put (put (put (put (put (put (put (put (put (put (put (put (put (put (put (put t 12 (t 5)) 13 (t 0)) 14 v5) 15 v6) 18 (t 0)) 19 (t 5)) 20 v7) 21 v8) 22 (t 1)) 23 q9.1) 1 q9.1) 24 q9.1) 25 v10) 16 (t 5)) 17 v11) 5 v11, q9.2.1, q9.2.2 + 5⟩))
    (some ⟨(.exit 0), put (put (put (put t 12 (t 5)) 13 (t 0)) 14 v5) 15 v6, H, n + 4⟩)
noncomputable def S44 (C : Calling) (L : Body → Body) (t : Tm) (H : Hp) (n : Nat) : Option (Value × Hp × Nat) :=
  (lenV false (t 0)).bind fun v1 =>
  (binK .plain .sub (t 1) v1).bind fun v2 =>
  (binK .plain .lss v2 (.int .i64 0)).bind fun v3 =>
  csel v3
    (some (.int .i64 (-1), H, n + 9))
    ((L (S44L0 C L) (put (put (put (put (put (put (put (put (put t 4 (.int .i64 0)) 6 (t 1)) 7 (t 0)) 8 v1) 9 v2) 1 v2) 10 v2) 11 v3) 5 (.int .i64 0)) H (n + 9)).bind fun (o4 : Out) =>
     let o12 := outOf 0 o4
     thenK o12
       (some (o12.t 1, o12.H, o12.n + 2))
       (finE o12.e
          (some (o12.t 4, o12.H, o12.n))))
theorem s44 (C : Calling) (L : Body → Body) (t : Tm) (H : Hp) (n : Nat) : bodyK Try.prog C L Try.f44 t H n = S44 C L t H n := by kernel_rfl
theorem c44 (args : List Value) (H : Hp) (n : Nat) : Call Try.prog 44 args H n = S44 (Call Try.prog) Loop (argsT args) H n := (Call_body Try.func44 args H n).trans (s44 ..)
/-! 45: spec.PoolOk -/
noncomputable def S45L0 (C : Calling) (L : Body → Body) : Body := fun t H n =>
  (fieldA 0 (t 1)).bind fun v4 =>
  (ld false 1 v4 H).bind fun v5 =>
  (lenV false v5).bind fun v6 =>
  (binK .plain .lss (t 3) v6).bind fun v7 =>
  csel v7
    ((fieldA 0 (t 1)).bind fun v8 =>
     (ld false 1 v8 H).bind fun v9 =>
     (idxA 5 v9 (t 3)).bind fun v10 =>
     (ld true 5 v10 H).bind fun v11 =>
     (C 98 [v11, t 3] H (n + 13)).bind fun q12 =>
     (un .not q12.1).bind fun v13 =>
     csel v13
       (some ⟨.ret, put (put (put (put (put (put (put (put (put (put (put (put (put (put t 4 (t 3)) 5 v4) 6 v5) 7 v6) 8 v7) 11 v8) 12 v9) 13 (t 3)) 14 v10) 15 v11) 16 (t 3)) 17 q12.1) 18 v13) 2 (.bool false), q12.2.1, q12.2.2 + 1⟩)
       ((binK .plain .add (t 3) (.int .i64 1)).bind fun v14 =>
        some ⟨.normal, put (put (put (put (put (put (put (put (put (put (put (put (put (put (put (put t 4 (t 3)) 5 v4) 6 v5) 7 v6) 8 v7) 11 v8) 12 v9) 13 (t 3)) 14 v10) 15 v11) 16 (t 3)) 17 q12.1) 18 v13) 9 (t 3)) 10 v14) 3 v14, q12.2.1, q12.2.2 + 3⟩))
    (some ⟨(.exit 0), put (put (put (put (put t 4 (t 3)) 5 v4) 6 v5) 7 v6) 8 v7, H, n + 5⟩)
noncomputable def S45 (C : Calling) (L : Body → Body) (t : Tm) (H : Hp) (n : Nat) : Option (Value × Hp × Nat) :=
  (vcells (t 0)).bind fun c2 =>
  let H1 := H.set (n) (some (.row c2 0 true))
  (L (S45L0 C L) (put (put (put t 1 (ptr (n) 0)) 2 (.bool false)) 3 (.int .i64 0)) H1 (n + 3)).bind fun (o3 : Out) =>
  let o15 := outOf 0 o3
  thenK o15
    ((fieldA 0 (o15.t 1)).bind fun v16 =>
     (ld false 1 v16 o15.H).bind fun v17 =>
     (lenV false v17).bind fun v18 =>
     (binK .plain .leq v18 (.int .i64 3000)).bind fun v19 =>
     some (v19, o15.H, o15.n + 5))
    (finE o15.e
       (some (o15.t 2, o15.H, o15.n)))
theorem s45 (C : Calling) (L : Body → Body) (t : Tm) (H : Hp) (n : Nat) : bodyK Try.prog C L Try.f45 t H n = S45 C L t H n := by kernel_rfl
theorem c45 (args : List Value) (H : Hp) (n : Nat) : Call Try.prog 45 args H n = S45 (Call Try.prog) Loop (argsT args) H n := (Call_body Try.func45 args H n).trans (s45 ..)
/-! 46: spec.l2Has -/
noncomputable def S46 (C : Calling) (L : Body → Body) (t : Tm) (H : Hp) (n : Nat) : Option (Value × Hp × Nat) :=
  (vcells (t 0)).bind fun c2 =>
  let H1 := H.set (n) (some (.row c2 0 true))
  (fieldA 0 (ptr (n) 0)).bind fun v3 =>
  (ld false 1 v3 H1).bind fun v4 =>
  (lenV false v4).bind fun v5 =>
  (binK .plain .sub v5 (.int .i64 1)).bind fun v6 =>
  (C 75 [t 1, .int .i64 0, v6] H1 (n + 9)).bind fun q7 =>
  some (q7.1, q7.2.1, q7.2.2)
theorem s46 (C : Calling) (L : Body → Body) (t : Tm) (H : Hp) (n : Nat) : bodyK Try.prog C L Try.f46 t H n = S46 C L t H n := by kernel_rfl
theorem c46 (args : List Value) (H : Hp) (n : Nat) : Call Try.prog 46 args H n = S46 (Call Try.prog) Loop (argsT args) H n := (Call_body Try.func46 args H n).trans (s46 ..)
/-! 47: spec.l2Copy -/
noncomputable def S47 (C : Calling) (L : Body → Body) (t : Tm) (H : Hp) (n : Nat) : Option (Value × Hp × Nat) :=
  (vcells (t 0)).bind fun c2 =>
  let H1 := H.set (n) (some (.row c2 0 true))
  let H3 := H1.set (n + 1) (some (.row [nilS] 0 true))
  (bsl (n + 2) 5 0 [.int .i64 0, .int .i64 0, .string ⟨#[]⟩, .int .i64 0, .int .i64 0] [] H3).bind fun p4 =>
  (fieldA 0 (ptr (n) 0)).bind fun v5 =>
  (ld false 1 v5 p4.2).bind fun v6 =>
  (app (n + 5) 5 48 p4.1 v6 p4.2).bind fun p7 =>
  (bld [nilS] [(0, 1, p7.1)]).bind fun v8 =>
  (st true 1 (ptr (n + 1) 0) v8 p7.2).bind fun H9 =>
  (ld true 1 (ptr (n + 1) 0) H9).bind fun v10 =>
  some (v10, H9, n + 8)
theorem s47 (C : Calling) (L : Body → Body) (t : Tm) (H : Hp) (n : Nat) : bodyK Try.prog C L Try.f47 t H n = S47 C L t H n := by kernel_rfl
theorem c47 (args : List Value) (H : Hp) (n : Nat) : Call Try.prog 47 args H n = S47 (Call Try.prog) Loop (argsT args) H n := (Call_body Try.func47 args H n).trans (s47 ..)
/-! 48: spec.l2Add -/
noncomputable def S48 (C : Calling) (L : Body → Body) (t : Tm) (H : Hp) (n : Nat) : Option (Value × Hp × Nat) :=
  (vcells (t 1)).bind fun c2 =>
  let H1 := H.set (n) (some (.row c2 0 true))
  (nilchk (t 0)).bind fun v3 =>
  (fieldA 0 v3).bind fun v4 =>
  (ld false 1 v4 H1).bind fun v5 =>
  (ld true 5 (ptr (n) 0) H1).bind fun v6 =>
  (bsl (n + 8) 5 1 [.int .i64 0, .int .i64 0, .string ⟨#[]⟩, .int .i64 0, .int .i64 0] [(0, 5, v6)] H1).bind fun p7 =>
  (app (n + 9) 5 48 v5 p7.1 p7.2).bind fun p8 =>
  (nilchk (t 0)).bind fun v9 =>
  (fieldA 0 v9).bind fun v10 =>
  (st false 1 v10 p8.1 p8.2).bind fun H11 =>
  (nilchk (t 0)).bind fun v12 =>
  (fieldA 0 v12).bind fun v13 =>
  (ld false 1 v13 H11).bind fun v14 =>
  (lenV false v14).bind fun v15 =>
  (binK .plain .sub v15 (.int .i64 1)).bind fun v16 =>
  some (v16, H11, n + 20)
theorem s48 (C : Calling) (L : Body → Body) (t : Tm) (H : Hp) (n : Nat) : bodyK Try.prog C L Try.f48 t H n = S48 C L t H n := by kernel_rfl
theorem c48 (args : List Value) (H : Hp) (n : Nat) : Call Try.prog 48 args H n = S48 (Call Try.prog) Loop (argsT args) H n := (Call_body Try.func48 args H n).trans (s48 ..)
/-! 49: laws.toInstrS -/
noncomputable def S49L0 (C : Calling) (L : Body → Body) : Body := fun t H n =>
  (lenV false (t 0)).bind fun v4 =>
  (binK .plain .lss (t 4) v4).bind fun v5 =>
  csel v5
    ((idxA 4 (t 0) (t 4)).bind fun v6 =>
     (ld true 4 v6 H).bind fun v7 =>
     (C 99 [v7] H (n + 13)).bind fun q8 =>
     (idxA 4 (t 3) (t 4)).bind fun v9 =>
     (st true 4 v9 q8.1 q8.2.1).bind fun H10 =>
     (binK .plain .add (t 4) (.int .i64 1)).bind fun v11 =>
     some ⟨.normal, put (put (put (put (put (put (put (put (put (put (put (put (put (put (put t 8 (t 4)) 9 (t 0)) 10 v4) 11 v5) 14 (t 3)) 15 (t 4)) 16 (t 0)) 17 (t 4)) 18 v6) 19 v7) 20 q8.1) 21 v9) 12 (t 4)) 13 v11) 4 v11, H10, q8.2.2 + 3⟩)
    (some ⟨(.exit 0), put (put (put (put t 8 (t 4)) 9 (t 0)) 10 v4) 11 v5, H, n + 4⟩)
noncomputable def S49 (C : Calling) (L : Body → Body) (t : Tm) (H : Hp) (n : Nat) : Option (Value × Hp × Nat) :=
  (lenV false (t 0)).bind fun v1 =>
  (mks (n + 3) 4 40 [.int .i64 0, .int .i64 0, .int .i64 0, .string ⟨#[]⟩] v1 v1 H).bind fun p2 =>
  (L (S49L0 C L) (put (put (put (put (put (put t 2 nilS) 5 (t 0)) 6 v1) 7 p2.1) 3 p2.1) 4 (.int .i64 0)) p2.2 (n + 6)).bind fun (o3 : Out) =>
  some (o3.t 3, o3.H, o3.n + 2)
theorem s49 (C : Calling) (L : Body → Body) (t : Tm) (H : Hp) (n : Nat) : bodyK Try.prog C L Try.f49 t H n = S49 C L t H n := by kernel_rfl
theorem c49 (args : List Value) (H : Hp) (n : Nat) : Call Try.prog 49 args H n = S49 (Call Try.prog) Loop (argsT args) H n := (Call_body Try.func49 args H n).trans (s49 ..)
/-! 50: laws.toDefS -/
noncomputable def S50L0 (C : Calling) (L : Body → Body) : Body := fun t H n =>
  (lenV false (t 0)).bind fun v4 =>
  (binK .plain .lss (t 4) v4).bind fun v5 =>
  csel v5
    ((idxA 3 (t 0) (t 4)).bind fun v6 =>
     (ld true 3 v6 H).bind fun v7 =>
     (C 100 [v7] H (n + 13)).bind fun q8 =>
     (idxA 3 (t 3) (t 4)).bind fun v9 =>
     (st true 3 v9 q8.1 q8.2.1).bind fun H10 =>
     (binK .plain .add (t 4) (.int .i64 1)).bind fun v11 =>
     some ⟨.normal, put (put (put (put (put (put (put (put (put (put (put (put (put (put (put t 8 (t 4)) 9 (t 0)) 10 v4) 11 v5) 14 (t 3)) 15 (t 4)) 16 (t 0)) 17 (t 4)) 18 v6) 19 v7) 20 q8.1) 21 v9) 12 (t 4)) 13 v11) 4 v11, H10, q8.2.2 + 3⟩)
    (some ⟨(.exit 0), put (put (put (put t 8 (t 4)) 9 (t 0)) 10 v4) 11 v5, H, n + 4⟩)
noncomputable def S50 (C : Calling) (L : Body → Body) (t : Tm) (H : Hp) (n : Nat) : Option (Value × Hp × Nat) :=
  (lenV false (t 0)).bind fun v1 =>
  (mks (n + 3) 3 32 [.string ⟨#[]⟩, .int .i64 0, .int .i64 0] v1 v1 H).bind fun p2 =>
  (L (S50L0 C L) (put (put (put (put (put (put t 2 nilS) 5 (t 0)) 6 v1) 7 p2.1) 3 p2.1) 4 (.int .i64 0)) p2.2 (n + 6)).bind fun (o3 : Out) =>
  some (o3.t 3, o3.H, o3.n + 2)
theorem s50 (C : Calling) (L : Body → Body) (t : Tm) (H : Hp) (n : Nat) : bodyK Try.prog C L Try.f50 t H n = S50 C L t H n := by kernel_rfl
theorem c50 (args : List Value) (H : Hp) (n : Nat) : Call Try.prog 50 args H n = S50 (Call Try.prog) Loop (argsT args) H n := (Call_body Try.func50 args H n).trans (s50 ..)
/-! 51: laws.toNodeS -/
noncomputable def S51L0 (C : Calling) (L : Body → Body) : Body := fun t H n =>
  (lenV false (t 0)).bind fun v4 =>
  (binK .plain .lss (t 4) v4).bind fun v5 =>
  csel v5
    ((idxA 5 (t 0) (t 4)).bind fun v6 =>
     (ld true 5 v6 H).bind fun v7 =>
     (C 101 [v7] H (n + 13)).bind fun q8 =>
     (idxA 5 (t 3) (t 4)).bind fun v9 =>
     (st true 5 v9 q8.1 q8.2.1).bind fun H10 =>
     (binK .plain .add (t 4) (.int .i64 1)).bind fun v11 =>
     some ⟨.normal, put (put (put (put (put (put (put (put (put (put (put (put (put (put (put t 8 (t 4)) 9 (t 0)) 10 v4) 11 v5) 14 (t 3)) 15 (t 4)) 16 (t 0)) 17 (t 4)) 18 v6) 19 v7) 20 q8.1) 21 v9) 12 (t 4)) 13 v11) 4 v11, H10, q8.2.2 + 3⟩)
    (some ⟨(.exit 0), put (put (put (put t 8 (t 4)) 9 (t 0)) 10 v4) 11 v5, H, n + 4⟩)
noncomputable def S51 (C : Calling) (L : Body → Body) (t : Tm) (H : Hp) (n : Nat) : Option (Value × Hp × Nat) :=
  (lenV false (t 0)).bind fun v1 =>
  (mks (n + 3) 5 48 [.int .i64 0, .int .i64 0, .string ⟨#[]⟩, .int .i64 0, .int .i64 0] v1 v1 H).bind fun p2 =>
  (L (S51L0 C L) (put (put (put (put (put (put t 2 nilS) 5 (t 0)) 6 v1) 7 p2.1) 3 p2.1) 4 (.int .i64 0)) p2.2 (n + 6)).bind fun (o3 : Out) =>
  some (o3.t 3, o3.H, o3.n + 2)
theorem s51 (C : Calling) (L : Body → Body) (t : Tm) (H : Hp) (n : Nat) : bodyK Try.prog C L Try.f51 t H n = S51 C L t H n := by kernel_rfl
theorem c51 (args : List Value) (H : Hp) (n : Nat) : Call Try.prog 51 args H n = S51 (Call Try.prog) Loop (argsT args) H n := (Call_body Try.func51 args H n).trans (s51 ..)
/-! 52: impl.PoolOk -/
noncomputable def S52L0 (C : Calling) (L : Body → Body) : Body := fun t H n =>
  (binK .plain .lss (t 8) (t 7)).bind fun v7 =>
  csel v7
    ((idxA 5 (t 6) (t 8)).bind fun v8 =>
     (ld true 5 v8 H).bind fun v9 =>
     let H10 := H.set (n + 4) (some (.row [.int .i64 0, .int .i64 0, .string ⟨#[]⟩, .int .i64 0, .int .i64 0] 0 true))
     (st true 5 (ptr (n + 4) 0) v9 H10).bind fun H11 =>
     (ld true 5 (ptr (n + 4) 0) H11).bind fun v12 =>
     (C 102 [v12, t 8] H11 (n + 11)).bind fun q13 =>
     (un .not q13.1).bind fun v14 =>
     csel v14
       (some ⟨.ret, put (put (put (put (put (put (put (put (put (put (put t 9 v7) 10 (t 8)) 11 v8) 12 v9) 4 (ptr (n + 4) 0)) 3 (t 8)) 13 v12) 14 (t 8)) 15 q13.1) 16 v14) 2 (.bool false), q13.2.1, q13.2.2 + 1⟩)
       ((binK .plain .add (t 8) (.int .i64 1)).bind fun v15 =>
        some ⟨.normal, put (put (put (put (put (put (put (put (put (put (put (put t 9 v7) 10 (t 8)) 11 v8) 12 v9) 4 (ptr (n + 4) 0)) 3 (t 8)) 13 v12) 14 (t 8)) 15 q13.1) 16 v14) 17 v15) 8 v15, q13.2.1, q13.2.2 + 2⟩))
    (some ⟨(.exit 0), put t 9 v7, H, n + 1⟩)
noncomputable def S52 (C : Calling) (L : Body → Body) (t : Tm) (H : Hp) (n : Nat) : Option (Value × Hp × Nat) :=
  (vcells (t 0)).bind fun c2 =>
  let H1 := H.set (n) (some (.row c2 0 true))
  (fieldA 0 (ptr (n) 0)).bind fun v3 =>
  (ld false 1 v3 H1).bind fun v4 =>
  (lenV false v4).bind fun v5 =>
  (L (S52L0 C L) (put (put (put (put (put (put t 1 (ptr (n) 0)) 2 (.bool false)) 5 v3) 6 v4) 7 v5) 8 (.int .i64 0)) H1 (n + 6)).bind fun (o6 : Out) =>
  let o16 := outOf 0 o6
  thenK o16
    ((fieldA 0 (o16.t 1)).bind fun v17 =>
     (ld false 1 v17 o16.H).bind fun v18 =>
     (lenV false v18).bind fun v19 =>
     (binK .plain .leq v19 (.int .i64 3000)).bind fun v20 =>
     some (v20, o16.H, o16.n + 5))
    (finE o16.e
       (some (o16.t 2, o16.H, o16.n)))
theorem s52 (C : Calling) (L : Body → Body) (t : Tm) (H : Hp) (n : Nat) : bodyK Try.prog C L Try.f52 t H n = S52 C L t H n := by kernel_rfl
theorem c52 (args : List Value) (H : Hp) (n : Nat) : Call Try.prog 52 args H n = S52 (Call Try.prog) Loop (argsT args) H n := (Call_body Try.func52 args H n).trans (s52 ..)
/-! 53: impl.isNode -/
noncomputable def S53 (C : Calling) (L : Body → Body) (t : Tm) (H : Hp) (n : Nat) : Option (Value × Hp × Nat) :=
  (vcells (t 0)).bind fun c2 =>
  let H1 := H.set (n) (some (.row c2 0 true))
  (fieldA 0 (ptr (n) 0)).bind fun v3 =>
  (ld false 1 v3 H1).bind fun v4 =>
  (lenV false v4).bind fun v5 =>
  (binK .plain .sub v5 (.int .i64 1)).bind fun v6 =>
  (C 70 [t 1, .int .i64 0, v6] H1 (n + 9)).bind fun q7 =>
  some (q7.1, q7.2.1, q7.2.2)
theorem s53 (C : Calling) (L : Body → Body) (t : Tm) (H : Hp) (n : Nat) : bodyK Try.prog C L Try.f53 t H n = S53 C L t H n := by kernel_rfl
theorem c53 (args : List Value) (H : Hp) (n : Nat) : Call Try.prog 53 args H n = S53 (Call Try.prog) Loop (argsT args) H n := (Call_body Try.func53 args H n).trans (s53 ..)
end Go.Proofs.Ytjbfdaemgpmgjaa.Ax
