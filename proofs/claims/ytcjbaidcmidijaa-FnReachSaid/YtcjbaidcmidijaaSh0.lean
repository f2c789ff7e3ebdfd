/- What the bodies of some functions of the program come to in the abstract machine. -/
import Derived.Test.YtcjbaidcmidijaaProg
import Derived.Test.YtcjbaidcmidijaaAx3
set_option linter.unusedVariables false
namespace Go.Proofs.Ytcjbaidcmidijaa.Ax
open Go
set_option maxRecDepth 100000
/-! 3: laws.FnExactMake -/
noncomputable def S3 (C : Calling) (L : Body → Body) (t : Tm) (H : Hp) (n : Nat) : Option (Value × Hp × Nat) :=
  (vcells (t 0)).bind fun c2 =>
  let H1 := H.set (n) (some (.row c2 0 true))
  (vcells (t 1)).bind fun c4 =>
  let H3 := H1.set (n + 1) (some (.row c4 0 true))
  (ld true 1 (ptr (n) 0) H3).bind fun v5 =>
  (C 9 [v5, .int .i64 1048576] H3 (n + 8)).bind fun q6 =>
  (binK .plain .lss q6.1 (.int .i64 0)).bind fun v7 =>
  csel v7
    (some (.bool true, q6.2.1, q6.2.2 + 3))
    ((ld true 5 (ptr (n + 1) 0) q6.2.1).bind fun v8 =>
     (C 10 [v8, q6.1] q6.2.1 (q6.2.2 + 6)).bind fun q9 =>
     (binK .plain .lss q9.1 (.int .i64 0)).bind fun v10 =>
     csel v10
       (some (.bool true, q9.2.1, q9.2.2 + 3))
       ((ld true 1 (ptr (n) 0) q9.2.1).bind fun v11 =>
        (C 12 [v11] q9.2.1 (q9.2.2 + 13)).bind fun q12 =>
        (ld true 5 (ptr (n + 1) 0) q12.2.1).bind fun v13 =>
        ask (ld true 5 (ptr (n + 1) 0) q9.2.1 = some v13) <|
        (C 13 [v13] q12.2.1 (q12.2.2)).bind fun q14 =>
        (C 11 [q12.1, q14.1] q14.2.1 (q14.2.2)).bind fun q15 =>
        (ext 0 q15.1).bind fun v16 =>
        (ext 1 q15.1).bind fun v17 =>
        let H18 := q15.2.1.set (q9.2.2 + 10) (some (.row [nilS] 0 true))
        (st true 1 (ptr (q9.2.2 + 10) 0) v16 H18).bind fun H19 =>
        (ld true 1 (ptr (n) 0) H19).bind fun v20 =>
        (C 12 [v20] H19 (q15.2.2 + 4)).bind fun q21 =>
        let H22 := q21.2.1.set (q15.2.2 + 2) (some (.row [nilS] 0 true))
        (st true 1 (ptr (q15.2.2 + 2) 0) q21.1 H22).bind fun H23 =>
        (ld true 1 (ptr (q15.2.2 + 2) 0) H23).bind fun v24 =>
        (ld true 5 (ptr (n + 1) 0) H23).bind fun v25 =>
        (C 13 [v25] H23 (q21.2.2 + 10)).bind fun q26 =>
        ask (ld true 1 (ptr (q15.2.2 + 2) 0) q26.2.1 = some v24) <|
        (C 14 [v24, q26.1] q26.2.1 (q26.2.2)).bind fun q27 =>
        (ext 0 q27.1).bind fun v28 =>
        (ext 1 q27.1).bind fun v29 =>
        let H30 := q27.2.1.set (q21.2.2 + 7) (some (.row [nilS] 0 true))
        (st true 1 (ptr (q21.2.2 + 7) 0) v28 H30).bind fun H31 =>
        (ld true 1 (ptr (q21.2.2 + 7) 0) H31).bind fun v32 =>
        (ld true 1 (ptr (q9.2.2 + 10) 0) H31).bind fun v33 =>
        (C 15 [v32, v33] H31 (q27.2.2 + 9)).bind fun q34 =>
        (un .not q34.1).bind fun v35 =>
        let t37 : Tm := put (put (put (put (put (put (put (put (put (put (put (put (put (put (put (put (put (put (put (put (put (put (put (put (put (put (put (put (put (put (put (put (put (put (put (put (put (put (put (put (put (put (put t 2 (ptr (n) 0)) 3 (ptr (n + 1) 0)) 4 (.bool false)) 5 (.int .i64 1048576)) 16 v5) 17 (.int .i64 1048576)) 18 q6.1) 5 q6.1) 19 q6.1) 20 v7) 21 v8) 22 q6.1) 23 q9.1) 5 q9.1) 24 q9.1) 25 v10) 27 v11) 28 q12.1) 29 v13) 30 q14.1) 31 q15.1) 26 q15.1) 32 v16) 33 v17) 6 (ptr (q9.2.2 + 10) 0)) 7 v17) 34 v20) 35 q21.1) 8 (ptr (q15.2.2 + 2) 0)) 37 v24) 38 v25) 39 q26.1) 40 q27.1) 36 q27.1) 41 v28) 42 v29) 9 (ptr (q21.2.2 + 7) 0)) 10 v29) 43 v32) 44 v33) 45 q34.1) 46 v35) 47 v35
        (gsel v35 false
          ((binK .plain .neq v29 v17).bind fun v38 =>
           some (put (put (put t37 48 v29) 49 v17) 50 v38, q34.2.1, q34.2.2))
          (some (put (put (put t37 48 (.tuple #[])) 49 (.tuple #[])) 50 (.tuple #[]), q34.2.1, q34.2.2))
        ).bind fun (q36 : R3) =>
        (pickV (q36.1 47) (.bool true) (q36.1 50)).bind fun v39 =>
        csel v39
          (some (.bool false, q36.2.1, q36.2.2 + 1))
          ((ld true 1 (q36.1 8) q36.2.1).bind fun v40 =>
           (ld true 1 (q36.1 2) q36.2.1).bind fun v41 =>
           (C 12 [v41] q36.2.1 (q36.2.2 + 5)).bind fun q42 =>
           ask (ld true 1 (q36.1 8) q42.2.1 = some v40) <|
           (C 15 [v40, q42.1] q42.2.1 (q42.2.2)).bind fun q43 =>
           (un .not q43.1).bind fun v44 =>
           csel v44
             (some (.bool false, q43.2.1, q43.2.2 + 1))
             ((ld true 1 (q36.1 8) q43.2.1).bind fun v45 =>
              (C 16 [v45, .int .i64 1] q43.2.1 (q43.2.2 + 5)).bind fun q46 =>
              (binK .plain .lss q46.1 (.int .i64 0)).bind fun v47 =>
              let t49 : Tm := put (put (put (put (put (put (put (put (put (put (put (put (put (put q36.1 51 v39) 52 v40) 53 v41) 54 q42.1) 55 q43.1) 56 v44) 11 (.int .i64 1)) 57 v45) 58 (.int .i64 1)) 59 q46.1) 11 q46.1) 60 q46.1) 61 v47) 62 v47
              (gsel v47 false
                ((ld true 1 (t49 9) q46.2.1).bind fun v50 =>
                 (ld true 1 (t49 6) q46.2.1).bind fun v51 =>
                 (C 15 [v50, v51] q46.2.1 (q46.2.2 + 13)).bind fun q52 =>
                 (un .not q52.1).bind fun v53 =>
                 some (put (put (put (put t49 63 v50) 64 v51) 65 q52.1) 66 v53, q52.2.1, q52.2.2))
                (some (put (put (put (put t49 63 (.tuple #[])) 64 (.tuple #[])) 65 (.tuple #[])) 66 (.tuple #[]), q46.2.1, q46.2.2 + 13))
              ).bind fun (q48 : R3) =>
              (pickV (q48.1 62) (.bool true) (q48.1 66)).bind fun v54 =>
              let t56 : Tm := put (put q48.1 67 v54) 68 v54
              (gsel v54 false
                ((binK .plain .neq (t56 10) (t56 7)).bind fun v57 =>
                 some (put (put (put t56 69 (t56 10)) 70 (t56 7)) 71 v57, q48.2.1, q48.2.2))
                (some (put (put (put t56 69 (.tuple #[])) 70 (.tuple #[])) 71 (.tuple #[]), q48.2.1, q48.2.2))
              ).bind fun (q55 : R3) =>
              (pickV (q55.1 68) (.bool true) (q55.1 71)).bind fun v58 =>
              csel v58
                (some (.bool false, q55.2.1, q55.2.2 + 1))
                ((ld true 1 (q55.1 9) q55.2.1).bind fun v59 =>
                 (C 16 [v59, .int .i64 1] q55.2.1 (q55.2.2 + 5)).bind fun q60 =>
                 (ld true 1 (q55.1 9) q60.2.1).bind fun v61 =>
                 (C 17 [v61, .int .i64 1] q60.2.1 (q60.2.2 + 5)).bind fun q62 =>
                 (binK .plain .lss q62.1 (.int .i64 0)).bind fun v63 =>
                 csel v63
                   (some (.bool false, q62.2.1, q62.2.2 + 3))
                   ((binK .plain .neq q62.1 q60.1).bind fun v64 =>
                    csel v64
                      (some (.bool false, q62.2.1, q62.2.2 + 6))
                      ((ld true 1 (q55.1 2) q62.2.1).bind fun v65 =>
                       (C 12 [v65] q62.2.1 (q62.2.2 + 16)).bind fun q66 =>
                       (ld true 5 (q55.1 3) q66.2.1).bind fun v67 =>
                       ask (ld true 5 (q55.1 3) q62.2.1 = some v67) <|
                       (C 13 [v67] q66.2.1 (q66.2.2)).bind fun q68 =>
                       (C 14 [q66.1, q68.1] q68.2.1 (q68.2.2)).bind fun q69 =>
                       (ext 0 q69.1).bind fun v70 =>
                       (ext 1 q69.1).bind fun v71 =>
                       let H72 := q69.2.1.set (q62.2.2 + 13) (some (.row [nilS] 0 true))
                       (st true 1 (ptr (q62.2.2 + 13) 0) v70 H72).bind fun H73 =>
                       (ld true 1 (ptr (q62.2.2 + 13) 0) H73).bind fun v74 =>
                       (ld true 1 (q55.1 6) H73).bind fun v75 =>
                       (C 15 [v74, v75] H73 (q69.2.2 + 9)).bind fun q76 =>
                       (un .not q76.1).bind fun v77 =>
                       let t79 : Tm := put (put (put (put (put (put (put (put (put (put (put (put (put (put (put (put (put (put (put (put (put (put (put (put (put (put (put (put (put (put (put q55.1 72 v58) 12 (.int .i64 1)) 73 v59) 74 (.int .i64 1)) 75 q60.1) 12 q60.1) 13 (.int .i64 1)) 76 v61) 77 (.int .i64 1)) 78 q62.1) 13 q62.1) 79 q62.1) 80 v63) 81 q62.1) 82 q60.1) 83 v64) 85 v65) 86 q66.1) 87 v67) 88 q68.1) 89 q69.1) 84 q69.1) 90 v70) 91 v71) 14 (ptr (q62.2.2 + 13) 0)) 15 v71) 92 v74) 93 v75) 94 q76.1) 95 v77) 96 v77
                       (gsel v77 false
                         ((binK .plain .neq v71 (t79 7)).bind fun v80 =>
                          some (put (put (put t79 97 v71) 98 (t79 7)) 99 v80, q76.2.1, q76.2.2))
                         (some (put (put (put t79 97 (.tuple #[])) 98 (.tuple #[])) 99 (.tuple #[]), q76.2.1, q76.2.2))
                       ).bind fun (q78 : R3) =>
                       (pickV (q78.1 96) (.bool true) (q78.1 99)).bind fun v81 =>
                       csel v81
                         (some (.bool false, q78.2.1, q78.2.2 + 1))
                         ((ld true 1 (q78.1 9) q78.2.1).bind fun v82 =>
                          (C 17 [v82, .int .i64 1] q78.2.1 (q78.2.2 + 5)).bind fun q83 =>
                          (binK .plain .lss q83.1 (.int .i64 0)).bind fun v84 =>
                          csel v84
                            (some (.bool false, q83.2.1, q83.2.2 + 3))
                            ((binK .plain .neq q83.1 (q78.1 12)).bind fun v85 =>
                             csel v85
                               (some (.bool false, q83.2.1, q83.2.2 + 6))
                               (some (.bool true, q83.2.1, q83.2.2 + 6)))))))))))
theorem s3 (C : Calling) (L : Body → Body) (t : Tm) (H : Hp) (n : Nat) : bodyK Try.prog C L Try.f3 t H n = S3 C L t H n := by kernel_rfl
theorem c3 (args : List Value) (H : Hp) (n : Nat) : Call Try.prog 3 args H n = S3 (Call Try.prog) Loop (argsT args) H n := (Call_body Try.func3 args H n).trans (s3 ..)
/-! 4: laws.FnMade -/
noncomputable def S4L0 (C : Calling) (L : Body → Body) : Body := fun t H n =>
  (fieldA 0 (t 3)).bind fun v48 =>
  (ld false 1 v48 H).bind fun v49 =>
  (lenV false v49).bind fun v50 =>
  (binK .plain .lss (t 9) v50).bind fun v51 =>
  csel v51
    ((fieldA 0 (t 5)).bind fun v52 =>
     (ld false 1 v52 H).bind fun v53 =>
     (idxA 5 v53 (t 9)).bind fun v54 =>
     (ld true 5 v54 H).bind fun v55 =>
     (fieldA 0 (t 3)).bind fun v56 =>
     (ld false 1 v56 H).bind fun v57 =>
     (idxA 5 v57 (t 9)).bind fun v58 =>
     (ld true 5 v58 H).bind fun v59 =>
     (binK (.agg [(0, (.int .i64)), (1, (.int .i64)), (2, .string), (3, (.int .i64)), (4, (.int .i64))]) .neq v55 v59).bind fun v60 =>
     csel v60
       (some ⟨.ret, put (put (put (put (put (put (put (put (put (put (put (put (put (put (put (put (put t 54 (t 9)) 55 v48) 56 v49) 57 v50) 58 v51) 61 v52) 62 v53) 63 (t 9)) 64 v54) 65 v55) 66 v56) 67 v57) 68 (t 9)) 69 v58) 70 v59) 71 v60) 2 (.bool false), H, n + 17⟩)
       ((binK .plain .add (t 9) (.int .i64 1)).bind fun v61 =>
        some ⟨.normal, put (put (put (put (put (put (put (put (put (put (put (put (put (put (put (put (put (put (put t 54 (t 9)) 55 v48) 56 v49) 57 v50) 58 v51) 61 v52) 62 v53) 63 (t 9)) 64 v54) 65 v55) 66 v56) 67 v57) 68 (t 9)) 69 v58) 70 v59) 71 v60) 59 (t 9)) 60 v61) 9 v61, H, n + 19⟩))
    (some ⟨(.exit 0), put (put (put (put (put t 54 (t 9)) 55 v48) 56 v49) 57 v50) 58 v51, H, n + 5⟩)
noncomputable def S4 (C : Calling) (L : Body → Body) (t : Tm) (H : Hp) (n : Nat) : Option (Value × Hp × Nat) :=
  (C 18 [t 0] H (n + 3)).bind fun q1 =>
  csel q1.1
    (some (.bool true, q1.2.1, q1.2.2 + 1))
    ((C 19 [t 0] q1.2.1 (q1.2.2 + 9)).bind fun q2 =>
     (ext 0 q2.1).bind fun v3 =>
     (ext 1 q2.1).bind fun v4 =>
     let H5 := q2.2.1.set (q1.2.2 + 5) (some (.row [nilS] 0 true))
     let H6 := H5.set (q1.2.2 + 6) (some (.row [.int .i64 0, .int .i64 0, .string ⟨#[]⟩, .int .i64 0, .int .i64 0] 0 true))
     (st true 1 (ptr (q1.2.2 + 5) 0) v3 H6).bind fun H7 =>
     (st true 5 (ptr (q1.2.2 + 6) 0) v4 H7).bind fun H8 =>
     (ld true 1 (ptr (q1.2.2 + 5) 0) H8).bind fun v9 =>
     (ld true 5 (ptr (q1.2.2 + 6) 0) H8).bind fun v10 =>
     (C 14 [v9, v10] H8 (q2.2.2 + 9)).bind fun q11 =>
     (ext 0 q11.1).bind fun v12 =>
     (ext 1 q11.1).bind fun v13 =>
     let H14 := q11.2.1.set (q2.2.2 + 6) (some (.row [nilS] 0 true))
     (st true 1 (ptr (q2.2.2 + 6) 0) v12 H14).bind fun H15 =>
     (ld true 1 (ptr (q1.2.2 + 5) 0) H15).bind fun v16 =>
     (ld true 5 (ptr (q1.2.2 + 6) 0) H15).bind fun v17 =>
     (C 11 [v16, v17] H15 (q11.2.2 + 9)).bind fun q18 =>
     (ext 0 q18.1).bind fun v19 =>
     (ext 1 q18.1).bind fun v20 =>
     let H21 := q18.2.1.set (q11.2.2 + 6) (some (.row [nilS] 0 true))
     (st true 1 (ptr (q11.2.2 + 6) 0) v19 H21).bind fun H22 =>
     (binK .plain .neq v13 v20).bind fun v23 =>
     let t25 : Tm := put (put (put (put (put (put (put (put (put (put (put (put (put (put (put (put (put (put (put (put (put (put (put (put (put (put (put (put (put (put t 2 (.bool false)) 10 (t 0)) 11 q1.1) 13 (t 0)) 14 q2.1) 12 q2.1) 15 v3) 16 v4) 3 (ptr (q1.2.2 + 5) 0)) 4 (ptr (q1.2.2 + 6) 0)) 18 v9) 19 v10) 20 q11.1) 17 q11.1) 21 v12) 22 v13) 5 (ptr (q2.2.2 + 6) 0)) 6 v13) 24 v16) 25 v17) 26 q18.1) 23 q18.1) 27 v19) 28 v20) 7 (ptr (q11.2.2 + 6) 0)) 8 v20) 29 v13) 30 v20) 31 v23) 32 v23
     (gsel v23 false
       ((ld true 1 (ptr (q1.2.2 + 5) 0) H22).bind fun v26 =>
        (C 20 [v26] H22 (q18.2.2 + 10)).bind fun q27 =>
        (ld true 1 (ptr (q1.2.2 + 5) 0) q27.2.1).bind fun v28 =>
        ask (ld true 1 (ptr (q1.2.2 + 5) 0) H22 = some v28) <|
        (C 21 [v28] q27.2.1 (q27.2.2)).bind fun q29 =>
        (binK .bool .neq q27.1 q29.1).bind fun v30 =>
        some ⟨put (put (put (put (put t25 33 v26) 34 q27.1) 35 v28) 36 q29.1) 37 v30, q29.2.1, q29.2.2, [⟨6, true, 1, ptr (q1.2.2 + 5) 0, v28⟩, ⟨4, true, 1, ptr (q1.2.2 + 5) 0, v26⟩], [(7, q27.2.1), (5, H22)]⟩)
       (some ⟨put (put (put (put (put t25 33 (.tuple #[])) 34 (.tuple #[])) 35 (.tuple #[])) 36 (.tuple #[])) 37 (.tuple #[]), H22, q18.2.2 + 10, [], []⟩)
     ).bind fun (q24 : R5) =>
     (pickV (q24.t 32) (.bool true) (q24.t 37)).bind fun v31 =>
     csel v31
       (some (.bool false, q24.H, q24.n + 1))
       ((binK .plain .lss (q24.t 6) (.int .i64 0)).bind fun v32 =>
        csel v32
          ((fieldA 0 (q24.t 5)).bind fun v33 =>
           (ld false 1 v33 q24.H).bind fun v34 =>
           (lenV false v34).bind fun v35 =>
           (fieldA 0 (q24.t 3)).bind fun v36 =>
           (ld false 1 v36 q24.H).bind fun v37 =>
           (lenV false v37).bind fun v38 =>
           (binK .plain .eql v35 v38).bind fun v39 =>
           let t41 : Tm := put (put (put (put (put (put (put (put (put (put (put q24.t 38 v31) 39 (q24.t 6)) 40 v32) 41 v33) 42 v34) 43 v35) 44 v36) 45 v37) 46 v38) 47 v39) 48 v39
           (gsel v39 false
             ((fieldA 0 (t41 5)).bind fun v42 =>
              (ld false 1 v42 q24.H).bind fun v43 =>
              (lenV false v43).bind fun v44 =>
              (binK .plain .eql v44 (.int .i64 0)).bind fun v45 =>
              some (put (put (put (put t41 49 v42) 50 v43) 51 v44) 52 v45, q24.H, q24.n + 16))
             (some (put (put (put (put t41 49 (.tuple #[])) 50 (.tuple #[])) 51 (.tuple #[])) 52 (.tuple #[]), q24.H, q24.n + 16))
           ).bind fun (q40 : R3) =>
           (pickV (q40.1 48) (.bool true) (q40.1 52)).bind fun v46 =>
           some (v46, q40.2.1, q40.2.2))
          ((L (S4L0 C L) (put (put (put (put q24.t 38 v31) 39 (q24.t 6)) 40 v32) 9 (.int .i64 0)) q24.H (q24.n + 3)).bind fun (o47 : Out) =>
           let o62 := outOf 0 o47
           thenK o62
             ((fieldA 0 (o62.t 3)).bind fun v63 =>
              (ld false 1 v63 o62.H).bind fun v64 =>
              (lenV false v64).bind fun v65 =>
              (binK .plain .eql (o62.t 6) v65).bind fun v66 =>
              let t68 : Tm := put (put (put (put (put (put o62.t 72 (o62.t 6)) 73 v63) 74 v64) 75 v65) 76 v66) 77 v66
              (gsel v66 true
                ((fieldA 0 (t68 5)).bind fun v69 =>
                 (ld false 1 v69 o62.H).bind fun v70 =>
                 (idxA 5 v70 (t68 6)).bind fun v71 =>
                 (ld true 5 v71 o62.H).bind fun v72 =>
                 (ld true 5 (t68 4) o62.H).bind fun v73 =>
                 (binK (.agg [(0, (.int .i64)), (1, (.int .i64)), (2, .string), (3, (.int .i64)), (4, (.int .i64))]) .eql v72 v73).bind fun v74 =>
                 some ⟨put (put (put (put (put (put (put t68 78 v69) 79 v70) 80 (t68 6)) 81 v71) 82 v72) 83 v73) 84 v74, o62.H, o62.n + 31, [⟨11, true, 5, t68 4, v73⟩, ⟨10, true, 5, v71, v72⟩, ⟨7, false, 1, v69, v70⟩, ⟨2, false, 1, v63, v64⟩], []⟩)
                (some ⟨put (put (put (put (put (put (put t68 78 (.tuple #[])) 79 (.tuple #[])) 80 (.tuple #[])) 81 (.tuple #[])) 82 (.tuple #[])) 83 (.tuple #[])) 84 (.tuple #[]), o62.H, o62.n + 31, [⟨2, false, 1, v63, v64⟩], []⟩)
              ).bind fun (q67 : R5) =>
              (pickV (q67.t 77) (q67.t 84) (.bool false)).bind fun v75 =>
              let t77 : Tm := put (put q67.t 85 v75) 86 v75
              (gsel v75 true
                ((ld true 1 (t77 5) q67.H).bind fun v78 =>
                 askB 32767 true 1 (t77 5) v78 q67.hs <|
                 (C 20 [v78] q67.H (q67.n)).bind fun q79 =>
                 asks 65535 q79.2.1 q67.rs <|
                 some ⟨put (put t77 87 v78) 88 q79.1, q79.2.1, q79.2.2, (⟨15, true, 1, t77 5, v78⟩ :: q67.rs), ((16, q67.H) :: q67.hs)⟩)
                (some ⟨put (put t77 87 (.tuple #[])) 88 (.tuple #[]), q67.H, q67.n, q67.rs, q67.hs⟩)
              ).bind fun (q76 : R5) =>
              (pickV (q76.t 86) (q76.t 88) (.bool false)).bind fun v80 =>
              let t82 : Tm := put (put q76.t 89 v80) 90 v80
              (gsel v80 true
                ((ld true 1 (t82 5) q76.H).bind fun v83 =>
                 askB 524287 true 1 (t82 5) v83 q76.hs <|
                 (C 22 [v83, t82 6, t82 6] q76.H (q76.n)).bind fun q84 =>
                 asks 4194303 q84.2.1 q76.rs <|
                 some ⟨put (put (put (put t82 91 v83) 92 (t82 6)) 93 (t82 6)) 94 q84.1, q84.2.1, q84.2.2, (⟨19, true, 1, t82 5, v83⟩ :: q76.rs), ((22, q76.H) :: q76.hs)⟩)
                (some ⟨put (put (put (put t82 91 (.tuple #[])) 92 (.tuple #[])) 93 (.tuple #[])) 94 (.tuple #[]), q76.H, q76.n, q76.rs, q76.hs⟩)
              ).bind fun (q81 : R5) =>
              (pickV (q81.t 90) (q81.t 94) (.bool false)).bind fun v85 =>
              let t87 : Tm := put (put q81.t 95 v85) 96 v85
              (gsel v85 true
                ((ld true 1 (t87 5) q81.H).bind fun v88 =>
                 askB 33554431 true 1 (t87 5) v88 q81.hs <|
                 (C 23 [v88, t87 6] q81.H (q81.n)).bind fun q89 =>
                 asks 134217727 q89.2.1 q81.rs <|
                 (binK .plain .gtr q89.1 (.int .i64 0)).bind fun v90 =>
                 some ⟨put (put (put (put t87 97 v88) 98 (t87 6)) 99 q89.1) 100 v90, q89.2.1, q89.2.2, (⟨25, true, 1, t87 5, v88⟩ :: q81.rs), ((27, q81.H) :: q81.hs)⟩)
                (some ⟨put (put (put (put t87 97 (.tuple #[])) 98 (.tuple #[])) 99 (.tuple #[])) 100 (.tuple #[]), q81.H, q81.n, q81.rs, q81.hs⟩)
              ).bind fun (q86 : R5) =>
              (pickV (q86.t 96) (q86.t 100) (.bool false)).bind fun v91 =>
              some (v91, q86.H, q86.n))
             (finE o62.e
                (some (o62.t 2, o62.H, o62.n))))))
theorem s4 (C : Calling) (L : Body → Body) (t : Tm) (H : Hp) (n : Nat) : bodyK Try.prog C L Try.f4 t H n = S4 C L t H n := by kernel_rfl
theorem c4 (args : List Value) (H : Hp) (n : Nat) : Call Try.prog 4 args H n = S4 (Call Try.prog) Loop (argsT args) H n := (Call_body Try.func4 args H n).trans (s4 ..)
/-! 5: laws.FnReach -/
noncomputable def S5L1 (C : Calling) (L : Body → Body) : Body := fun t H n =>
  (lenV false (t 4)).bind fun v88 =>
  (binK .plain .lss (t 9) v88).bind fun v89 =>
  let t91 : Tm := put (put (put (put (put t 97 (t 9)) 98 (t 4)) 99 v88) 100 v89) 101 v89
  (gsel v89 true
    ((lenV false (t91 5)).bind fun v92 =>
     (binK .plain .gtr v92 (.int .i64 0)).bind fun v93 =>
     some (put (put (put t91 102 (t91 5)) 103 v92) 104 v93, H, n + 9))
    (some (put (put (put t91 102 (.tuple #[])) 103 (.tuple #[])) 104 (.tuple #[]), H, n + 9))
  ).bind fun (q90 : R3) =>
  (pickV (q90.1 101) (q90.1 104) (.bool false)).bind fun v94 =>
  csel v94
    ((idxA 1 (q90.1 4) (q90.1 9)).bind fun v95 =>
     (ld false 1 v95 q90.2.1).bind fun v96 =>
     (idxA 1 (q90.1 5) v96).bind fun v97 =>
     (ld false 1 v97 q90.2.1).bind fun v98 =>
     (un .not v98).bind fun v99 =>
     csel v99
       (some ⟨.ret, put (put (put (put (put (put (put (put (put (put q90.1 105 v94) 108 (q90.1 5)) 109 (q90.1 4)) 110 (q90.1 9)) 111 v95) 112 v96) 113 v97) 114 v98) 115 v99) 2 (.bool false), q90.2.1, q90.2.2 + 9⟩)
       ((binK .plain .add (q90.1 9) (.int .i64 1)).bind fun v100 =>
        some ⟨.normal, put (put (put (put (put (put (put (put (put (put (put (put q90.1 105 v94) 108 (q90.1 5)) 109 (q90.1 4)) 110 (q90.1 9)) 111 v95) 112 v96) 113 v97) 114 v98) 115 v99) 106 (q90.1 9)) 107 v100) 9 v100, q90.2.1, q90.2.2 + 11⟩))
    (some ⟨(.exit 2), put q90.1 105 v94, q90.2.1, q90.2.2⟩)
noncomputable def S5L0 (C : Calling) (L : Body → Body) : Body := fun t H n =>
  (lenV false (t 5)).bind fun v15 =>
  (binK .plain .lss (t 7) v15).bind fun v16 =>
  csel v16
    ((idxA 1 (t 5) (t 7)).bind fun v17 =>
     (ld false 1 v17 H).bind fun v18 =>
     (idxA 1 (t 6) (t 7)).bind fun v19 =>
     (ld false 1 v19 H).bind fun v20 =>
     (binK .bool .neq v18 v20).bind fun v21 =>
     csel v21
       (some ⟨.ret, put (put (put (put (put (put (put (put (put (put (put (put (put (put t 28 (t 7)) 29 (t 5)) 30 v15) 31 v16) 34 (t 5)) 35 (t 7)) 36 v17) 37 v18) 38 (t 6)) 39 (t 7)) 40 v19) 41 v20) 42 v21) 2 (.bool false), H, n + 14⟩)
       ((fieldA 0 (t 3)).bind fun v22 =>
        (ld false 1 v22 H).bind fun v23 =>
        (idxA 5 v23 (t 7)).bind fun v24 =>
        (ld true 5 v24 H).bind fun v25 =>
        let H26 := H.set (n + 18) (some (.row [.int .i64 0, .int .i64 0, .string ⟨#[]⟩, .int .i64 0, .int .i64 0] 0 true))
        (st true 5 (ptr (n + 18) 0) v25 H26).bind fun H27 =>
        (idxA 1 (t 5) (t 7)).bind fun v28 =>
        (ld false 1 v28 H27).bind fun v29 =>
        let t31 : Tm := put (put (put (put (put (put (put (put (put (put (put (put (put (put (put (put (put (put (put (put (put (put (put (put t 28 (t 7)) 29 (t 5)) 30 v15) 31 v16) 34 (t 5)) 35 (t 7)) 36 v17) 37 v18) 38 (t 6)) 39 (t 7)) 40 v19) 41 v20) 42 v21) 43 v22) 44 v23) 45 (t 7)) 46 v24) 47 v25) 8 (ptr (n + 18) 0)) 48 (t 5)) 49 (t 7)) 50 v28) 51 v29) 52 v29
        (gsel v29 true
          ((fieldA 0 (ptr (n + 18) 0)).bind fun v32 =>
           (ld false 1 v32 H27).bind fun v33 =>
           (binK .plain .eql v33 (.int .i64 5)).bind fun v34 =>
           some (put (put (put t31 53 v32) 54 v33) 55 v34, H27, n + 69))
          (some (put (put (put t31 53 (.tuple #[])) 54 (.tuple #[])) 55 (.tuple #[]), H27, n + 69))
        ).bind fun (q30 : R3) =>
        (pickV (q30.1 52) (q30.1 55) (.bool false)).bind fun v35 =>
        let t37 : Tm := put (put q30.1 56 v35) 57 v35
        (gsel v35 true
          ((fieldA 3 (t37 8)).bind fun v38 =>
           (ld false 1 v38 q30.2.1).bind fun v39 =>
           (idxA 1 (t37 5) v39).bind fun v40 =>
           (ld false 1 v40 q30.2.1).bind fun v41 =>
           (un .not v41).bind fun v42 =>
           some (put (put (put (put (put (put (put t37 58 (t37 5)) 59 v38) 60 v39) 61 v40) 62 v41) 63 v42) 64 v42, q30.2.1, q30.2.2))
          (some (put (put (put (put (put (put (put t37 58 (.tuple #[])) 59 (.tuple #[])) 60 (.tuple #[])) 61 (.tuple #[])) 62 (.tuple #[])) 63 (.tuple #[])) 64 (.tuple #[]), q30.2.1, q30.2.2))
        ).bind fun (q36 : R3) =>
        let t44 : Tm := q36.1
        (gsel (q36.1 64) false
          ((fieldA 4 (t44 8)).bind fun v45 =>
           (ld false 1 v45 q36.2.1).bind fun v46 =>
           (idxA 1 (t44 5) v46).bind fun v47 =>
           (ld false 1 v47 q36.2.1).bind fun v48 =>
           (un .not v48).bind fun v49 =>
           some (put (put (put (put (put (put t44 65 (t44 5)) 66 v45) 67 v46) 68 v47) 69 v48) 70 v49, q36.2.1, q36.2.2))
          (some (put (put (put (put (put (put t44 65 (.tuple #[])) 66 (.tuple #[])) 67 (.tuple #[])) 68 (.tuple #[])) 69 (.tuple #[])) 70 (.tuple #[]), q36.2.1, q36.2.2))
        ).bind fun (q43 : R3) =>
        let t51 : Tm := q43.1
        (gsel (q43.1 57) true
          ((pickV (t51 64) (.bool true) (t51 70)).bind fun v52 =>
           some (put t51 71 v52, q43.2.1, q43.2.2))
          (some (put t51 71 (.tuple #[]), q43.2.1, q43.2.2))
        ).bind fun (q50 : R3) =>
        (pickV (q50.1 57) (q50.1 71) (.bool false)).bind fun v53 =>
        let t55 : Tm := put (put q50.1 72 v53) 73 v53
        (gsel v53 false
          ((idxA 1 (t55 5) (t55 7)).bind fun v56 =>
           (ld false 1 v56 q50.2.1).bind fun v57 =>
           some (put (put (put (put (put t55 74 (t55 5)) 75 (t55 7)) 76 v56) 77 v57) 78 v57, q50.2.1, q50.2.2))
          (some (put (put (put (put (put t55 74 (.tuple #[])) 75 (.tuple #[])) 76 (.tuple #[])) 77 (.tuple #[])) 78 (.tuple #[]), q50.2.1, q50.2.2))
        ).bind fun (q54 : R3) =>
        let t59 : Tm := q54.1
        (gsel (q54.1 78) true
          ((fieldA 0 (t59 8)).bind fun v60 =>
           (ld false 1 v60 q54.2.1).bind fun v61 =>
           (binK .plain .eql v61 (.int .i64 6)).bind fun v62 =>
           some (put (put (put (put t59 79 v60) 80 v61) 81 v62) 82 v62, q54.2.1, q54.2.2))
          (some (put (put (put (put t59 79 (.tuple #[])) 80 (.tuple #[])) 81 (.tuple #[])) 82 (.tuple #[]), q54.2.1, q54.2.2))
        ).bind fun (q58 : R3) =>
        let t64 : Tm := q58.1
        (gsel (q58.1 82) false
          ((fieldA 0 (t64 8)).bind fun v65 =>
           (ld false 1 v65 q58.2.1).bind fun v66 =>
           (binK .plain .eql v66 (.int .i64 7)).bind fun v67 =>
           some (put (put (put t64 83 v65) 84 v66) 85 v67, q58.2.1, q58.2.2))
          (some (put (put (put t64 83 (.tuple #[])) 84 (.tuple #[])) 85 (.tuple #[]), q58.2.1, q58.2.2))
        ).bind fun (q63 : R3) =>
        let t69 : Tm := q63.1
        (gsel (q63.1 78) true
          ((pickV (t69 82) (.bool true) (t69 85)).bind fun v70 =>
           some (put t69 86 v70, q63.2.1, q63.2.2))
          (some (put t69 86 (.tuple #[]), q63.2.1, q63.2.2))
        ).bind fun (q68 : R3) =>
        let t72 : Tm := q68.1
        (gsel (q68.1 73) false
          ((pickV (t72 78) (t72 86) (.bool false)).bind fun v73 =>
           some (put (put t72 87 v73) 88 v73, q68.2.1, q68.2.2))
          (some (put (put t72 87 (.tuple #[])) 88 (.tuple #[]), q68.2.1, q68.2.2))
        ).bind fun (q71 : R3) =>
        let t75 : Tm := q71.1
        (gsel (q71.1 88) true
          ((fieldA 3 (t75 8)).bind fun v76 =>
           (ld false 1 v76 q71.2.1).bind fun v77 =>
           (idxA 1 (t75 5) v77).bind fun v78 =>
           (ld false 1 v78 q71.2.1).bind fun v79 =>
           (un .not v79).bind fun v80 =>
           some (put (put (put (put (put (put t75 89 (t75 5)) 90 v76) 91 v77) 92 v78) 93 v79) 94 v80, q71.2.1, q71.2.2))
          (some (put (put (put (put (put (put t75 89 (.tuple #[])) 90 (.tuple #[])) 91 (.tuple #[])) 92 (.tuple #[])) 93 (.tuple #[])) 94 (.tuple #[]), q71.2.1, q71.2.2))
        ).bind fun (q74 : R3) =>
        let t82 : Tm := q74.1
        (gsel (q74.1 73) false
          ((pickV (t82 88) (t82 94) (.bool false)).bind fun v83 =>
           some (put t82 95 v83, q74.2.1, q74.2.2))
          (some (put t82 95 (.tuple #[]), q74.2.1, q74.2.2))
        ).bind fun (q81 : R3) =>
        (pickV (q81.1 73) (.bool true) (q81.1 95)).bind fun v84 =>
        csel v84
          (some ⟨.ret, put (put q81.1 96 v84) 2 (.bool false), q81.2.1, q81.2.2 + 1⟩)
          ((binK .plain .add (q81.1 7) (.int .i64 1)).bind fun v85 =>
           some ⟨.normal, put (put (put (put q81.1 96 v84) 32 (q81.1 7)) 33 v85) 7 v85, q81.2.1, q81.2.2 + 3⟩)))
    (some ⟨(.exit 0), put (put (put (put t 28 (t 7)) 29 (t 5)) 30 v15) 31 v16, H, n + 4⟩)
noncomputable def S5 (C : Calling) (L : Body → Body) (t : Tm) (H : Hp) (n : Nat) : Option (Value × Hp × Nat) :=
  (C 18 [t 0] H (n + 3)).bind fun q1 =>
  csel q1.1
    (some (.bool true, q1.2.1, q1.2.2 + 1))
    ((C 24 [t 0] q1.2.1 (q1.2.2 + 8)).bind fun q2 =>
     (ext 0 q2.1).bind fun v3 =>
     (ext 1 q2.1).bind fun v4 =>
     let H5 := q2.2.1.set (q1.2.2 + 5) (some (.row [nilS] 0 true))
     (st true 1 (ptr (q1.2.2 + 5) 0) v3 H5).bind fun H6 =>
     (ld true 1 (ptr (q1.2.2 + 5) 0) H6).bind fun v7 =>
     (C 25 [v7, v4] H6 (q2.2.2 + 4)).bind fun q8 =>
     (ld true 1 (ptr (q1.2.2 + 5) 0) q8.2.1).bind fun v9 =>
     (C 26 [v9, v4] q8.2.1 (q8.2.2 + 4)).bind fun q10 =>
     (lenV false q8.1).bind fun v11 =>
     (lenV false q10.1).bind fun v12 =>
     (binK .plain .neq v11 v12).bind fun v13 =>
     csel v13
       (some (.bool false, q10.2.1, q10.2.2 + 6))
       ((L (S5L0 C L) (put (put (put (put (put (put (put (put (put (put (put (put (put (put (put (put (put (put (put (put (put (put (put (put t 2 (.bool false)) 10 (t 0)) 11 q1.1) 13 (t 0)) 14 q2.1) 12 q2.1) 15 v3) 16 v4) 3 (ptr (q1.2.2 + 5) 0)) 4 v4) 17 v7) 18 v4) 19 q8.1) 5 q8.1) 20 v9) 21 v4) 22 q10.1) 6 q10.1) 23 q8.1) 24 v11) 25 q10.1) 26 v12) 27 v13) 7 (.int .i64 0)) q10.2.1 (q10.2.2 + 6)).bind fun (o14 : Out) =>
        let o86 := outOf 0 o14
        thenK o86
          ((L (S5L1 C L) (put o86.t 9 (.int .i64 0)) o86.H (o86.n + 1)).bind fun (o87 : Out) =>
           let o101 := outOf 2 o87
           thenK o101
             (some (.bool true, o101.H, o101.n + 1))
             (finE o101.e
                (some (o101.t 2, o101.H, o101.n))))
          (finE o86.e
             (some (o86.t 2, o86.H, o86.n)))))
theorem s5 (C : Calling) (L : Body → Body) (t : Tm) (H : Hp) (n : Nat) : bodyK Try.prog C L Try.f5 t H n = S5 C L t H n := by kernel_rfl
theorem c5 (args : List Value) (H : Hp) (n : Nat) : Call Try.prog 5 args H n = S5 (Call Try.prog) Loop (argsT args) H n := (Call_body Try.func5 args H n).trans (s5 ..)
/-! 6: laws.FnExactWrite -/
noncomputable def S6 (C : Calling) (L : Body → Body) (t : Tm) (H : Hp) (n : Nat) : Option (Value × Hp × Nat) :=
  (vcells (t 0)).bind fun c2 =>
  let H1 := H.set (n) (some (.row c2 0 true))
  (ld true 1 (ptr (n) 0) H1).bind fun v3 =>
  (C 9 [v3, .int .i64 1048576] H1 (n + 7)).bind fun q4 =>
  (binK .plain .lss q4.1 (.int .i64 0)).bind fun v5 =>
  csel v5
    (some (.bool true, q4.2.1, q4.2.2 + 3))
    ((ld true 1 (ptr (n) 0) q4.2.1).bind fun v6 =>
     (C 12 [v6] q4.2.1 (q4.2.2 + 7)).bind fun q7 =>
     (C 27 [q7.1, t 1] q7.2.1 (q7.2.2)).bind fun q8 =>
     (ld true 1 (ptr (n) 0) q8.2.1).bind fun v9 =>
     (C 12 [v9] q8.2.1 (q8.2.2 + 4)).bind fun q10 =>
     let H11 := q10.2.1.set (q8.2.2 + 2) (some (.row [nilS] 0 true))
     (st true 1 (ptr (q8.2.2 + 2) 0) q10.1 H11).bind fun H12 =>
     (ld true 1 (ptr (q8.2.2 + 2) 0) H12).bind fun v13 =>
     (C 28 [v13, t 1] H12 (q10.2.2 + 4)).bind fun q14 =>
     (binK .plain .neq q14.1 q8.1).bind fun v15 =>
     csel v15
       (some (.bool false, q14.2.1, q14.2.2 + 4))
       ((ld true 1 (ptr (q8.2.2 + 2) 0) q14.2.1).bind fun v16 =>
        (ld true 1 (ptr (n) 0) q14.2.1).bind fun v17 =>
        (C 12 [v17] q14.2.1 (q14.2.2 + 8)).bind fun q18 =>
        ask (ld true 1 (ptr (q8.2.2 + 2) 0) q18.2.1 = some v16) <|
        (C 15 [v16, q18.1] q18.2.1 (q18.2.2)).bind fun q19 =>
        (un .not q19.1).bind fun v20 =>
        csel v20
          (some (.bool false, q19.2.1, q19.2.2 + 1))
          (some (.bool true, q19.2.1, q19.2.2 + 1))))
theorem s6 (C : Calling) (L : Body → Body) (t : Tm) (H : Hp) (n : Nat) : bodyK Try.prog C L Try.f6 t H n = S6 C L t H n := by kernel_rfl
theorem c6 (args : List Value) (H : Hp) (n : Nat) : Call Try.prog 6 args H n = S6 (Call Try.prog) Loop (argsT args) H n := (Call_body Try.func6 args H n).trans (s6 ..)
/-! 7: laws.FnExactReach -/
noncomputable def S7 (C : Calling) (L : Body → Body) (t : Tm) (H : Hp) (n : Nat) : Option (Value × Hp × Nat) :=
  (vcells (t 0)).bind fun c2 =>
  let H1 := H.set (n) (some (.row c2 0 true))
  (lenV false (t 1)).bind fun v3 =>
  (binK .plain .gtr v3 (.int .i64 1048576)).bind fun v4 =>
  csel v4
    (some (.bool true, H1, n + 6))
    ((ld true 1 (ptr (n) 0) H1).bind fun v5 =>
     (C 9 [v5, .int .i64 1048576] H1 (n + 10)).bind fun q6 =>
     (binK .plain .lss q6.1 (.int .i64 0)).bind fun v7 =>
     csel v7
       (some (.bool true, q6.2.1, q6.2.2 + 3))
       ((ld true 1 (ptr (n) 0) q6.2.1).bind fun v8 =>
        (C 12 [v8] q6.2.1 (q6.2.2 + 8)).bind fun q9 =>
        (C 29 [t 1] q9.2.1 (q9.2.2)).bind fun q10 =>
        (C 26 [q9.1, q10.1] q10.2.1 (q10.2.2)).bind fun q11 =>
        (ld true 1 (ptr (n) 0) q11.2.1).bind fun v12 =>
        (C 12 [v12] q11.2.1 (q11.2.2 + 4)).bind fun q13 =>
        let H14 := q13.2.1.set (q11.2.2 + 2) (some (.row [nilS] 0 true))
        (st true 1 (ptr (q11.2.2 + 2) 0) q13.1 H14).bind fun H15 =>
        (C 29 [t 1] H15 (q13.2.2 + 3)).bind fun q16 =>
        (ld true 1 (ptr (q11.2.2 + 2) 0) q16.2.1).bind fun v17 =>
        (C 25 [v17, q16.1] q16.2.1 (q16.2.2 + 4)).bind fun q18 =>
        (C 30 [q18.1, q11.1] q18.2.1 (q18.2.2 + 4)).bind fun q19 =>
        (un .not q19.1).bind fun v20 =>
        csel v20
          (some (.bool false, q19.2.1, q19.2.2 + 1))
          ((ld true 1 (ptr (q11.2.2 + 2) 0) q19.2.1).bind fun v21 =>
           (ld true 1 (ptr (n) 0) q19.2.1).bind fun v22 =>
           (C 12 [v22] q19.2.1 (q19.2.2 + 5)).bind fun q23 =>
           ask (ld true 1 (ptr (q11.2.2 + 2) 0) q23.2.1 = some v21) <|
           (C 15 [v21, q23.1] q23.2.1 (q23.2.2)).bind fun q24 =>
           (un .not q24.1).bind fun v25 =>
           csel v25
             (some (.bool false, q24.2.1, q24.2.2 + 1))
             ((C 29 [t 1] q24.2.1 (q24.2.2 + 5)).bind fun q26 =>
              (C 31 [q16.1, q26.1] q26.2.1 (q26.2.2)).bind fun q27 =>
              (un .not q27.1).bind fun v28 =>
              csel v28
                (some (.bool false, q27.2.1, q27.2.2 + 1))
                ((ld true 1 (ptr (q11.2.2 + 2) 0) q27.2.1).bind fun v29 =>
                 (C 16 [v29, .int .i64 1] q27.2.1 (q27.2.2 + 5)).bind fun q30 =>
                 (C 32 [q16.1, q30.1] q30.2.1 (q30.2.2 + 4)).bind fun q31 =>
                 (binK .plain .lss q31.1 (.int .i64 0)).bind fun v32 =>
                 let t34 : Tm := put (put (put (put (put (put (put (put (put (put (put (put (put (put (put (put (put (put (put (put (put (put (put (put (put (put (put (put (put (put (put (put (put (put (put (put (put (put (put (put (put (put (put (put (put (put (put (put (put (put (put (put (put (put t 2 (ptr (n) 0)) 4 (.bool false)) 14 (t 1)) 15 v3) 16 v4) 5 (.int .i64 1048576)) 17 v5) 18 (.int .i64 1048576)) 19 q6.1) 5 q6.1) 20 q6.1) 21 v7) 22 v8) 23 q9.1) 24 (t 1)) 25 q10.1) 26 q11.1) 6 q11.1) 27 v12) 28 q13.1) 7 (ptr (q11.2.2 + 2) 0)) 29 (t 1)) 30 q16.1) 8 q16.1) 31 v17) 32 q16.1) 33 q18.1) 9 q18.1) 34 q18.1) 35 q11.1) 36 q19.1) 37 v20) 38 v21) 39 v22) 40 q23.1) 41 q24.1) 42 v25) 43 q16.1) 44 (t 1)) 45 q26.1) 46 q27.1) 47 v28) 10 (.int .i64 1)) 48 v29) 49 (.int .i64 1)) 50 q30.1) 10 q30.1) 51 q16.1) 52 q30.1) 53 q31.1) 10 q31.1) 54 q31.1) 55 v32) 56 v32
                 (gsel v32 false
                   ((C 30 [q18.1, q11.1] q31.2.1 (q31.2.2 + 8)).bind fun q35 =>
                    (un .not q35.1).bind fun v36 =>
                    some (put (put (put (put t34 57 q18.1) 58 q11.1) 59 q35.1) 60 v36, q35.2.1, q35.2.2))
                   (some (put (put (put (put t34 57 (.tuple #[])) 58 (.tuple #[])) 59 (.tuple #[])) 60 (.tuple #[]), q31.2.1, q31.2.2 + 8))
                 ).bind fun (q33 : R3) =>
                 (pickV (q33.1 56) (.bool true) (q33.1 60)).bind fun v37 =>
                 csel v37
                   (some (.bool false, q33.2.1, q33.2.2 + 1))
                   ((C 33 [q33.1 9, .int .i64 1] q33.2.1 (q33.2.2 + 5)).bind fun q38 =>
                    (C 34 [q33.1 9, .int .i64 1] q38.2.1 (q38.2.2 + 5)).bind fun q39 =>
                    (binK .plain .lss q39.1 (.int .i64 0)).bind fun v40 =>
                    csel v40
                      (some (.bool false, q39.2.1, q39.2.2 + 3))
                      ((binK .plain .neq q39.1 q38.1).bind fun v41 =>
                       csel v41
                         (some (.bool false, q39.2.1, q39.2.2 + 6))
                         ((ld true 1 (q33.1 2) q39.2.1).bind fun v42 =>
                          (C 12 [v42] q39.2.1 (q39.2.2 + 11)).bind fun q43 =>
                          (C 29 [q33.1 1] q43.2.1 (q43.2.2)).bind fun q44 =>
                          (C 25 [q43.1, q44.1] q44.2.1 (q44.2.2)).bind fun q45 =>
                          (C 30 [q45.1, q33.1 6] q45.2.1 (q45.2.2 + 4)).bind fun q46 =>
                          (un .not q46.1).bind fun v47 =>
                          csel v47
                            (some (.bool false, q46.2.1, q46.2.2 + 1))
                            ((C 34 [q33.1 9, .int .i64 1] q46.2.1 (q46.2.2 + 5)).bind fun q48 =>
                             (binK .plain .lss q48.1 (.int .i64 0)).bind fun v49 =>
                             csel v49
                               (some (.bool false, q48.2.1, q48.2.2 + 3))
                               ((binK .plain .neq q48.1 q38.1).bind fun v50 =>
                                csel v50
                                  (some (.bool false, q48.2.1, q48.2.2 + 6))
                                  (some (.bool true, q48.2.1, q48.2.2 + 6))))))))))))
theorem s7 (C : Calling) (L : Body → Body) (t : Tm) (H : Hp) (n : Nat) : bodyK Try.prog C L Try.f7 t H n = S7 C L t H n := by kernel_rfl
theorem c7 (args : List Value) (H : Hp) (n : Nat) : Call Try.prog 7 args H n = S7 (Call Try.prog) Loop (argsT args) H n := (Call_body Try.func7 args H n).trans (s7 ..)
/-! 8: laws.FnExactMakeList -/
noncomputable def S8 (C : Calling) (L : Body → Body) (t : Tm) (H : Hp) (n : Nat) : Option (Value × Hp × Nat) :=
  (vcells (t 0)).bind fun c2 =>
  let H1 := H.set (n) (some (.row c2 0 true))
  (lenV false (t 1)).bind fun v3 =>
  (binK .plain .gtr v3 (.int .i64 1048576)).bind fun v4 =>
  csel v4
    (some (.bool true, H1, n + 6))
    ((ld true 1 (ptr (n) 0) H1).bind fun v5 =>
     (C 9 [v5, .int .i64 1048576] H1 (n + 10)).bind fun q6 =>
     (binK .plain .lss q6.1 (.int .i64 0)).bind fun v7 =>
     csel v7
       (some (.bool true, q6.2.1, q6.2.2 + 3))
       ((ld true 1 (ptr (n) 0) q6.2.1).bind fun v8 =>
        (C 12 [v8] q6.2.1 (q6.2.2 + 13)).bind fun q9 =>
        (C 29 [t 1] q9.2.1 (q9.2.2)).bind fun q10 =>
        (C 35 [q9.1, q10.1] q10.2.1 (q10.2.2)).bind fun q11 =>
        (ext 0 q11.1).bind fun v12 =>
        (ext 1 q11.1).bind fun v13 =>
        let H14 := q11.2.1.set (q6.2.2 + 10) (some (.row [nilS] 0 true))
        (st true 1 (ptr (q6.2.2 + 10) 0) v12 H14).bind fun H15 =>
        (ld true 1 (ptr (n) 0) H15).bind fun v16 =>
        (C 12 [v16] H15 (q11.2.2 + 4)).bind fun q17 =>
        let H18 := q17.2.1.set (q11.2.2 + 2) (some (.row [nilS] 0 true))
        (st true 1 (ptr (q11.2.2 + 2) 0) q17.1 H18).bind fun H19 =>
        (C 29 [t 1] H19 (q17.2.2 + 3)).bind fun q20 =>
        (ld true 1 (ptr (q11.2.2 + 2) 0) q20.2.1).bind fun v21 =>
        (C 36 [v21, q20.1] q20.2.1 (q20.2.2 + 9)).bind fun q22 =>
        (ext 0 q22.1).bind fun v23 =>
        (ext 1 q22.1).bind fun v24 =>
        let H25 := q22.2.1.set (q20.2.2 + 6) (some (.row [nilS] 0 true))
        (st true 1 (ptr (q20.2.2 + 6) 0) v23 H25).bind fun H26 =>
        (ld true 1 (ptr (q20.2.2 + 6) 0) H26).bind fun v27 =>
        (ld true 1 (ptr (q6.2.2 + 10) 0) H26).bind fun v28 =>
        (C 15 [v27, v28] H26 (q22.2.2 + 9)).bind fun q29 =>
        (un .not q29.1).bind fun v30 =>
        let t32 : Tm := put (put (put (put (put (put (put (put (put (put (put (put (put (put (put (put (put (put (put (put (put (put (put (put (put (put (put (put (put (put (put (put (put (put (put (put (put (put (put (put (put t 2 (ptr (n) 0)) 4 (.bool false)) 17 (t 1)) 18 v3) 19 v4) 5 (.int .i64 1048576)) 20 v5) 21 (.int .i64 1048576)) 22 q6.1) 5 q6.1) 23 q6.1) 24 v7) 26 v8) 27 q9.1) 28 (t 1)) 29 q10.1) 30 q11.1) 25 q11.1) 31 v12) 32 v13) 6 (ptr (q6.2.2 + 10) 0)) 7 v13) 33 v16) 34 q17.1) 8 (ptr (q11.2.2 + 2) 0)) 35 (t 1)) 36 q20.1) 9 q20.1) 38 v21) 39 q20.1) 40 q22.1) 37 q22.1) 41 v23) 42 v24) 10 (ptr (q20.2.2 + 6) 0)) 11 v24) 43 v27) 44 v28) 45 q29.1) 46 v30) 47 v30
        (gsel v30 false
          ((binK .plain .neq v24 v13).bind fun v33 =>
           some (put (put (put t32 48 v24) 49 v13) 50 v33, q29.2.1, q29.2.2))
          (some (put (put (put t32 48 (.tuple #[])) 49 (.tuple #[])) 50 (.tuple #[]), q29.2.1, q29.2.2))
        ).bind fun (q31 : R3) =>
        (pickV (q31.1 47) (.bool true) (q31.1 50)).bind fun v34 =>
        csel v34
          (some (.bool false, q31.2.1, q31.2.2 + 1))
          ((ld true 1 (q31.1 8) q31.2.1).bind fun v35 =>
           (ld true 1 (q31.1 2) q31.2.1).bind fun v36 =>
           (C 12 [v36] q31.2.1 (q31.2.2 + 5)).bind fun q37 =>
           ask (ld true 1 (q31.1 8) q37.2.1 = some v35) <|
           (C 15 [v35, q37.1] q37.2.1 (q37.2.2)).bind fun q38 =>
           (un .not q38.1).bind fun v39 =>
           csel v39
             (some (.bool false, q38.2.1, q38.2.2 + 1))
             ((C 29 [q31.1 1] q38.2.1 (q38.2.2 + 5)).bind fun q40 =>
              (C 31 [q31.1 9, q40.1] q40.2.1 (q40.2.2)).bind fun q41 =>
              (un .not q41.1).bind fun v42 =>
              csel v42
                (some (.bool false, q41.2.1, q41.2.2 + 1))
                ((ld true 1 (q31.1 8) q41.2.1).bind fun v43 =>
                 (C 16 [v43, .int .i64 1] q41.2.1 (q41.2.2 + 5)).bind fun q44 =>
                 (C 32 [q31.1 9, q44.1] q44.2.1 (q44.2.2 + 4)).bind fun q45 =>
                 (binK .plain .lss q45.1 (.int .i64 0)).bind fun v46 =>
                 let t48 : Tm := put (put (put (put (put (put (put (put (put (put (put (put (put (put (put (put (put (put (put (put (put (put (put q31.1 51 v34) 52 v35) 53 v36) 54 q37.1) 55 q38.1) 56 v39) 57 (q31.1 9)) 58 (q31.1 1)) 59 q40.1) 60 q41.1) 61 v42) 12 (.int .i64 1)) 62 v43) 63 (.int .i64 1)) 64 q44.1) 12 q44.1) 65 (q31.1 9)) 66 q44.1) 67 q45.1) 12 q45.1) 68 q45.1) 69 v46) 70 v46
                 (gsel v46 false
                   ((ld true 1 (t48 10) q45.2.1).bind fun v49 =>
                    (ld true 1 (t48 6) q45.2.1).bind fun v50 =>
                    (C 15 [v49, v50] q45.2.1 (q45.2.2 + 13)).bind fun q51 =>
                    (un .not q51.1).bind fun v52 =>
                    some (put (put (put (put t48 71 v49) 72 v50) 73 q51.1) 74 v52, q51.2.1, q51.2.2))
                   (some (put (put (put (put t48 71 (.tuple #[])) 72 (.tuple #[])) 73 (.tuple #[])) 74 (.tuple #[]), q45.2.1, q45.2.2 + 13))
                 ).bind fun (q47 : R3) =>
                 (pickV (q47.1 70) (.bool true) (q47.1 74)).bind fun v53 =>
                 let t55 : Tm := put (put q47.1 75 v53) 76 v53
                 (gsel v53 false
                   ((binK .plain .neq (t55 11) (t55 7)).bind fun v56 =>
                    some (put (put (put t55 77 (t55 11)) 78 (t55 7)) 79 v56, q47.2.1, q47.2.2))
                   (some (put (put (put t55 77 (.tuple #[])) 78 (.tuple #[])) 79 (.tuple #[]), q47.2.1, q47.2.2))
                 ).bind fun (q54 : R3) =>
                 (pickV (q54.1 76) (.bool true) (q54.1 79)).bind fun v57 =>
                 csel v57
                   (some (.bool false, q54.2.1, q54.2.2 + 1))
                   ((ld true 1 (q54.1 10) q54.2.1).bind fun v58 =>
                    (C 16 [v58, .int .i64 1] q54.2.1 (q54.2.2 + 5)).bind fun q59 =>
                    (ld true 1 (q54.1 10) q59.2.1).bind fun v60 =>
                    (C 17 [v60, .int .i64 1] q59.2.1 (q59.2.2 + 5)).bind fun q61 =>
                    (binK .plain .lss q61.1 (.int .i64 0)).bind fun v62 =>
                    csel v62
                      (some (.bool false, q61.2.1, q61.2.2 + 3))
                      ((binK .plain .neq q61.1 q59.1).bind fun v63 =>
                       csel v63
                         (some (.bool false, q61.2.1, q61.2.2 + 6))
                         ((ld true 1 (q54.1 2) q61.2.1).bind fun v64 =>
                          (C 12 [v64] q61.2.1 (q61.2.2 + 16)).bind fun q65 =>
                          (C 29 [q54.1 1] q65.2.1 (q65.2.2)).bind fun q66 =>
                          (C 36 [q65.1, q66.1] q66.2.1 (q66.2.2)).bind fun q67 =>
                          (ext 0 q67.1).bind fun v68 =>
                          (ext 1 q67.1).bind fun v69 =>
                          let H70 := q67.2.1.set (q61.2.2 + 13) (some (.row [nilS] 0 true))
                          (st true 1 (ptr (q61.2.2 + 13) 0) v68 H70).bind fun H71 =>
                          (ld true 1 (ptr (q61.2.2 + 13) 0) H71).bind fun v72 =>
                          (ld true 1 (q54.1 6) H71).bind fun v73 =>
                          (C 15 [v72, v73] H71 (q67.2.2 + 9)).bind fun q74 =>
                          (un .not q74.1).bind fun v75 =>
                          let t77 : Tm := put (put (put (put (put (put (put (put (put (put (put (put (put (put (put (put (put (put (put (put (put (put (put (put (put (put (put (put (put (put (put q54.1 80 v57) 13 (.int .i64 1)) 81 v58) 82 (.int .i64 1)) 83 q59.1) 13 q59.1) 14 (.int .i64 1)) 84 v60) 85 (.int .i64 1)) 86 q61.1) 14 q61.1) 87 q61.1) 88 v62) 89 q61.1) 90 q59.1) 91 v63) 93 v64) 94 q65.1) 95 (q54.1 1)) 96 q66.1) 97 q67.1) 92 q67.1) 98 v68) 99 v69) 15 (ptr (q61.2.2 + 13) 0)) 16 v69) 100 v72) 101 v73) 102 q74.1) 103 v75) 104 v75
                          (gsel v75 false
                            ((binK .plain .neq v69 (t77 7)).bind fun v78 =>
                             some (put (put (put t77 105 v69) 106 (t77 7)) 107 v78, q74.2.1, q74.2.2))
                            (some (put (put (put t77 105 (.tuple #[])) 106 (.tuple #[])) 107 (.tuple #[]), q74.2.1, q74.2.2))
                          ).bind fun (q76 : R3) =>
                          (pickV (q76.1 104) (.bool true) (q76.1 107)).bind fun v79 =>
                          csel v79
                            (some (.bool false, q76.2.1, q76.2.2 + 1))
                            ((ld true 1 (q76.1 10) q76.2.1).bind fun v80 =>
                             (C 17 [v80, .int .i64 1] q76.2.1 (q76.2.2 + 5)).bind fun q81 =>
                             (binK .plain .lss q81.1 (.int .i64 0)).bind fun v82 =>
                             csel v82
                               (some (.bool false, q81.2.1, q81.2.2 + 3))
                               ((binK .plain .neq q81.1 (q76.1 13)).bind fun v83 =>
                                csel v83
                                  (some (.bool false, q81.2.1, q81.2.2 + 6))
                                  (some (.bool true, q81.2.1, q81.2.2 + 6))))))))))))
theorem s8 (C : Calling) (L : Body → Body) (t : Tm) (H : Hp) (n : Nat) : bodyK Try.prog C L Try.f8 t H n = S8 C L t H n := by kernel_rfl
theorem c8 (args : List Value) (H : Hp) (n : Nat) : Call Try.prog 8 args H n = S8 (Call Try.prog) Loop (argsT args) H n := (Call_body Try.func8 args H n).trans (s8 ..)
/-! 9: laws.szPool -/
noncomputable def S9 (C : Calling) (L : Body → Body) (t : Tm) (H : Hp) (n : Nat) : Option (Value × Hp × Nat) :=
  (vcells (t 0)).bind fun c2 =>
  let H1 := H.set (n) (some (.row c2 0 true))
  (fieldA 0 (ptr (n) 0)).bind fun v3 =>
  (ld false 1 v3 H1).bind fun v4 =>
  (C 37 [v4, t 1] H1 (n + 7)).bind fun q5 =>
  (binK .plain .lss q5.1 (.int .i64 0)).bind fun v6 =>
  csel v6
    (some (.int .i64 (-1), q5.2.1, q5.2.2 + 3))
    (some (q5.1, q5.2.1, q5.2.2 + 4))
theorem s9 (C : Calling) (L : Body → Body) (t : Tm) (H : Hp) (n : Nat) : bodyK Try.prog C L Try.f9 t H n = S9 C L t H n := by kernel_rfl
theorem c9 (args : List Value) (H : Hp) (n : Nat) : Call Try.prog 9 args H n = S9 (Call Try.prog) Loop (argsT args) H n := (Call_body Try.func9 args H n).trans (s9 ..)
/-! 10: laws.szNode -/
noncomputable def S10 (C : Calling) (L : Body → Body) (t : Tm) (H : Hp) (n : Nat) : Option (Value × Hp × Nat) :=
  (vcells (t 0)).bind fun c2 =>
  let H1 := H.set (n) (some (.row c2 0 true))
  (fieldA 2 (ptr (n) 0)).bind fun v3 =>
  (ld false 1 v3 H1).bind fun v4 =>
  (lenV true v4).bind fun v5 =>
  (binK .plain .sub (t 1) v5).bind fun v6 =>
  (binK .plain .lss v6 (.int .i64 0)).bind fun v7 =>
  csel v7
    (some (.int .i64 (-1), H1, n + 11))
    (some (v6, H1, n + 12))
theorem s10 (C : Calling) (L : Body → Body) (t : Tm) (H : Hp) (n : Nat) : bodyK Try.prog C L Try.f10 t H n = S10 C L t H n := by kernel_rfl
theorem c10 (args : List Value) (H : Hp) (n : Nat) : Call Try.prog 10 args H n = S10 (Call Try.prog) Loop (argsT args) H n := (Call_body Try.func10 args H n).trans (s10 ..)
/-! 11: spec.Make -/
noncomputable def S11 (C : Calling) (L : Body → Body) (t : Tm) (H : Hp) (n : Nat) : Option (Value × Hp × Nat) :=
  (vcells (t 0)).bind fun c2 =>
  let H1 := H.set (n) (some (.row c2 0 true))
  (vcells (t 1)).bind fun c4 =>
  let H3 := H1.set (n + 1) (some (.row c4 0 true))
  let H5 := H3.set (n + 2) (some (.row [nilS] 0 true))
  (ld true 1 (ptr (n) 0) H5).bind fun v6 =>
  (C 21 [v6] H5 (n + 7)).bind fun q7 =>
  (un .not q7.1).bind fun v8 =>
  csel v8
    ((bld [nilS] []).bind fun v9 =>
     (st true 1 (ptr (n + 2) 0) v9 q7.2.1).bind fun H10 =>
     (ld true 1 (ptr (n + 2) 0) H10).bind fun v11 =>
     iteK ([v11, .int .i64 (-1)].all notTup) <|
     some (.tuple ⟨[v11, .int .i64 (-1)]⟩, H10, q7.2.2 + 3))
    ((ld true 1 (ptr (n) 0) q7.2.1).bind fun v12 =>
     (C 38 [v12] q7.2.1 (q7.2.2 + 4)).bind fun q13 =>
     let H14 := q13.2.1.set (q7.2.2 + 2) (some (.row [nilS] 0 true))
     (st true 1 (ptr (q7.2.2 + 2) 0) q13.1 H14).bind fun H15 =>
     (ld true 5 (ptr (n + 1) 0) H15).bind fun v16 =>
     (fieldA 0 (ptr (n) 0)).bind fun v17 =>
     (ld false 1 v17 H15).bind fun v18 =>
     (lenV false v18).bind fun v19 =>
     (C 39 [v16, v19] H15 (q13.2.2 + 12)).bind fun q20 =>
     (un .not q20.1).bind fun v21 =>
     let t23 : Tm := put (put (put (put (put (put (put (put (put (put (put (put (put (put (put (put (put t 2 (ptr (n) 0)) 3 (ptr (n + 1) 0)) 4 (ptr (n + 2) 0)) 5 (.int .i64 0)) 7 v6) 8 q7.1) 9 v8) 11 v12) 12 q13.1) 6 (ptr (q7.2.2 + 2) 0)) 13 v16) 14 v17) 15 v18) 16 v19) 17 q20.1) 18 v21) 19 v21
     (gsel v21 false
       ((fieldA 0 (ptr (n) 0)).bind fun v24 =>
        (ld false 1 v24 q20.2.1).bind fun v25 =>
        (lenV false v25).bind fun v26 =>
        (binK .plain .eql v26 (.int .i64 3000)).bind fun v27 =>
        some (put (put (put (put t23 20 v24) 21 v25) 22 v26) 23 v27, q20.2.1, q20.2.2))
       (some (put (put (put (put t23 20 (.tuple #[])) 21 (.tuple #[])) 22 (.tuple #[])) 23 (.tuple #[]), q20.2.1, q20.2.2))
     ).bind fun (q22 : R3) =>
     (pickV (q22.1 19) (.bool true) (q22.1 23)).bind fun v28 =>
     csel v28
       ((ld true 1 (q22.1 6) q22.2.1).bind fun v29 =>
        (st true 1 (q22.1 4) v29 q22.2.1).bind fun H30 =>
        (ld true 1 (q22.1 4) H30).bind fun v31 =>
        iteK ([v31, .int .i64 (-1)].all notTup) <|
        some (.tuple ⟨[v31, .int .i64 (-1)]⟩, H30, q22.2.2 + 3))
       ((fieldA 0 (q22.1 6)).bind fun v32 =>
        (ld false 1 v32 q22.2.1).bind fun v33 =>
        (ld true 5 (q22.1 3) q22.2.1).bind fun v34 =>
        (bsl (q22.2.2 + 3) 5 1 [.int .i64 0, .int .i64 0, .string ⟨#[]⟩, .int .i64 0, .int .i64 0] [(0, 5, v34)] q22.2.1).bind fun p35 =>
        (app (q22.2.2 + 4) 5 48 v33 p35.1 p35.2).bind fun p36 =>
        (fieldA 0 (q22.1 6)).bind fun v37 =>
        (st false 1 v37 p36.1 p36.2).bind fun H38 =>
        (ld true 1 (q22.1 6) H38).bind fun v39 =>
        (fieldA 0 (q22.1 2)).bind fun v40 =>
        (ld false 1 v40 H38).bind fun v41 =>
        (lenV false v41).bind fun v42 =>
        (st true 1 (q22.1 4) v39 H38).bind fun H43 =>
        ask (ld false 1 v40 H43 = some v41) <|
        (ld true 1 (q22.1 4) H43).bind fun v44 =>
        iteK ([v44, v42].all notTup) <|
        some (.tuple ⟨[v44, v42]⟩, H43, q22.2.2 + 13)))
theorem s11 (C : Calling) (L : Body → Body) (t : Tm) (H : Hp) (n : Nat) : bodyK Try.prog C L Try.f11 t H n = S11 C L t H n := by kernel_rfl
theorem c11 (args : List Value) (H : Hp) (n : Nat) : Call Try.prog 11 args H n = S11 (Call Try.prog) Loop (argsT args) H n := (Call_body Try.func11 args H n).trans (s11 ..)
/-! 12: laws.toPool -/
noncomputable def S12 (C : Calling) (L : Body → Body) (t : Tm) (H : Hp) (n : Nat) : Option (Value × Hp × Nat) :=
  (vcells (t 0)).bind fun c2 =>
  let H1 := H.set (n) (some (.row c2 0 true))
  let H3 := H1.set (n + 1) (some (.row [nilS] 0 true))
  let H4 := H3.set (n + 2) (some (.row [nilS] 0 true))
  (fieldA 0 (ptr (n) 0)).bind fun v5 =>
  (ld false 1 v5 H4).bind fun v6 =>
  (C 40 [v6] H4 (n + 8)).bind fun q7 =>
  (fieldA 0 (ptr (n + 2) 0)).bind fun v8 =>
  (st false 1 v8 q7.1 q7.2.1).bind fun H9 =>
  (ld true 1 (ptr (n + 2) 0) H9).bind fun v10 =>
  (st true 1 (ptr (n + 1) 0) v10 H9).bind fun H11 =>
  (ld true 1 (ptr (n + 1) 0) H11).bind fun v12 =>
  some (v12, H11, q7.2.2 + 2)
theorem s12 (C : Calling) (L : Body → Body) (t : Tm) (H : Hp) (n : Nat) : bodyK Try.prog C L Try.f12 t H n = S12 C L t H n := by kernel_rfl
theorem c12 (args : List Value) (H : Hp) (n : Nat) : Call Try.prog 12 args H n = S12 (Call Try.prog) Loop (argsT args) H n := (Call_body Try.func12 args H n).trans (s12 ..)
/-! 13: laws.toNode -/
noncomputable def S13 (C : Calling) (L : Body → Body) (t : Tm) (H : Hp) (n : Nat) : Option (Value × Hp × Nat) :=
  (vcells (t 0)).bind fun c2 =>
  let H1 := H.set (n) (some (.row c2 0 true))
  let H3 := H1.set (n + 1) (some (.row [.int .i64 0, .int .i64 0, .string ⟨#[]⟩, .int .i64 0, .int .i64 0] 0 true))
  let H4 := H3.set (n + 2) (some (.row [.int .i64 0, .int .i64 0, .string ⟨#[]⟩, .int .i64 0, .int .i64 0] 0 true))
  (fieldA 0 (ptr (n) 0)).bind fun v5 =>
  (ld false 1 v5 H4).bind fun v6 =>
  (fieldA 0 (ptr (n + 2) 0)).bind fun v7 =>
  (st false 1 v7 v6 H4).bind fun H8 =>
  (fieldA 1 (ptr (n) 0)).bind fun v9 =>
  (ld false 1 v9 H8).bind fun v10 =>
  (fieldA 1 (ptr (n + 2) 0)).bind fun v11 =>
  (st false 1 v11 v10 H8).bind fun H12 =>
  (fieldA 2 (ptr (n) 0)).bind fun v13 =>
  (ld false 1 v13 H12).bind fun v14 =>
  (fieldA 2 (ptr (n + 2) 0)).bind fun v15 =>
  (st false 1 v15 v14 H12).bind fun H16 =>
  (fieldA 3 (ptr (n) 0)).bind fun v17 =>
  (ld false 1 v17 H16).bind fun v18 =>
  (fieldA 3 (ptr (n + 2) 0)).bind fun v19 =>
  (st false 1 v19 v18 H16).bind fun H20 =>
  (fieldA 4 (ptr (n) 0)).bind fun v21 =>
  (ld false 1 v21 H20).bind fun v22 =>
  (fieldA 4 (ptr (n + 2) 0)).bind fun v23 =>
  (st false 1 v23 v22 H20).bind fun H24 =>
  (ld true 5 (ptr (n + 2) 0) H24).bind fun v25 =>
  (st true 5 (ptr (n + 1) 0) v25 H24).bind fun H26 =>
  (ld true 5 (ptr (n + 1) 0) H26).bind fun v27 =>
  some (v27, H26, n + 25)
theorem s13 (C : Calling) (L : Body → Body) (t : Tm) (H : Hp) (n : Nat) : bodyK Try.prog C L Try.f13 t H n = S13 C L t H n := by kernel_rfl
theorem c13 (args : List Value) (H : Hp) (n : Nat) : Call Try.prog 13 args H n = S13 (Call Try.prog) Loop (argsT args) H n := (Call_body Try.func13 args H n).trans (s13 ..)
/-! 14: impl.Make -/
noncomputable def S14 (C : Calling) (L : Body → Body) (t : Tm) (H : Hp) (n : Nat) : Option (Value × Hp × Nat) :=
  (vcells (t 0)).bind fun c2 =>
  let H1 := H.set (n) (some (.row c2 0 true))
  (vcells (t 1)).bind fun c4 =>
  let H3 := H1.set (n + 1) (some (.row c4 0 true))
  let H5 := H3.set (n + 2) (some (.row [nilS] 0 true))
  (ld true 1 (ptr (n) 0) H5).bind fun v6 =>
  (C 20 [v6] H5 (n + 7)).bind fun q7 =>
  (un .not q7.1).bind fun v8 =>
  csel v8
    ((bld [nilS] []).bind fun v9 =>
     (st true 1 (ptr (n + 2) 0) v9 q7.2.1).bind fun H10 =>
     (ld true 1 (ptr (n + 2) 0) H10).bind fun v11 =>
     iteK ([v11, .int .i64 (-1)].all notTup) <|
     some (.tuple ⟨[v11, .int .i64 (-1)]⟩, H10, q7.2.2 + 3))
    ((ld true 1 (ptr (n) 0) q7.2.1).bind fun v12 =>
     (C 41 [v12] q7.2.1 (q7.2.2 + 4)).bind fun q13 =>
     let H14 := q13.2.1.set (q7.2.2 + 2) (some (.row [nilS] 0 true))
     (st true 1 (ptr (q7.2.2 + 2) 0) q13.1 H14).bind fun H15 =>
     (ld true 5 (ptr (n + 1) 0) H15).bind fun v16 =>
     (C 42 [ptr (q7.2.2 + 2) 0, v16] H15 (q13.2.2 + 3)).bind fun q17 =>
     (ld true 1 (ptr (n) 0) q17.2.1).bind fun v18 =>
     (ld true 1 (ptr (q7.2.2 + 2) 0) q17.2.1).bind fun v19 =>
     (C 43 [v18, v19, q17.1] q17.2.1 (q17.2.2 + 8)).bind fun q20 =>
     (ext 0 q20.1).bind fun v21 =>
     (ext 1 q20.1).bind fun v22 =>
     (st true 1 (ptr (n + 2) 0) v21 q20.2.1).bind fun H23 =>
     (ld true 1 (ptr (n + 2) 0) H23).bind fun v24 =>
     iteK ([v24, v22].all notTup) <|
     some (.tuple ⟨[v24, v22]⟩, H23, q20.2.2))
theorem s14 (C : Calling) (L : Body → Body) (t : Tm) (H : Hp) (n : Nat) : bodyK Try.prog C L Try.f14 t H n = S14 C L t H n := by kernel_rfl
theorem c14 (args : List Value) (H : Hp) (n : Nat) : Call Try.prog 14 args H n = S14 (Call Try.prog) Loop (argsT args) H n := (Call_body Try.func14 args H n).trans (s14 ..)
/-! 15: laws.eqPool -/
noncomputable def S15 (C : Calling) (L : Body → Body) (t : Tm) (H : Hp) (n : Nat) : Option (Value × Hp × Nat) :=
  (vcells (t 0)).bind fun c2 =>
  let H1 := H.set (n) (some (.row c2 0 true))
  (vcells (t 1)).bind fun c4 =>
  let H3 := H1.set (n + 1) (some (.row c4 0 true))
  (fieldA 0 (ptr (n) 0)).bind fun v5 =>
  (ld false 1 v5 H3).bind fun v6 =>
  (fieldA 0 (ptr (n + 1) 0)).bind fun v7 =>
  (ld false 1 v7 H3).bind fun v8 =>
  (C 44 [v6, v8] H3 (n + 9)).bind fun q9 =>
  (un .not q9.1).bind fun v10 =>
  csel v10
    (some (.bool false, q9.2.1, q9.2.2 + 1))
    (some (.bool true, q9.2.1, q9.2.2 + 1))
theorem s15 (C : Calling) (L : Body → Body) (t : Tm) (H : Hp) (n : Nat) : bodyK Try.prog C L Try.f15 t H n = S15 C L t H n := by kernel_rfl
theorem c15 (args : List Value) (H : Hp) (n : Nat) : Call Try.prog 15 args H n = S15 (Call Try.prog) Loop (argsT args) H n := (Call_body Try.func15 args H n).trans (s15 ..)
/-! 16: laws.markPool -/
noncomputable def S16 (C : Calling) (L : Body → Body) (t : Tm) (H : Hp) (n : Nat) : Option (Value × Hp × Nat) :=
  (vcells (t 0)).bind fun c2 =>
  let H1 := H.set (n) (some (.row c2 0 true))
  (fieldA 0 (ptr (n) 0)).bind fun v3 =>
  (ld false 1 v3 H1).bind fun v4 =>
  (C 45 [v4, t 1] H1 (n + 7)).bind fun q5 =>
  some (q5.1, q5.2.1, q5.2.2 + 2)
theorem s16 (C : Calling) (L : Body → Body) (t : Tm) (H : Hp) (n : Nat) : bodyK Try.prog C L Try.f16 t H n = S16 C L t H n := by kernel_rfl
theorem c16 (args : List Value) (H : Hp) (n : Nat) : Call Try.prog 16 args H n = S16 (Call Try.prog) Loop (argsT args) H n := (Call_body Try.func16 args H n).trans (s16 ..)
/-! 17: laws.heldPool -/
noncomputable def S17 (C : Calling) (L : Body → Body) (t : Tm) (H : Hp) (n : Nat) : Option (Value × Hp × Nat) :=
  (vcells (t 0)).bind fun c2 =>
  let H1 := H.set (n) (some (.row c2 0 true))
  (fieldA 0 (ptr (n) 0)).bind fun v3 =>
  (ld false 1 v3 H1).bind fun v4 =>
  (C 46 [v4, t 1] H1 (n + 7)).bind fun q5 =>
  (binK .plain .lss q5.1 (.int .i64 0)).bind fun v6 =>
  csel v6
    (some (.int .i64 (-1), q5.2.1, q5.2.2 + 3))
    (some (q5.1, q5.2.1, q5.2.2 + 4))
theorem s17 (C : Calling) (L : Body → Body) (t : Tm) (H : Hp) (n : Nat) : bodyK Try.prog C L Try.f17 t H n = S17 C L t H n := by kernel_rfl
theorem c17 (args : List Value) (H : Hp) (n : Nat) : Call Try.prog 17 args H n = S17 (Call Try.prog) Loop (argsT args) H n := (Call_body Try.func17 args H n).trans (s17 ..)
/-! 18: laws.big -/
noncomputable def S18 (C : Calling) (L : Body → Body) (t : Tm) (H : Hp) (n : Nat) : Option (Value × Hp × Nat) :=
  (lenV false (t 0)).bind fun v1 =>
  (binK .plain .gtr v1 (.int .i64 1048576)).bind fun v2 =>
  some (v2, H, n + 5)
theorem s18 (C : Calling) (L : Body → Body) (t : Tm) (H : Hp) (n : Nat) : bodyK Try.prog C L Try.f18 t H n = S18 C L t H n := by kernel_rfl
theorem c18 (args : List Value) (H : Hp) (n : Nat) : Call Try.prog 18 args H n = S18 (Call Try.prog) Loop (argsT args) H n := (Call_body Try.func18 args H n).trans (s18 ..)
/-! 19: spec.DrawMake -/
noncomputable def S19 (C : Calling) (L : Body → Body) (t : Tm) (H : Hp) (n : Nat) : Option (Value × Hp × Nat) :=
  let H1 := H.set (n) (some (.row [nilS] 0 true))
  let H2 := H1.set (n + 1) (some (.row [.int .i64 0, .int .i64 0, .string ⟨#[]⟩, .int .i64 0, .int .i64 0] 0 true))
  (C 47 [t 0] H2 (n + 5)).bind fun q3 =>
  (C 48 [q3.1] q3.2.1 (q3.2.2 + 4)).bind fun q4 =>
  let H5 := q4.2.1.set (q3.2.2 + 2) (some (.row [nilS] 0 true))
  (st true 1 (ptr (q3.2.2 + 2) 0) q4.1 H5).bind fun H6 =>
  (fieldA 0 (ptr (q3.2.2 + 2) 0)).bind fun v7 =>
  (ld false 1 v7 H6).bind fun v8 =>
  (lenV false v8).bind fun v9 =>
  (C 49 [q3.1, v9] H6 (q4.2.2 + 7)).bind fun q10 =>
  let H11 := q10.2.1.set (q4.2.2 + 5) (some (.row [.int .i64 0, .int .i64 0, .string ⟨#[]⟩, .int .i64 0, .int .i64 0] 0 true))
  (st true 5 (ptr (q4.2.2 + 5) 0) q10.1 H11).bind fun H12 =>
  (C 50 [q3.1, .int .i64 5] H12 (q10.2.2 + 2)).bind fun q13 =>
  let t15 : Tm := put (put (put (put (put (put (put (put (put (put (put (put (put (put (put (put t 2 (ptr (n) 0)) 3 (ptr (n + 1) 0)) 7 (t 0)) 8 q3.1) 4 q3.1) 9 q3.1) 10 q4.1) 5 (ptr (q3.2.2 + 2) 0)) 11 q3.1) 12 v7) 13 v8) 14 v9) 15 q10.1) 6 (ptr (q4.2.2 + 5) 0)) 16 q3.1) 17 q13.1
  (csel q13.1
    ((ld true 5 (ptr (q4.2.2 + 5) 0) q13.2.1).bind fun v16 =>
     (C 51 [q3.1, v16] q13.2.1 (q13.2.2 + 4)).bind fun q17 =>
     (st true 5 (ptr (q4.2.2 + 5) 0) q17.1 q17.2.1).bind fun H18 =>
     some ⟨.normal, put (put (put t15 18 q3.1) 19 v16) 20 q17.1, H18, q17.2.2⟩)
    (some ⟨.normal, t15, q13.2.1, q13.2.2⟩)
  ).bind fun (o14 : Out) =>
  (ld true 1 (o14.t 5) o14.H).bind fun v19 =>
  (ld true 5 (o14.t 6) o14.H).bind fun v20 =>
  (st true 1 (o14.t 2) v19 o14.H).bind fun H21 =>
  ask (ld true 5 (o14.t 6) H21 = some v20) <|
  (st true 5 (o14.t 3) v20 H21).bind fun H22 =>
  (ld true 1 (o14.t 2) H22).bind fun v23 =>
  (ld true 5 (o14.t 3) H22).bind fun v24 =>
  iteK ([v23, v24].all notTup) <|
  some (.tuple ⟨[v23, v24]⟩, H22, o14.n + 4)
theorem s19 (C : Calling) (L : Body → Body) (t : Tm) (H : Hp) (n : Nat) : bodyK Try.prog C L Try.f19 t H n = S19 C L t H n := by kernel_rfl
theorem c19 (args : List Value) (H : Hp) (n : Nat) : Call Try.prog 19 args H n = S19 (Call Try.prog) Loop (argsT args) H n := (Call_body Try.func19 args H n).trans (s19 ..)
/-! 20: impl.PoolOk -/
noncomputable def S20L0 (C : Calling) (L : Body → Body) : Body := fun t H n =>
  (binK .plain .lss (t 8) (t 7)).bind fun v7 =>
  csel v7
    ((idxA 5 (t 6) (t 8)).bind fun v8 =>
     (ld true 5 v8 H).bind fun v9 =>
     let H10 := H.set (n + 4) (some (.row [.int .i64 0, .int .i64 0, .string ⟨#[]⟩, .int .i64 0, .int .i64 0] 0 true))
     (st true 5 (ptr (n + 4) 0) v9 H10).bind fun H11 =>
     (ld true 5 (ptr (n + 4) 0) H11).bind fun v12 =>
     (C 52 [v12, t 8] H11 (n + 11)).bind fun q13 =>
     (un .not q13.1).bind fun v14 =>
     csel v14
       (some ⟨.ret, put (put (put (put (put (put (put (put (put (put (put t 9 v7) 10 (t 8)) 11 v8) 12 v9) 4 (ptr (n + 4) 0)) 3 (t 8)) 13 v12) 14 (t 8)) 15 q13.1) 16 v14) 2 (.bool false), q13.2.1, q13.2.2 + 1⟩)
       ((binK .plain .add (t 8) (.int .i64 1)).bind fun v15 =>
        some ⟨.normal, put (put (put (put (put (put (put (put (put (put (put (put t 9 v7) 10 (t 8)) 11 v8) 12 v9) 4 (ptr (n + 4) 0)) 3 (t 8)) 13 v12) 14 (t 8)) 15 q13.1) 16 v14) 17 v15) 8 v15, q13.2.1, q13.2.2 + 2⟩))
    (some ⟨(.exit 0), put t 9 v7, H, n + 1⟩)
noncomputable def S20 (C : Calling) (L : Body → Body) (t : Tm) (H : Hp) (n : Nat) : Option (Value × Hp × Nat) :=
  (vcells (t 0)).bind fun c2 =>
  let H1 := H.set (n) (some (.row c2 0 true))
  (fieldA 0 (ptr (n) 0)).bind fun v3 =>
  (ld false 1 v3 H1).bind fun v4 =>
  (lenV false v4).bind fun v5 =>
  (L (S20L0 C L) (put (put (put (put (put (put t 1 (ptr (n) 0)) 2 (.bool false)) 5 v3) 6 v4) 7 v5) 8 (.int .i64 0)) H1 (n + 6)).bind fun (o6 : Out) =>
  let o16 := outOf 0 o6
  thenK o16
    ((fieldA 0 (o16.t 1)).bind fun v17 =>
     (ld false 1 v17 o16.H).bind fun v18 =>
     (lenV false v18).bind fun v19 =>
     (binK .plain .leq v19 (.int .i64 3000)).bind fun v20 =>
     some (v20, o16.H, o16.n + 5))
    (finE o16.e
       (some (o16.t 2, o16.H, o16.n)))
theorem s20 (C : Calling) (L : Body → Body) (t : Tm) (H : Hp) (n : Nat) : bodyK Try.prog C L Try.f20 t H n = S20 C L t H n := by kernel_rfl
theorem c20 (args : List Value) (H : Hp) (n : Nat) : Call Try.prog 20 args H n = S20 (Call Try.prog) Loop (argsT args) H n := (Call_body Try.func20 args H n).trans (s20 ..)
/-! 21: spec.PoolOk -/
noncomputable def S21L0 (C : Calling) (L : Body → Body) : Body := fun t H n =>
  (fieldA 0 (t 1)).bind fun v4 =>
  (ld false 1 v4 H).bind fun v5 =>
  (lenV false v5).bind fun v6 =>
  (binK .plain .lss (t 3) v6).bind fun v7 =>
  csel v7
    ((fieldA 0 (t 1)).bind fun v8 =>
     (ld false 1 v8 H).bind fun v9 =>
     (idxA 5 v9 (t 3)).bind fun v10 =>
     (ld true 5 v10 H).bind fun v11 =>
     (C 39 [v11, t 3] H (n + 13)).bind fun q12 =>
     (un .not q12.1).bind fun v13 =>
     csel v13
       (some ⟨.ret, put (put (put (put (put (put (put (put (put (put (put (put (put (put t 4 (t 3)) 5 v4) 6 v5) 7 v6) 8 v7) 11 v8) 12 v9) 13 (t 3)) 14 v10) 15 v11) 16 (t 3)) 17 q12.1) 18 v13) 2 (.bool false), q12.2.1, q12.2.2 + 1⟩)
       ((binK .plain .add (t 3) (.int .i64 1)).bind fun v14 =>
        some ⟨.normal, put (put (put (put (put (put (put (put (put (put (put (put (put (put (put (put t 4 (t 3)) 5 v4) 6 v5) 7 v6) 8 v7) 11 v8) 12 v9) 13 (t 3)) 14 v10) 15 v11) 16 (t 3)) 17 q12.1) 18 v13) 9 (t 3)) 10 v14) 3 v14, q12.2.1, q12.2.2 + 3⟩))
    (some ⟨(.exit 0), put (put (put (put (put t 4 (t 3)) 5 v4) 6 v5) 7 v6) 8 v7, H, n + 5⟩)
noncomputable def S21 (C : Calling) (L : Body → Body) (t : Tm) (H : Hp) (n : Nat) : Option (Value × Hp × Nat) :=
  (vcells (t 0)).bind fun c2 =>
  let H1 := H.set (n) (some (.row c2 0 true))
  (L (S21L0 C L) (put (put (put t 1 (ptr (n) 0)) 2 (.bool false)) 3 (.int .i64 0)) H1 (n + 3)).bind fun (o3 : Out) =>
  let o15 := outOf 0 o3
  thenK o15
    ((fieldA 0 (o15.t 1)).bind fun v16 =>
     (ld false 1 v16 o15.H).bind fun v17 =>
     (lenV false v17).bind fun v18 =>
     (binK .plain .leq v18 (.int .i64 3000)).bind fun v19 =>
     some (v19, o15.H, o15.n + 5))
    (finE o15.e
       (some (o15.t 2, o15.H, o15.n)))
theorem s21 (C : Calling) (L : Body → Body) (t : Tm) (H : Hp) (n : Nat) : bodyK Try.prog C L Try.f21 t H n = S21 C L t H n := by kernel_rfl
theorem c21 (args : List Value) (H : Hp) (n : Nat) : Call Try.prog 21 args H n = S21 (Call Try.prog) Loop (argsT args) H n := (Call_body Try.func21 args H n).trans (s21 ..)
/-! 22: impl.Same -/
noncomputable def S22 (C : Calling) (L : Body → Body) (t : Tm) (H : Hp) (n : Nat) : Option (Value × Hp × Nat) :=
  (vcells (t 0)).bind fun c2 =>
  let H1 := H.set (n) (some (.row c2 0 true))
  (ld true 1 (ptr (n) 0) H1).bind fun v3 =>
  (C 20 [v3] H1 (n + 17)).bind fun q4 =>
  (un .not q4.1).bind fun v5 =>
  let t7 : Tm := put (put (put (put (put (put t 3 (ptr (n) 0)) 6 (.bool false)) 8 v3) 9 q4.1) 10 v5) 11 v5
  (gsel v5 false
    ((ld true 1 (ptr (n) 0) q4.2.1).bind fun v8 =>
     (C 53 [v8, t7 1] q4.2.1 (q4.2.2)).bind fun q9 =>
     (un .not q9.1).bind fun v10 =>
     some (put (put (put (put t7 12 v8) 13 (t7 1)) 14 q9.1) 15 v10, q9.2.1, q9.2.2))
    (some (put (put (put (put t7 12 (.tuple #[])) 13 (.tuple #[])) 14 (.tuple #[])) 15 (.tuple #[]), q4.2.1, q4.2.2))
  ).bind fun (q6 : R3) =>
  (pickV (q6.1 11) (.bool true) (q6.1 15)).bind fun v11 =>
  let t13 : Tm := put (put q6.1 16 v11) 17 v11
  (gsel v11 false
    ((ld true 1 (t13 3) q6.2.1).bind fun v14 =>
     (C 53 [v14, t13 2] q6.2.1 (q6.2.2)).bind fun q15 =>
     (un .not q15.1).bind fun v16 =>
     some (put (put (put (put t13 18 v14) 19 (t13 2)) 20 q15.1) 21 v16, q15.2.1, q15.2.2))
    (some (put (put (put (put t13 18 (.tuple #[])) 19 (.tuple #[])) 20 (.tuple #[])) 21 (.tuple #[]), q6.2.1, q6.2.2))
  ).bind fun (q12 : R3) =>
  (pickV (q12.1 17) (.bool true) (q12.1 21)).bind fun v17 =>
  csel v17
    (some (.bool false, q12.2.1, q12.2.2 + 1))
    ((ld true 1 (q12.1 3) q12.2.1).bind fun v18 =>
     (C 54 [v18] q12.2.1 (q12.2.2 + 3)).bind fun q19 =>
     (idxA 1 q19.1 (q12.1 1)).bind fun v20 =>
     (ld false 1 v20 q19.2.1).bind fun v21 =>
     (idxA 1 q19.1 (q12.1 2)).bind fun v22 =>
     (ld false 1 v22 q19.2.1).bind fun v23 =>
     (binK .plain .eql v21 v23).bind fun v24 =>
     some (v24, q19.2.1, q19.2.2 + 10))
theorem s22 (C : Calling) (L : Body → Body) (t : Tm) (H : Hp) (n : Nat) : bodyK Try.prog C L Try.f22 t H n = S22 C L t H n := by kernel_rfl
theorem c22 (args : List Value) (H : Hp) (n : Nat) : Call Try.prog 22 args H n = S22 (Call Try.prog) Loop (argsT args) H n := (Call_body Try.func22 args H n).trans (s22 ..)
/-! 23: impl.SizeOf -/
noncomputable def S23L0 (C : Calling) (L : Body → Body) : Body := fun t H n =>
  (binK .plain .lss (t 22) (t 21)).bind fun v17 =>
  csel v17
    ((idxA 5 (t 20) (t 22)).bind fun v18 =>
     (ld true 5 v18 H).bind fun v19 =>
     let H20 := H.set (n + 3) (some (.row [.int .i64 0, .int .i64 0, .string ⟨#[]⟩, .int .i64 0, .int .i64 0] 0 true))
     (st true 5 (ptr (n + 3) 0) v19 H20).bind fun H21 =>
     (fieldA 0 (ptr (n + 3) 0)).bind fun v22 =>
     (ld false 1 v22 H21).bind fun v23 =>
     (binK .plain .eql v23 (.int .i64 5)).bind fun v24 =>
     let t26 : Tm := put (put (put (put (put (put (put (put (put t 23 v17) 24 v18) 25 v19) 7 (ptr (n + 3) 0)) 8 (.int .i64 1)) 26 v22) 27 v23) 29 v24) 28 v24
     (csel v24
       ((fieldA 3 (ptr (n + 3) 0)).bind fun v27 =>
        (ld false 1 v27 H21).bind fun v28 =>
        (idxA 1 (t26 5) v28).bind fun v29 =>
        (ld false 1 v29 H21).bind fun v30 =>
        (fieldA 4 (ptr (n + 3) 0)).bind fun v31 =>
        (ld false 1 v31 H21).bind fun v32 =>
        (idxA 1 (t26 5) v32).bind fun v33 =>
        (ld false 1 v33 H21).bind fun v34 =>
        (binK .plain .add v30 v34).bind fun v35 =>
        (binK .plain .add (.int .i64 1) v35).bind fun v36 =>
        some ⟨.normal, put (put (put (put (put (put (put (put (put (put (put (put (put (put t26 30 (.int .i64 1)) 31 (t26 5)) 32 v27) 33 v28) 34 v29) 35 v30) 36 (t26 5)) 37 v31) 38 v32) 39 v33) 40 v34) 41 v35) 42 v36) 8 v36, H21, n + 24⟩)
       ((binK .plain .eql v23 (.int .i64 6)).bind fun v37 =>
        let t39 : Tm := put (put t26 44 v37) 43 v37
        (csel v37
          (some ⟨.normal, t39, H21, n + 12⟩)
          ((binK .plain .eql v23 (.int .i64 7)).bind fun v40 =>
           some ⟨.normal, put (put t39 45 v40) 43 v40, H21, n + 14⟩)
        ).bind fun (o38 : Out) =>
        (csel (o38.t 43)
          ((fieldA 3 (o38.t 7)).bind fun v43 =>
           (ld false 1 v43 o38.H).bind fun v44 =>
           (idxA 1 (o38.t 5) v44).bind fun v45 =>
           (ld false 1 v45 o38.H).bind fun v46 =>
           (binK .plain .add (o38.t 8) v46).bind fun v47 =>
           some ⟨.normal, put (put (put (put (put (put (put (put o38.t 46 (o38.t 8)) 47 (o38.t 5)) 48 v43) 49 v44) 50 v45) 51 v46) 52 v47) 8 v47, o38.H, o38.n + 8⟩)
          (some ⟨.normal, o38.t, o38.H, o38.n⟩)
        ).bind fun (o41 : Out) =>
        some ⟨.normal, o41.t, o41.H, o41.n⟩)
     ).bind fun (o25 : Out) =>
     (minV (o25.t 8) (.int .i64 1000000000)).bind fun v48 =>
     (bsl (o25.n + 3) 1 1 [.int .i64 0] [(0, 1, v48)] o25.H).bind fun p49 =>
     (app (o25.n + 4) 1 8 (o25.t 5) p49.1 p49.2).bind fun p50 =>
     (binK .plain .add (o25.t 22) (.int .i64 1)).bind fun v51 =>
     some ⟨.normal, put (put (put (put (put (put (put (put o25.t 53 (o25.t 5)) 54 (o25.t 8)) 55 v48) 56 p49.1) 57 p50.1) 5 p50.1) 58 v51) 22 v51, p50.2, o25.n + 8⟩)
    (some ⟨(.exit 0), put t 23 v17, H, n + 1⟩)
noncomputable def S23 (C : Calling) (L : Body → Body) (t : Tm) (H : Hp) (n : Nat) : Option (Value × Hp × Nat) :=
  (vcells (t 0)).bind fun c2 =>
  let H1 := H.set (n) (some (.row c2 0 true))
  (ld true 1 (ptr (n) 0) H1).bind fun v3 =>
  (C 20 [v3] H1 (n + 11)).bind fun q4 =>
  (un .not q4.1).bind fun v5 =>
  let t7 : Tm := put (put (put (put (put (put t 2 (ptr (n) 0)) 4 (.int .i64 0)) 9 v3) 10 q4.1) 11 v5) 12 v5
  (gsel v5 false
    ((ld true 1 (ptr (n) 0) q4.2.1).bind fun v8 =>
     (C 53 [v8, t7 1] q4.2.1 (q4.2.2)).bind fun q9 =>
     (un .not q9.1).bind fun v10 =>
     some (put (put (put (put t7 13 v8) 14 (t7 1)) 15 q9.1) 16 v10, q9.2.1, q9.2.2))
    (some (put (put (put (put t7 13 (.tuple #[])) 14 (.tuple #[])) 15 (.tuple #[])) 16 (.tuple #[]), q4.2.1, q4.2.2))
  ).bind fun (q6 : R3) =>
  (pickV (q6.1 12) (.bool true) (q6.1 16)).bind fun v11 =>
  csel v11
    (some (.int .i64 0, q6.2.1, q6.2.2 + 1))
    ((bsl (q6.2.2) 1 0 [.int .i64 0] [] q6.2.1).bind fun p12 =>
     (fieldA 0 (q6.1 2)).bind fun v13 =>
     (ld false 1 v13 p12.2).bind fun v14 =>
     (lenV false v14).bind fun v15 =>
     (L (S23L0 C L) (put (put (put (put (put (put (put q6.1 17 v11) 18 p12.1) 5 p12.1) 19 v13) 20 v14) 21 v15) 22 (.int .i64 0)) p12.2 (q6.2.2 + 6)).bind fun (o16 : Out) =>
     (idxA 1 (o16.t 5) (o16.t 1)).bind fun v52 =>
     (ld false 1 v52 o16.H).bind fun v53 =>
     some (v53, o16.H, o16.n + 5))
theorem s23 (C : Calling) (L : Body → Body) (t : Tm) (H : Hp) (n : Nat) : bodyK Try.prog C L Try.f23 t H n = S23 C L t H n := by kernel_rfl
theorem c23 (args : List Value) (H : Hp) (n : Nat) : Call Try.prog 23 args H n = S23 (Call Try.prog) Loop (argsT args) H n := (Call_body Try.func23 args H n).trans (s23 ..)
/-! 24: spec.DrawReach -/
noncomputable def S24 (C : Calling) (L : Body → Body) (t : Tm) (H : Hp) (n : Nat) : Option (Value × Hp × Nat) :=
  let H1 := H.set (n) (some (.row [nilS] 0 true))
  (C 47 [t 0] H1 (n + 5)).bind fun q2 =>
  (C 48 [q2.1] q2.2.1 (q2.2.2 + 4)).bind fun q3 =>
  let H4 := q3.2.1.set (q2.2.2 + 2) (some (.row [nilS] 0 true))
  (st true 1 (ptr (q2.2.2 + 2) 0) q3.1 H4).bind fun H5 =>
  (ld true 1 (ptr (q2.2.2 + 2) 0) H5).bind fun v6 =>
  (ld true 1 (ptr (q2.2.2 + 2) 0) H5).bind fun v7 =>
  (C 55 [q2.1, v7] H5 (q3.2.2 + 6)).bind fun q8 =>
  ask (ld true 1 (ptr (q2.2.2 + 2) 0) q8.2.1 = some v6) <|
  (st true 1 (ptr (n) 0) v6 q8.2.1).bind fun H9 =>
  (ld true 1 (ptr (n) 0) H9).bind fun v10 =>
  iteK ([v10, q8.1].all notTup) <|
  some (.tuple ⟨[v10, q8.1]⟩, H9, q8.2.2)
theorem s24 (C : Calling) (L : Body → Body) (t : Tm) (H : Hp) (n : Nat) : bodyK Try.prog C L Try.f24 t H n = S24 C L t H n := by kernel_rfl
theorem c24 (args : List Value) (H : Hp) (n : Nat) : Call Try.prog 24 args H n = S24 (Call Try.prog) Loop (argsT args) H n := (Call_body Try.func24 args H n).trans (s24 ..)
/-! 25: impl.Reach -/
noncomputable def S25 (C : Calling) (L : Body → Body) (t : Tm) (H : Hp) (n : Nat) : Option (Value × Hp × Nat) :=
  (vcells (t 0)).bind fun c2 =>
  let H1 := H.set (n) (some (.row c2 0 true))
  (ld true 1 (ptr (n) 0) H1).bind fun v3 =>
  (C 56 [v3, t 1] H1 (n + 6)).bind fun q4 =>
  (un .not q4.1).bind fun v5 =>
  csel v5
    (some (nilS, q4.2.1, q4.2.2 + 1))
    ((ld true 1 (ptr (n) 0) q4.2.1).bind fun v6 =>
     (C 57 [v6, t 1] q4.2.1 (q4.2.2 + 4)).bind fun q7 =>
     some (q7.1, q7.2.1, q7.2.2))
theorem s25 (C : Calling) (L : Body → Body) (t : Tm) (H : Hp) (n : Nat) : bodyK Try.prog C L Try.f25 t H n = S25 C L t H n := by kernel_rfl
theorem c25 (args : List Value) (H : Hp) (n : Nat) : Call Try.prog 25 args H n = S25 (Call Try.prog) Loop (argsT args) H n := (Call_body Try.func25 args H n).trans (s25 ..)
/-! 26: spec.Reach -/
noncomputable def S26 (C : Calling) (L : Body → Body) (t : Tm) (H : Hp) (n : Nat) : Option (Value × Hp × Nat) :=
  (vcells (t 0)).bind fun c2 =>
  let H1 := H.set (n) (some (.row c2 0 true))
  (ld true 1 (ptr (n) 0) H1).bind fun v3 =>
  (C 58 [v3, t 1] H1 (n + 6)).bind fun q4 =>
  (un .not q4.1).bind fun v5 =>
  csel v5
    ((bsl (q4.2.2) 1 0 [.bool false] [] q4.2.1).bind fun p6 =>
     some (p6.1, p6.2, q4.2.2 + 2))
    ((ld true 1 (ptr (n) 0) q4.2.1).bind fun v7 =>
     (C 59 [v7, t 1] q4.2.1 (q4.2.2 + 4)).bind fun q8 =>
     some (q8.1, q8.2.1, q8.2.2))
theorem s26 (C : Calling) (L : Body → Body) (t : Tm) (H : Hp) (n : Nat) : bodyK Try.prog C L Try.f26 t H n = S26 C L t H n := by kernel_rfl
theorem c26 (args : List Value) (H : Hp) (n : Nat) : Call Try.prog 26 args H n = S26 (Call Try.prog) Loop (argsT args) H n := (Call_body Try.func26 args H n).trans (s26 ..)
/-! 27: spec.Write -/
noncomputable def S27 (C : Calling) (L : Body → Body) (t : Tm) (H : Hp) (n : Nat) : Option (Value × Hp × Nat) :=
  (vcells (t 0)).bind fun c2 =>
  let H1 := H.set (n) (some (.row c2 0 true))
  (ld true 1 (ptr (n) 0) H1).bind fun v3 =>
  (C 21 [v3] H1 (n + 11)).bind fun q4 =>
  (un .not q4.1).bind fun v5 =>
  let t7 : Tm := put (put (put (put (put (put t 2 (ptr (n) 0)) 4 (.string ⟨#[]⟩)) 6 v3) 7 q4.1) 8 v5) 9 v5
  (gsel v5 false
    ((ld true 1 (ptr (n) 0) q4.2.1).bind fun v8 =>
     (C 60 [v8, t7 1] q4.2.1 (q4.2.2)).bind fun q9 =>
     (un .not q9.1).bind fun v10 =>
     some (put (put (put (put t7 10 v8) 11 (t7 1)) 12 q9.1) 13 v10, q9.2.1, q9.2.2))
    (some (put (put (put (put t7 10 (.tuple #[])) 11 (.tuple #[])) 12 (.tuple #[])) 13 (.tuple #[]), q4.2.1, q4.2.2))
  ).bind fun (q6 : R3) =>
  (pickV (q6.1 9) (.bool true) (q6.1 13)).bind fun v11 =>
  csel v11
    (some (.string ⟨#[]⟩, q6.2.1, q6.2.2 + 1))
    ((ld true 1 (q6.1 2) q6.2.1).bind fun v12 =>
     (C 61 [v12, q6.1 1, .string ⟨#[]⟩] q6.2.1 (q6.2.2 + 4)).bind fun q13 =>
     (lenV true q13.1).bind fun v14 =>
     (binK .plain .gtr v14 (.int .i64 400)).bind fun v15 =>
     csel v15
       (some (.string ⟨#[]⟩, q13.2.1, q13.2.2 + 4))
       (some (q13.1, q13.2.1, q13.2.2 + 5)))
theorem s27 (C : Calling) (L : Body → Body) (t : Tm) (H : Hp) (n : Nat) : bodyK Try.prog C L Try.f27 t H n = S27 C L t H n := by kernel_rfl
theorem c27 (args : List Value) (H : Hp) (n : Nat) : Call Try.prog 27 args H n = S27 (Call Try.prog) Loop (argsT args) H n := (Call_body Try.func27 args H n).trans (s27 ..)
/-! 28: impl.Write -/
noncomputable def S28 (C : Calling) (L : Body → Body) (t : Tm) (H : Hp) (n : Nat) : Option (Value × Hp × Nat) :=
  (vcells (t 0)).bind fun c2 =>
  let H1 := H.set (n) (some (.row c2 0 true))
  (ld true 1 (ptr (n) 0) H1).bind fun v3 =>
  (C 20 [v3] H1 (n + 11)).bind fun q4 =>
  (un .not q4.1).bind fun v5 =>
  let t7 : Tm := put (put (put (put (put (put t 2 (ptr (n) 0)) 4 (.string ⟨#[]⟩)) 6 v3) 7 q4.1) 8 v5) 9 v5
  (gsel v5 false
    ((ld true 1 (ptr (n) 0) q4.2.1).bind fun v8 =>
     (C 53 [v8, t7 1] q4.2.1 (q4.2.2)).bind fun q9 =>
     (un .not q9.1).bind fun v10 =>
     some (put (put (put (put t7 10 v8) 11 (t7 1)) 12 q9.1) 13 v10, q9.2.1, q9.2.2))
    (some (put (put (put (put t7 10 (.tuple #[])) 11 (.tuple #[])) 12 (.tuple #[])) 13 (.tuple #[]), q4.2.1, q4.2.2))
  ).bind fun (q6 : R3) =>
  (pickV (q6.1 9) (.bool true) (q6.1 13)).bind fun v11 =>
  csel v11
    (some (.string ⟨#[]⟩, q6.2.1, q6.2.2 + 1))
    ((ld true 1 (q6.1 2) q6.2.1).bind fun v12 =>
     (bld [nilS, nilS] [(0, 1, v12)]).bind fun v13 =>
     (vcells v13).bind fun c15 =>
     let H14 := q6.2.1.set (q6.2.2 + 2) (some (.row c15 0 true))
     (fieldA 0 (q6.1 2)).bind fun v16 =>
     (ld false 1 v16 H14).bind fun v17 =>
     (idxA 5 v17 (q6.1 1)).bind fun v18 =>
     (fieldA 0 v18).bind fun v19 =>
     (ld false 1 v19 H14).bind fun v20 =>
     (binK .plain .eql v20 (.int .i64 1)).bind fun v21 =>
     csel v21
       (some (.string ⟨#[40, 41]⟩, H14, q6.2.2 + 12))
       ((C 62 [ptr (q6.2.2 + 2) 0, q6.1 1] H14 (q6.2.2 + 14)).bind fun q22 =>
        (C 63 [ptr (q6.2.2 + 2) 0] q22.2.1 (q22.2.2 + 2)).bind fun q23 =>
        csel q23.1
          (some (.string ⟨#[]⟩, q23.2.1, q23.2.2 + 1))
          ((nilchk (ptr (q6.2.2 + 2) 0)).bind fun v24 =>
           (fieldA 1 v24).bind fun v25 =>
           (ld false 1 v25 q23.2.1).bind fun v26 =>
           (conv .bytesToStr (q23.2.2 + 4) v26 q23.2.1).bind fun p27 =>
           some (p27.1, p27.2, q23.2.2 + 6))))
theorem s28 (C : Calling) (L : Body → Body) (t : Tm) (H : Hp) (n : Nat) : bodyK Try.prog C L Try.f28 t H n = S28 C L t H n := by kernel_rfl
theorem c28 (args : List Value) (H : Hp) (n : Nat) : Call Try.prog 28 args H n = S28 (Call Try.prog) Loop (argsT args) H n := (Call_body Try.func28 args H n).trans (s28 ..)
/-! 29: laws.toIntS -/
noncomputable def S29L0 (C : Calling) (L : Body → Body) : Body := fun t H n =>
  (lenV false (t 0)).bind fun v4 =>
  (binK .plain .lss (t 4) v4).bind fun v5 =>
  csel v5
    ((idxA 1 (t 0) (t 4)).bind fun v6 =>
     (ld false 1 v6 H).bind fun v7 =>
     (idxA 1 (t 3) (t 4)).bind fun v8 =>
     (st false 1 v8 v7 H).bind fun H9 =>
     (binK .plain .add (t 4) (.int .i64 1)).bind fun v10 =>
     some ⟨.normal, put (put (put (put (put (put (put (put (put (put (put (put (put (put t 8 (t 4)) 9 (t 0)) 10 v4) 11 v5) 14 (t 3)) 15 (t 4)) 16 (t 0)) 17 (t 4)) 18 v6) 19 v7) 20 v8) 12 (t 4)) 13 v10) 4 v10, H9, n + 15⟩)
    (some ⟨(.exit 0), put (put (put (put t 8 (t 4)) 9 (t 0)) 10 v4) 11 v5, H, n + 4⟩)
noncomputable def S29 (C : Calling) (L : Body → Body) (t : Tm) (H : Hp) (n : Nat) : Option (Value × Hp × Nat) :=
  (lenV false (t 0)).bind fun v1 =>
  (mks (n + 3) 1 8 [.int .i64 0] v1 v1 H).bind fun p2 =>
  (L (S29L0 C L) (put (put (put (put (put (put t 2 nilS) 5 (t 0)) 6 v1) 7 p2.1) 3 p2.1) 4 (.int .i64 0)) p2.2 (n + 6)).bind fun (o3 : Out) =>
  some (o3.t 3, o3.H, o3.n + 2)
theorem s29 (C : Calling) (L : Body → Body) (t : Tm) (H : Hp) (n : Nat) : bodyK Try.prog C L Try.f29 t H n = S29 C L t H n := by kernel_rfl
theorem c29 (args : List Value) (H : Hp) (n : Nat) : Call Try.prog 29 args H n = S29 (Call Try.prog) Loop (argsT args) H n := (Call_body Try.func29 args H n).trans (s29 ..)
/-! 30: laws.eqBoolS -/
noncomputable def S30L0 (C : Calling) (L : Body → Body) : Body := fun t H n =>
  (lenV false (t 0)).bind fun v5 =>
  (binK .plain .lss (t 5) v5).bind fun v6 =>
  csel v6
    ((idxA 1 (t 0) (t 5)).bind fun v7 =>
     (ld false 1 v7 H).bind fun v8 =>
     (idxA 1 (t 1) (t 5)).bind fun v9 =>
     (ld false 1 v9 H).bind fun v10 =>
     (binK .bool .neq v8 v10).bind fun v11 =>
     csel v11
       (some ⟨.ret, put (put (put (put (put (put (put (put (put (put (put (put (put (put t 11 (t 5)) 12 (t 0)) 13 v5) 14 v6) 17 (t 0)) 18 (t 5)) 19 v7) 20 v8) 21 (t 1)) 22 (t 5)) 23 v9) 24 v10) 25 v11) 4 (.bool false), H, n + 14⟩)
       ((binK .plain .add (t 5) (.int .i64 1)).bind fun v12 =>
        some ⟨.normal, put (put (put (put (put (put (put (put (put (put (put (put (put (put (put (put t 11 (t 5)) 12 (t 0)) 13 v5) 14 v6) 17 (t 0)) 18 (t 5)) 19 v7) 20 v8) 21 (t 1)) 22 (t 5)) 23 v9) 24 v10) 25 v11) 15 (t 5)) 16 v12) 5 v12, H, n + 16⟩))
    (some ⟨(.exit 0), put (put (put (put t 11 (t 5)) 12 (t 0)) 13 v5) 14 v6, H, n + 4⟩)
noncomputable def S30 (C : Calling) (L : Body → Body) (t : Tm) (H : Hp) (n : Nat) : Option (Value × Hp × Nat) :=
  (lenV false (t 0)).bind fun v1 =>
  (lenV false (t 1)).bind fun v2 =>
  (binK .plain .neq v1 v2).bind fun v3 =>
  csel v3
    (some (.bool false, H, n + 7))
    ((L (S30L0 C L) (put (put (put (put (put (put (put t 4 (.bool false)) 6 (t 0)) 7 v1) 8 (t 1)) 9 v2) 10 v3) 5 (.int .i64 0)) H (n + 7)).bind fun (o4 : Out) =>
     let o13 := outOf 0 o4
     thenK o13
       (some (.bool true, o13.H, o13.n + 1))
       (finE o13.e
          (some (o13.t 4, o13.H, o13.n))))
theorem s30 (C : Calling) (L : Body → Body) (t : Tm) (H : Hp) (n : Nat) : bodyK Try.prog C L Try.f30 t H n = S30 C L t H n := by kernel_rfl
theorem c30 (args : List Value) (H : Hp) (n : Nat) : Call Try.prog 30 args H n = S30 (Call Try.prog) Loop (argsT args) H n := (Call_body Try.func30 args H n).trans (s30 ..)
/-! 31: laws.eqIntS -/
noncomputable def S31L0 (C : Calling) (L : Body → Body) : Body := fun t H n =>
  (lenV false (t 0)).bind fun v5 =>
  (binK .plain .lss (t 5) v5).bind fun v6 =>
  csel v6
    ((idxA 1 (t 0) (t 5)).bind fun v7 =>
     (ld false 1 v7 H).bind fun v8 =>
     (idxA 1 (t 1) (t 5)).bind fun v9 =>
     (ld false 1 v9 H).bind fun v10 =>
     (binK .plain .neq v8 v10).bind fun v11 =>
     csel v11
       (some ⟨.ret, put (put (put (put (put (put (put (put (put (put (put (put (put (put t 11 (t 5)) 12 (t 0)) 13 v5) 14 v6) 17 (t 0)) 18 (t 5)) 19 v7) 20 v8) 21 (t 1)) 22 (t 5)) 23 v9) 24 v10) 25 v11) 4 (.bool false), H, n + 14⟩)
       ((binK .plain .add (t 5) (.int .i64 1)).bind fun v12 =>
        some ⟨.normal, put (put (put (put (put (put (put (put (put (put (put (put (put (put (put (put t 11 (t 5)) 12 (t 0)) 13 v5) 14 v6) 17 (t 0)) 18 (t 5)) 19 v7) 20 v8) 21 (t 1)) 22 (t 5)) 23 v9) 24 v10) 25 v11) 15 (t 5)) 16 v12) 5 v12, H, n + 16⟩))
    (some ⟨(.exit 0), put (put (put (put t 11 (t 5)) 12 (t 0)) 13 v5) 14 v6, H, n + 4⟩)
noncomputable def S31 (C : Calling) (L : Body → Body) (t : Tm) (H : Hp) (n : Nat) : Option (Value × Hp × Nat) :=
  (lenV false (t 0)).bind fun v1 =>
  (lenV false (t 1)).bind fun v2 =>
  (binK .plain .neq v1 v2).bind fun v3 =>
  csel v3
    (some (.bool false, H, n + 7))
    ((L (S31L0 C L) (put (put (put (put (put (put (put t 4 (.bool false)) 6 (t 0)) 7 v1) 8 (t 1)) 9 v2) 10 v3) 5 (.int .i64 0)) H (n + 7)).bind fun (o4 : Out) =>
     let o13 := outOf 0 o4
     thenK o13
       (some (.bool true, o13.H, o13.n + 1))
       (finE o13.e
          (some (o13.t 4, o13.H, o13.n))))
theorem s31 (C : Calling) (L : Body → Body) (t : Tm) (H : Hp) (n : Nat) : bodyK Try.prog C L Try.f31 t H n = S31 C L t H n := by kernel_rfl
theorem c31 (args : List Value) (H : Hp) (n : Nat) : Call Try.prog 31 args H n = S31 (Call Try.prog) Loop (argsT args) H n := (Call_body Try.func31 args H n).trans (s31 ..)
/-! 32: laws.markIntS -/
noncomputable def S32L0 (C : Calling) (L : Body → Body) : Body := fun t H n =>
  (lenV false (t 0)).bind fun v2 =>
  (binK .plain .lss (t 5) v2).bind fun v3 =>
  csel v3
    ((idxA 1 (t 0) (t 5)).bind fun v4 =>
     (st false 1 v4 (t 1) H).bind fun H5 =>
     (binK .plain .add (t 1) (.int .i64 1)).bind fun v6 =>
     (binK .plain .add (t 5) (.int .i64 1)).bind fun v7 =>
     some ⟨.normal, put (put (put (put (put (put (put (put (put (put (put (put (put (put t 6 (t 5)) 7 (t 0)) 8 v2) 9 v3) 12 (t 0)) 13 (t 5)) 14 (t 1)) 15 v4) 16 (t 1)) 17 v6) 1 v6) 10 (t 5)) 11 v7) 5 v7, H5, n + 15⟩)
    (some ⟨(.exit 0), put (put (put (put t 6 (t 5)) 7 (t 0)) 8 v2) 9 v3, H, n + 4⟩)
noncomputable def S32 (C : Calling) (L : Body → Body) (t : Tm) (H : Hp) (n : Nat) : Option (Value × Hp × Nat) :=
  (L (S32L0 C L) (put (put t 4 (.int .i64 0)) 5 (.int .i64 0)) H (n + 2)).bind fun (o1 : Out) =>
  some (o1.t 1, o1.H, o1.n + 2)
theorem s32 (C : Calling) (L : Body → Body) (t : Tm) (H : Hp) (n : Nat) : bodyK Try.prog C L Try.f32 t H n = S32 C L t H n := by kernel_rfl
theorem c32 (args : List Value) (H : Hp) (n : Nat) : Call Try.prog 32 args H n = S32 (Call Try.prog) Loop (argsT args) H n := (Call_body Try.func32 args H n).trans (s32 ..)
end Go.Proofs.Ytcjbaidcmidijaa.Ax
