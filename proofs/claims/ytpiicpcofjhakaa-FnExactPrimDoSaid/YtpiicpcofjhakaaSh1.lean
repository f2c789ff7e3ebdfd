/- What the bodies of some functions of the program come to in the abstract machine. -/
import Derived.Test.YtpiicpcofjhakaaProg
import Derived.Test.YtpiicpcofjhakaaAx3
set_option linter.unusedVariables false
namespace Go.Proofs.Ytpiicpcofjhakaa.Ax
open Go
set_option maxRecDepth 100000
/-! 33: laws.heldPool -/
noncomputable def S33 (C : Calling) (L : Body → Body) (t : Tm) (H : Hp) (n : Nat) : Option (Value × Hp × Nat) :=
  (vcells (t 0)).bind fun c2 =>
  let H1 := H.set (n) (some (.row c2 0 true))
  (fieldA 0 (ptr (n) 0)).bind fun v3 =>
  (ld false 1 v3 H1).bind fun v4 =>
  (C 82 [v4, t 1] H1 (n + 7)).bind fun q5 =>
  (binK .plain .lss q5.1 (.int .i64 0)).bind fun v6 =>
  csel v6
    (some (.int .i64 (-1), q5.2.1, q5.2.2 + 3))
    (some (q5.1, q5.2.1, q5.2.2 + 4))
theorem s33 (C : Calling) (L : Body → Body) (t : Tm) (H : Hp) (n : Nat) : bodyK Try.prog C L Try.f33 t H n = S33 C L t H n := by kernel_rfl
theorem c33 (args : List Value) (H : Hp) (n : Nat) : Call Try.prog 33 args H n = S33 (Call Try.prog) Loop (argsT args) H n := (Call_body Try.func33 args H n).trans (s33 ..)
/-! 34: spec.MachineOk -/
noncomputable def S34 (C : Calling) (L : Body → Body) (t : Tm) (H : Hp) (n : Nat) : Option (Value × Hp × Nat) :=
  (vcells (t 0)).bind fun c2 =>
  let H1 := H.set (n) (some (.row c2 0 true))
  (vcells (t 1)).bind fun c4 =>
  let H3 := H1.set (n + 1) (some (.row c4 0 true))
  (ld true 3 (ptr (n) 0) H3).bind fun v5 =>
  (C 10 [v5] H3 (n + 36)).bind fun q6 =>
  (un .not q6.1).bind fun v7 =>
  let t9 : Tm := put (put (put (put (put (put (put t 2 (ptr (n) 0)) 3 (ptr (n + 1) 0)) 4 (.bool false)) 6 v5) 7 q6.1) 8 v7) 9 v7
  (gsel v7 false
    ((fieldA 0 (ptr (n + 1) 0)).bind fun v10 =>
     (ld true 1 v10 q6.2.1).bind fun v11 =>
     (C 41 [v11] q6.2.1 (q6.2.2)).bind fun q12 =>
     (un .not q12.1).bind fun v13 =>
     some (put (put (put (put t9 10 v10) 11 v11) 12 q12.1) 13 v13, q12.2.1, q12.2.2))
    (some (put (put (put (put t9 10 (.tuple #[])) 11 (.tuple #[])) 12 (.tuple #[])) 13 (.tuple #[]), q6.2.1, q6.2.2))
  ).bind fun (q8 : R3) =>
  (pickV (q8.1 9) (.bool true) (q8.1 13)).bind fun v14 =>
  let t16 : Tm := put (put q8.1 14 v14) 15 v14
  (gsel v14 false
    ((fieldA 0 (t16 3)).bind fun v17 =>
     (ld true 1 v17 q8.2.1).bind fun v18 =>
     (fieldA 2 (t16 3)).bind fun v19 =>
     (ld false 1 v19 q8.2.1).bind fun v20 =>
     (C 68 [v18, v20] q8.2.1 (q8.2.2)).bind fun q21 =>
     (un .not q21.1).bind fun v22 =>
     some (put (put (put (put (put (put t16 16 v17) 17 v18) 18 v19) 19 v20) 20 q21.1) 21 v22, q21.2.1, q21.2.2))
    (some (put (put (put (put (put (put t16 16 (.tuple #[])) 17 (.tuple #[])) 18 (.tuple #[])) 19 (.tuple #[])) 20 (.tuple #[])) 21 (.tuple #[]), q8.2.1, q8.2.2))
  ).bind fun (q15 : R3) =>
  (pickV (q15.1 15) (.bool true) (q15.1 21)).bind fun v23 =>
  let t25 : Tm := put (put q15.1 22 v23) 23 v23
  (gsel v23 false
    ((fieldA 0 (t25 3)).bind fun v26 =>
     (ld true 1 v26 q15.2.1).bind fun v27 =>
     (fieldA 3 (t25 3)).bind fun v28 =>
     (ld false 1 v28 q15.2.1).bind fun v29 =>
     (C 68 [v27, v29] q15.2.1 (q15.2.2)).bind fun q30 =>
     (un .not q30.1).bind fun v31 =>
     some (put (put (put (put (put (put t25 24 v26) 25 v27) 26 v28) 27 v29) 28 q30.1) 29 v31, q30.2.1, q30.2.2))
    (some (put (put (put (put (put (put t25 24 (.tuple #[])) 25 (.tuple #[])) 26 (.tuple #[])) 27 (.tuple #[])) 28 (.tuple #[])) 29 (.tuple #[]), q15.2.1, q15.2.2))
  ).bind fun (q24 : R3) =>
  (pickV (q24.1 23) (.bool true) (q24.1 29)).bind fun v32 =>
  let t34 : Tm := put (put q24.1 30 v32) 31 v32
  (gsel v32 false
    ((fieldA 0 (t34 3)).bind fun v35 =>
     (ld true 1 v35 q24.2.1).bind fun v36 =>
     (fieldA 4 (t34 3)).bind fun v37 =>
     (ld false 1 v37 q24.2.1).bind fun v38 =>
     (C 68 [v36, v38] q24.2.1 (q24.2.2)).bind fun q39 =>
     (un .not q39.1).bind fun v40 =>
     some (put (put (put (put (put (put t34 32 v35) 33 v36) 34 v37) 35 v38) 36 q39.1) 37 v40, q39.2.1, q39.2.2))
    (some (put (put (put (put (put (put t34 32 (.tuple #[])) 33 (.tuple #[])) 34 (.tuple #[])) 35 (.tuple #[])) 36 (.tuple #[])) 37 (.tuple #[]), q24.2.1, q24.2.2))
  ).bind fun (q33 : R3) =>
  (pickV (q33.1 31) (.bool true) (q33.1 37)).bind fun v41 =>
  csel v41
    (some (.bool false, q33.2.1, q33.2.2 + 1))
    ((fieldA 1 (q33.1 3)).bind fun v42 =>
     (ld false 1 v42 q33.2.1).bind fun v43 =>
     (fieldA 1 (q33.1 2)).bind fun v44 =>
     (ld false 1 v44 q33.2.1).bind fun v45 =>
     (lenV false v45).bind fun v46 =>
     (binK .plain .sub v46 (.int .i64 1)).bind fun v47 =>
     (C 45 [v43, .int .i64 0, v47] q33.2.1 (q33.2.2 + 8)).bind fun q48 =>
     (fieldA 5 (q33.1 3)).bind fun v49 =>
     (ld false 1 v49 q48.2.1).bind fun v50 =>
     (binK .plain .eql v50 (.int .i64 0)).bind fun v51 =>
     csel v51
       (let t53 : Tm := put (put (put (put (put (put (put (put (put (put (put (put (put (put (put q33.1 38 v41) 39 v42) 40 v43) 41 v44) 42 v45) 43 v46) 44 v47) 45 q48.1) 5 q48.1) 46 v49) 47 v50) 49 v51) 48 v51) 50 q48.1) 51 q48.1
        (gsel q48.1 true
          ((fieldA 6 (t53 3)).bind fun v54 =>
           (ld false 1 v54 q48.2.1).bind fun v55 =>
           (binK .plain .eql v55 (.int .i64 0)).bind fun v56 =>
           some (put (put (put t53 52 v54) 53 v55) 54 v56, q48.2.1, q48.2.2 + 16))
          (some (put (put (put t53 52 (.tuple #[])) 53 (.tuple #[])) 54 (.tuple #[]), q48.2.1, q48.2.2 + 16))
        ).bind fun (q52 : R3) =>
        (pickV (q52.1 51) (q52.1 54) (.bool false)).bind fun v57 =>
        let t59 : Tm := put (put q52.1 55 v57) 56 v57
        (gsel v57 true
          ((fieldA 7 (t59 3)).bind fun v60 =>
           (ld false 1 v60 q52.2.1).bind fun v61 =>
           (binK .plain .eql v61 (.int .i64 0)).bind fun v62 =>
           some (put (put (put t59 57 v60) 58 v61) 59 v62, q52.2.1, q52.2.2))
          (some (put (put (put t59 57 (.tuple #[])) 58 (.tuple #[])) 59 (.tuple #[]), q52.2.1, q52.2.2))
        ).bind fun (q58 : R3) =>
        (pickV (q58.1 56) (q58.1 59) (.bool false)).bind fun v63 =>
        some (v63, q58.2.1, q58.2.2))
       ((binK .plain .eql v50 (.int .i64 1)).bind fun v64 =>
        csel v64
          (let t66 : Tm := put (put (put (put (put (put (put (put (put (put (put (put (put (put (put (put (put q33.1 38 v41) 39 v42) 40 v43) 41 v44) 42 v45) 43 v46) 44 v47) 45 q48.1) 5 q48.1) 46 v49) 47 v50) 49 v51) 48 v51) 62 v64) 61 v64) 63 q48.1) 64 q48.1
           (gsel q48.1 true
             ((fieldA 6 (t66 3)).bind fun v67 =>
              (ld false 1 v67 q48.2.1).bind fun v68 =>
              (C 45 [v68, .int .i64 13, .int .i64 19] q48.2.1 (q48.2.2 + 25)).bind fun q69 =>
              some (put (put (put t66 65 v67) 66 v68) 67 q69.1, q69.2.1, q69.2.2))
             (some (put (put (put t66 65 (.tuple #[])) 66 (.tuple #[])) 67 (.tuple #[]), q48.2.1, q48.2.2 + 25))
           ).bind fun (q65 : R3) =>
           (pickV (q65.1 64) (q65.1 67) (.bool false)).bind fun v70 =>
           let t72 : Tm := put (put q65.1 68 v70) 69 v70
           (gsel v70 true
             ((fieldA 6 (t72 3)).bind fun v73 =>
              (ld false 1 v73 q65.2.1).bind fun v74 =>
              (binK .plain .neq v74 (.int .i64 18)).bind fun v75 =>
              some (put (put (put t72 70 v73) 71 v74) 72 v75, q65.2.1, q65.2.2))
             (some (put (put (put t72 70 (.tuple #[])) 71 (.tuple #[])) 72 (.tuple #[]), q65.2.1, q65.2.2))
           ).bind fun (q71 : R3) =>
           (pickV (q71.1 69) (q71.1 72) (.bool false)).bind fun v76 =>
           let t78 : Tm := put (put q71.1 73 v76) 74 v76
           (gsel v76 true
             ((fieldA 0 (t78 3)).bind fun v79 =>
              (ld true 1 v79 q71.2.1).bind fun v80 =>
              (fieldA 7 (t78 3)).bind fun v81 =>
              (ld false 1 v81 q71.2.1).bind fun v82 =>
              (C 68 [v80, v82] q71.2.1 (q71.2.2)).bind fun q83 =>
              some (put (put (put (put (put t78 75 v79) 76 v80) 77 v81) 78 v82) 79 q83.1, q83.2.1, q83.2.2))
             (some (put (put (put (put (put t78 75 (.tuple #[])) 76 (.tuple #[])) 77 (.tuple #[])) 78 (.tuple #[])) 79 (.tuple #[]), q71.2.1, q71.2.2))
           ).bind fun (q77 : R3) =>
           (pickV (q77.1 74) (q77.1 79) (.bool false)).bind fun v84 =>
           some (v84, q77.2.1, q77.2.2))
          ((binK .plain .eql v50 (.int .i64 2)).bind fun v85 =>
           csel v85
             ((fieldA 1 (q33.1 3)).bind fun v86 =>
              (ld false 1 v86 q48.2.1).bind fun v87 =>
              (binK .plain .eql v87 (.int .i64 0)).bind fun v88 =>
              let t90 : Tm := put (put (put (put (put (put (put (put (put (put (put (put (put (put (put (put (put (put (put (put (put q33.1 38 v41) 39 v42) 40 v43) 41 v44) 42 v45) 43 v46) 44 v47) 45 q48.1) 5 q48.1) 46 v49) 47 v50) 49 v51) 48 v51) 62 v64) 61 v64) 82 v85) 81 v85) 83 v86) 84 v87) 85 v88) 86 v88
              (gsel v88 true
                ((fieldA 6 (t90 3)).bind fun v91 =>
                 (ld false 1 v91 q48.2.1).bind fun v92 =>
                 (binK .plain .eql v92 (.int .i64 0)).bind fun v93 =>
                 some (put (put (put t90 87 v91) 88 v92) 89 v93, q48.2.1, q48.2.2 + 24))
                (some (put (put (put t90 87 (.tuple #[])) 88 (.tuple #[])) 89 (.tuple #[]), q48.2.1, q48.2.2 + 24))
              ).bind fun (q89 : R3) =>
              (pickV (q89.1 86) (q89.1 89) (.bool false)).bind fun v94 =>
              let t96 : Tm := put (put q89.1 90 v94) 91 v94
              (gsel v94 true
                ((fieldA 0 (t96 3)).bind fun v97 =>
                 (ld true 1 v97 q89.2.1).bind fun v98 =>
                 (fieldA 7 (t96 3)).bind fun v99 =>
                 (ld false 1 v99 q89.2.1).bind fun v100 =>
                 (C 68 [v98, v100] q89.2.1 (q89.2.2)).bind fun q101 =>
                 some (put (put (put (put (put t96 92 v97) 93 v98) 94 v99) 95 v100) 96 q101.1, q101.2.1, q101.2.2))
                (some (put (put (put (put (put t96 92 (.tuple #[])) 93 (.tuple #[])) 94 (.tuple #[])) 95 (.tuple #[])) 96 (.tuple #[]), q89.2.1, q89.2.2))
              ).bind fun (q95 : R3) =>
              (pickV (q95.1 91) (q95.1 96) (.bool false)).bind fun v102 =>
              some (v102, q95.2.1, q95.2.2))
             ((binK .plain .eql v50 (.int .i64 3)).bind fun v103 =>
              csel v103
                ((fieldA 1 (q33.1 3)).bind fun v104 =>
                 (ld false 1 v104 q48.2.1).bind fun v105 =>
                 (binK .plain .eql v105 (.int .i64 0)).bind fun v106 =>
                 let t108 : Tm := put (put (put (put (put (put (put (put (put (put (put (put (put (put (put (put (put (put (put (put (put (put (put q33.1 38 v41) 39 v42) 40 v43) 41 v44) 42 v45) 43 v46) 44 v47) 45 q48.1) 5 q48.1) 46 v49) 47 v50) 49 v51) 48 v51) 62 v64) 61 v64) 82 v85) 81 v85) 99 v103) 98 v103) 100 v104) 101 v105) 102 v106) 103 v106
                 (gsel v106 true
                   ((fieldA 6 (t108 3)).bind fun v109 =>
                    (ld false 1 v109 q48.2.1).bind fun v110 =>
                    (C 45 [v110, .int .i64 1, .int .i64 7] q48.2.1 (q48.2.2 + 24)).bind fun q111 =>
                    some (put (put (put t108 104 v109) 105 v110) 106 q111.1, q111.2.1, q111.2.2))
                   (some (put (put (put t108 104 (.tuple #[])) 105 (.tuple #[])) 106 (.tuple #[]), q48.2.1, q48.2.2 + 24))
                 ).bind fun (q107 : R3) =>
                 (pickV (q107.1 103) (q107.1 106) (.bool false)).bind fun v112 =>
                 let t114 : Tm := put (put q107.1 107 v112) 108 v112
                 (gsel v112 true
                   ((fieldA 7 (t114 3)).bind fun v115 =>
                    (ld false 1 v115 q107.2.1).bind fun v116 =>
                    (binK .plain .eql v116 (.int .i64 0)).bind fun v117 =>
                    some (put (put (put t114 109 v115) 110 v116) 111 v117, q107.2.1, q107.2.2))
                   (some (put (put (put t114 109 (.tuple #[])) 110 (.tuple #[])) 111 (.tuple #[]), q107.2.1, q107.2.2))
                 ).bind fun (q113 : R3) =>
                 (pickV (q113.1 108) (q113.1 111) (.bool false)).bind fun v118 =>
                 some (v118, q113.2.1, q113.2.2))
                (some (.bool false, q48.2.1, q48.2.2 + 11))))))
theorem s34 (C : Calling) (L : Body → Body) (t : Tm) (H : Hp) (n : Nat) : bodyK Try.prog C L Try.f34 t H n = S34 C L t H n := by kernel_rfl
theorem c34 (args : List Value) (H : Hp) (n : Nat) : Call Try.prog 34 args H n = S34 (Call Try.prog) Loop (argsT args) H n := (Call_body Try.func34 args H n).trans (s34 ..)
/-! 35: impl.MachineOk -/
noncomputable def S35 (C : Calling) (L : Body → Body) (t : Tm) (H : Hp) (n : Nat) : Option (Value × Hp × Nat) :=
  (vcells (t 0)).bind fun c2 =>
  let H1 := H.set (n) (some (.row c2 0 true))
  (vcells (t 1)).bind fun c4 =>
  let H3 := H1.set (n + 1) (some (.row c4 0 true))
  (ld true 3 (ptr (n) 0) H3).bind fun v5 =>
  (C 12 [v5] H3 (n + 36)).bind fun q6 =>
  (un .not q6.1).bind fun v7 =>
  let t9 : Tm := put (put (put (put (put (put (put t 2 (ptr (n) 0)) 3 (ptr (n + 1) 0)) 4 (.bool false)) 5 v5) 6 q6.1) 7 v7) 8 v7
  (gsel v7 false
    ((fieldA 0 (ptr (n + 1) 0)).bind fun v10 =>
     (ld true 1 v10 q6.2.1).bind fun v11 =>
     (C 18 [v11] q6.2.1 (q6.2.2)).bind fun q12 =>
     (un .not q12.1).bind fun v13 =>
     some (put (put (put (put t9 9 v10) 10 v11) 11 q12.1) 12 v13, q12.2.1, q12.2.2))
    (some (put (put (put (put t9 9 (.tuple #[])) 10 (.tuple #[])) 11 (.tuple #[])) 12 (.tuple #[]), q6.2.1, q6.2.2))
  ).bind fun (q8 : R3) =>
  (pickV (q8.1 8) (.bool true) (q8.1 12)).bind fun v14 =>
  let t16 : Tm := put (put q8.1 13 v14) 14 v14
  (gsel v14 false
    ((fieldA 0 (t16 3)).bind fun v17 =>
     (ld true 1 v17 q8.2.1).bind fun v18 =>
     (fieldA 2 (t16 3)).bind fun v19 =>
     (ld false 1 v19 q8.2.1).bind fun v20 =>
     (C 65 [v18, v20] q8.2.1 (q8.2.2)).bind fun q21 =>
     (un .not q21.1).bind fun v22 =>
     some (put (put (put (put (put (put t16 15 v17) 16 v18) 17 v19) 18 v20) 19 q21.1) 20 v22, q21.2.1, q21.2.2))
    (some (put (put (put (put (put (put t16 15 (.tuple #[])) 16 (.tuple #[])) 17 (.tuple #[])) 18 (.tuple #[])) 19 (.tuple #[])) 20 (.tuple #[]), q8.2.1, q8.2.2))
  ).bind fun (q15 : R3) =>
  (pickV (q15.1 14) (.bool true) (q15.1 20)).bind fun v23 =>
  let t25 : Tm := put (put q15.1 21 v23) 22 v23
  (gsel v23 false
    ((fieldA 0 (t25 3)).bind fun v26 =>
     (ld true 1 v26 q15.2.1).bind fun v27 =>
     (fieldA 3 (t25 3)).bind fun v28 =>
     (ld false 1 v28 q15.2.1).bind fun v29 =>
     (C 65 [v27, v29] q15.2.1 (q15.2.2)).bind fun q30 =>
     (un .not q30.1).bind fun v31 =>
     some (put (put (put (put (put (put t25 23 v26) 24 v27) 25 v28) 26 v29) 27 q30.1) 28 v31, q30.2.1, q30.2.2))
    (some (put (put (put (put (put (put t25 23 (.tuple #[])) 24 (.tuple #[])) 25 (.tuple #[])) 26 (.tuple #[])) 27 (.tuple #[])) 28 (.tuple #[]), q15.2.1, q15.2.2))
  ).bind fun (q24 : R3) =>
  (pickV (q24.1 22) (.bool true) (q24.1 28)).bind fun v32 =>
  let t34 : Tm := put (put q24.1 29 v32) 30 v32
  (gsel v32 false
    ((fieldA 0 (t34 3)).bind fun v35 =>
     (ld true 1 v35 q24.2.1).bind fun v36 =>
     (fieldA 4 (t34 3)).bind fun v37 =>
     (ld false 1 v37 q24.2.1).bind fun v38 =>
     (C 65 [v36, v38] q24.2.1 (q24.2.2)).bind fun q39 =>
     (un .not q39.1).bind fun v40 =>
     some (put (put (put (put (put (put t34 31 v35) 32 v36) 33 v37) 34 v38) 35 q39.1) 36 v40, q39.2.1, q39.2.2))
    (some (put (put (put (put (put (put t34 31 (.tuple #[])) 32 (.tuple #[])) 33 (.tuple #[])) 34 (.tuple #[])) 35 (.tuple #[])) 36 (.tuple #[]), q24.2.1, q24.2.2))
  ).bind fun (q33 : R3) =>
  (pickV (q33.1 30) (.bool true) (q33.1 36)).bind fun v41 =>
  csel v41
    (some (.bool false, q33.2.1, q33.2.2 + 1))
    ((fieldA 5 (q33.1 3)).bind fun v42 =>
     (ld false 1 v42 q33.2.1).bind fun v43 =>
     (binK .plain .eql v43 (.int .i64 0)).bind fun v44 =>
     csel v44
       ((ld true 3 (q33.1 2) q33.2.1).bind fun v45 =>
        (fieldA 1 (q33.1 3)).bind fun v46 =>
        (ld false 1 v46 q33.2.1).bind fun v47 =>
        (C 83 [v45, v47] q33.2.1 (q33.2.2 + 19)).bind fun q48 =>
        let t50 : Tm := put (put (put (put (put (put (put (put (put (put q33.1 37 v41) 38 v42) 39 v43) 41 v44) 40 v44) 42 v45) 43 v46) 44 v47) 45 q48.1) 46 q48.1
        (gsel q48.1 true
          ((fieldA 6 (t50 3)).bind fun v51 =>
           (ld false 1 v51 q48.2.1).bind fun v52 =>
           (binK .plain .eql v52 (.int .i64 0)).bind fun v53 =>
           some (put (put (put t50 47 v51) 48 v52) 49 v53, q48.2.1, q48.2.2))
          (some (put (put (put t50 47 (.tuple #[])) 48 (.tuple #[])) 49 (.tuple #[]), q48.2.1, q48.2.2))
        ).bind fun (q49 : R3) =>
        (pickV (q49.1 46) (q49.1 49) (.bool false)).bind fun v54 =>
        let t56 : Tm := put (put q49.1 50 v54) 51 v54
        (gsel v54 true
          ((fieldA 7 (t56 3)).bind fun v57 =>
           (ld false 1 v57 q49.2.1).bind fun v58 =>
           (binK .plain .eql v58 (.int .i64 0)).bind fun v59 =>
           some (put (put (put t56 52 v57) 53 v58) 54 v59, q49.2.1, q49.2.2))
          (some (put (put (put t56 52 (.tuple #[])) 53 (.tuple #[])) 54 (.tuple #[]), q49.2.1, q49.2.2))
        ).bind fun (q55 : R3) =>
        (pickV (q55.1 51) (q55.1 54) (.bool false)).bind fun v60 =>
        some (v60, q55.2.1, q55.2.2))
       ((binK .plain .eql v43 (.int .i64 1)).bind fun v61 =>
        csel v61
          ((ld true 3 (q33.1 2) q33.2.1).bind fun v62 =>
           (fieldA 1 (q33.1 3)).bind fun v63 =>
           (ld false 1 v63 q33.2.1).bind fun v64 =>
           (C 83 [v62, v64] q33.2.1 (q33.2.2 + 28)).bind fun q65 =>
           let t67 : Tm := put (put (put (put (put (put (put (put (put (put (put (put q33.1 37 v41) 38 v42) 39 v43) 41 v44) 40 v44) 57 v61) 56 v61) 58 v62) 59 v63) 60 v64) 61 q65.1) 62 q65.1
           (gsel q65.1 true
             ((fieldA 6 (t67 3)).bind fun v68 =>
              (ld false 1 v68 q65.2.1).bind fun v69 =>
              (C 51 [v69, .int .i64 13, .int .i64 19] q65.2.1 (q65.2.2)).bind fun q70 =>
              some (put (put (put t67 63 v68) 64 v69) 65 q70.1, q70.2.1, q70.2.2))
             (some (put (put (put t67 63 (.tuple #[])) 64 (.tuple #[])) 65 (.tuple #[]), q65.2.1, q65.2.2))
           ).bind fun (q66 : R3) =>
           (pickV (q66.1 62) (q66.1 65) (.bool false)).bind fun v71 =>
           let t73 : Tm := put (put q66.1 66 v71) 67 v71
           (gsel v71 true
             ((fieldA 6 (t73 3)).bind fun v74 =>
              (ld false 1 v74 q66.2.1).bind fun v75 =>
              (binK .plain .neq v75 (.int .i64 18)).bind fun v76 =>
              some (put (put (put t73 68 v74) 69 v75) 70 v76, q66.2.1, q66.2.2))
             (some (put (put (put t73 68 (.tuple #[])) 69 (.tuple #[])) 70 (.tuple #[]), q66.2.1, q66.2.2))
           ).bind fun (q72 : R3) =>
           (pickV (q72.1 67) (q72.1 70) (.bool false)).bind fun v77 =>
           let t79 : Tm := put (put q72.1 71 v77) 72 v77
           (gsel v77 true
             ((fieldA 0 (t79 3)).bind fun v80 =>
              (ld true 1 v80 q72.2.1).bind fun v81 =>
              (fieldA 7 (t79 3)).bind fun v82 =>
              (ld false 1 v82 q72.2.1).bind fun v83 =>
              (C 65 [v81, v83] q72.2.1 (q72.2.2)).bind fun q84 =>
              some (put (put (put (put (put t79 73 v80) 74 v81) 75 v82) 76 v83) 77 q84.1, q84.2.1, q84.2.2))
             (some (put (put (put (put (put t79 73 (.tuple #[])) 74 (.tuple #[])) 75 (.tuple #[])) 76 (.tuple #[])) 77 (.tuple #[]), q72.2.1, q72.2.2))
           ).bind fun (q78 : R3) =>
           (pickV (q78.1 72) (q78.1 77) (.bool false)).bind fun v85 =>
           some (v85, q78.2.1, q78.2.2))
          ((binK .plain .eql v43 (.int .i64 2)).bind fun v86 =>
           csel v86
             ((fieldA 1 (q33.1 3)).bind fun v87 =>
              (ld false 1 v87 q33.2.1).bind fun v88 =>
              (binK .plain .eql v88 (.int .i64 0)).bind fun v89 =>
              let t91 : Tm := put (put (put (put (put (put (put (put (put (put (put (put (put q33.1 37 v41) 38 v42) 39 v43) 41 v44) 40 v44) 57 v61) 56 v61) 80 v86) 79 v86) 81 v87) 82 v88) 83 v89) 84 v89
              (gsel v89 true
                ((fieldA 6 (t91 3)).bind fun v92 =>
                 (ld false 1 v92 q33.2.1).bind fun v93 =>
                 (binK .plain .eql v93 (.int .i64 0)).bind fun v94 =>
                 some (put (put (put t91 85 v92) 86 v93) 87 v94, q33.2.1, q33.2.2 + 24))
                (some (put (put (put t91 85 (.tuple #[])) 86 (.tuple #[])) 87 (.tuple #[]), q33.2.1, q33.2.2 + 24))
              ).bind fun (q90 : R3) =>
              (pickV (q90.1 84) (q90.1 87) (.bool false)).bind fun v95 =>
              let t97 : Tm := put (put q90.1 88 v95) 89 v95
              (gsel v95 true
                ((fieldA 0 (t97 3)).bind fun v98 =>
                 (ld true 1 v98 q90.2.1).bind fun v99 =>
                 (fieldA 7 (t97 3)).bind fun v100 =>
                 (ld false 1 v100 q90.2.1).bind fun v101 =>
                 (C 65 [v99, v101] q90.2.1 (q90.2.2)).bind fun q102 =>
                 some (put (put (put (put (put t97 90 v98) 91 v99) 92 v100) 93 v101) 94 q102.1, q102.2.1, q102.2.2))
                (some (put (put (put (put (put t97 90 (.tuple #[])) 91 (.tuple #[])) 92 (.tuple #[])) 93 (.tuple #[])) 94 (.tuple #[]), q90.2.1, q90.2.2))
              ).bind fun (q96 : R3) =>
              (pickV (q96.1 89) (q96.1 94) (.bool false)).bind fun v103 =>
              some (v103, q96.2.1, q96.2.2))
             ((binK .plain .eql v43 (.int .i64 3)).bind fun v104 =>
              csel v104
                ((fieldA 1 (q33.1 3)).bind fun v105 =>
                 (ld false 1 v105 q33.2.1).bind fun v106 =>
                 (binK .plain .eql v106 (.int .i64 0)).bind fun v107 =>
                 let t109 : Tm := put (put (put (put (put (put (put (put (put (put (put (put (put (put (put q33.1 37 v41) 38 v42) 39 v43) 41 v44) 40 v44) 57 v61) 56 v61) 80 v86) 79 v86) 97 v104) 96 v104) 98 v105) 99 v106) 100 v107) 101 v107
                 (gsel v107 true
                   ((fieldA 6 (t109 3)).bind fun v110 =>
                    (ld false 1 v110 q33.2.1).bind fun v111 =>
                    (C 51 [v111, .int .i64 1, .int .i64 7] q33.2.1 (q33.2.2 + 24)).bind fun q112 =>
                    some (put (put (put t109 102 v110) 103 v111) 104 q112.1, q112.2.1, q112.2.2))
                   (some (put (put (put t109 102 (.tuple #[])) 103 (.tuple #[])) 104 (.tuple #[]), q33.2.1, q33.2.2 + 24))
                 ).bind fun (q108 : R3) =>
                 (pickV (q108.1 101) (q108.1 104) (.bool false)).bind fun v113 =>
                 let t115 : Tm := put (put q108.1 105 v113) 106 v113
                 (gsel v113 true
                   ((fieldA 7 (t115 3)).bind fun v116 =>
                    (ld false 1 v116 q108.2.1).bind fun v117 =>
                    (binK .plain .eql v117 (.int .i64 0)).bind fun v118 =>
                    some (put (put (put t115 107 v116) 108 v117) 109 v118, q108.2.1, q108.2.2))
                   (some (put (put (put t115 107 (.tuple #[])) 108 (.tuple #[])) 109 (.tuple #[]), q108.2.1, q108.2.2))
                 ).bind fun (q114 : R3) =>
                 (pickV (q114.1 106) (q114.1 109) (.bool false)).bind fun v119 =>
                 some (v119, q114.2.1, q114.2.2))
                (some (.bool false, q33.2.1, q33.2.2 + 11))))))
theorem s35 (C : Calling) (L : Body → Body) (t : Tm) (H : Hp) (n : Nat) : bodyK Try.prog C L Try.f35 t H n = S35 C L t H n := by kernel_rfl
theorem c35 (args : List Value) (H : Hp) (n : Nat) : Call Try.prog 35 args H n = S35 (Call Try.prog) Loop (argsT args) H n := (Call_body Try.func35 args H n).trans (s35 ..)
/-! 36: spec.MachineNew -/
noncomputable def S36 (C : Calling) (L : Body → Body) (t : Tm) (H : Hp) (n : Nat) : Option (Value × Hp × Nat) :=
  (vcells (t 0)).bind fun c2 =>
  let H1 := H.set (n) (some (.row c2 0 true))
  let H3 := H1.set (n + 1) (some (.row [nilS, .int .i64 0, .int .i64 0, .int .i64 0, .int .i64 0, .int .i64 0, .int .i64 0, .int .i64 0] 0 true))
  (ld true 3 (ptr (n) 0) H3).bind fun v4 =>
  (C 44 [v4, t 1] H3 (n + 7)).bind fun q5 =>
  (ld true 3 (ptr (n) 0) q5.2.1).bind fun v6 =>
  (C 10 [v6] q5.2.1 (q5.2.2 + 16)).bind fun q7 =>
  (un .not q7.1).bind fun v8 =>
  let t10 : Tm := put (put (put (put (put (put (put (put (put (put (put t 2 (ptr (n) 0)) 4 (ptr (n + 1) 0)) 5 (.bool false)) 8 v4) 9 (t 1)) 10 q5.1) 6 q5.1) 11 v6) 12 q7.1) 13 v8) 14 v8
  (gsel v8 false
    ((binK .plain .lss q5.1 (.int .i64 0)).bind fun v11 =>
     some (put (put t10 15 q5.1) 16 v11, q7.2.1, q7.2.2))
    (some (put (put t10 15 (.tuple #[])) 16 (.tuple #[]), q7.2.1, q7.2.2))
  ).bind fun (q9 : R3) =>
  (pickV (q9.1 14) (.bool true) (q9.1 16)).bind fun v12 =>
  let t14 : Tm := put (put q9.1 17 v12) 18 v12
  (gsel v12 false
    ((fieldA 2 (t14 2)).bind fun v15 =>
     (ld false 1 v15 q9.2.1).bind fun v16 =>
     (idxA 3 v16 (t14 6)).bind fun v17 =>
     (fieldA 2 v17).bind fun v18 =>
     (ld false 1 v18 q9.2.1).bind fun v19 =>
     (binK .plain .neq v19 (.int .i64 0)).bind fun v20 =>
     some (put (put (put (put (put (put (put t14 19 v15) 20 v16) 21 (t14 6)) 22 v17) 23 v18) 24 v19) 25 v20, q9.2.1, q9.2.2))
    (some (put (put (put (put (put (put (put t14 19 (.tuple #[])) 20 (.tuple #[])) 21 (.tuple #[])) 22 (.tuple #[])) 23 (.tuple #[])) 24 (.tuple #[])) 25 (.tuple #[]), q9.2.1, q9.2.2))
  ).bind fun (q13 : R3) =>
  (pickV (q13.1 18) (.bool true) (q13.1 25)).bind fun v21 =>
  csel v21
    ((bld [nilS, .int .i64 0, .int .i64 0, .int .i64 0, .int .i64 0, .int .i64 0, .int .i64 0, .int .i64 0] []).bind fun v22 =>
     (st true 8 (q13.1 4) v22 q13.2.1).bind fun H23 =>
     (ld true 8 (q13.1 4) H23).bind fun v24 =>
     iteK ([v24, .bool false].all notTup) <|
     some (.tuple ⟨[v24, .bool false]⟩, H23, q13.2.2 + 3))
    ((bld [.int .i64 0, .int .i64 0, .string ⟨#[]⟩, .int .i64 0, .int .i64 0] [(0, 1, .int .i64 1)]).bind fun v25 =>
     (bld [.int .i64 0, .int .i64 0, .string ⟨#[]⟩, .int .i64 0, .int .i64 0] [(0, 1, .int .i64 5)]).bind fun v26 =>
     (bsl (q13.2.2 + 2) 5 2 [.int .i64 0, .int .i64 0, .string ⟨#[]⟩, .int .i64 0, .int .i64 0] [(0, 5, v25), (5, 5, v26)] q13.2.1).bind fun p27 =>
     (bld [nilS] [(0, 1, p27.1)]).bind fun v28 =>
     let H29 := p27.2.set (q13.2.2 + 4) (some (.row [nilS] 0 true))
     (st true 1 (ptr (q13.2.2 + 4) 0) v28 H29).bind fun H30 =>
     (ld true 1 (ptr (q13.2.2 + 4) 0) H30).bind fun v31 =>
     (fieldA 2 (q13.1 2)).bind fun v32 =>
     (ld false 1 v32 H30).bind fun v33 =>
     (idxA 3 v33 (q13.1 6)).bind fun v34 =>
     (fieldA 1 v34).bind fun v35 =>
     (ld false 1 v35 H30).bind fun v36 =>
     (bld [nilS, .int .i64 0, .int .i64 0, .int .i64 0, .int .i64 0, .int .i64 0, .int .i64 0, .int .i64 0] [(0, 1, v31), (1, 1, v36), (3, 1, .int .i64 1)]).bind fun v37 =>
     (st true 8 (q13.1 4) v37 H30).bind fun H38 =>
     (ld true 8 (q13.1 4) H38).bind fun v39 =>
     iteK ([v39, .bool true].all notTup) <|
     some (.tuple ⟨[v39, .bool true]⟩, H38, q13.2.2 + 16))
theorem s36 (C : Calling) (L : Body → Body) (t : Tm) (H : Hp) (n : Nat) : bodyK Try.prog C L Try.f36 t H n = S36 C L t H n := by kernel_rfl
theorem c36 (args : List Value) (H : Hp) (n : Nat) : Call Try.prog 36 args H n = S36 (Call Try.prog) Loop (argsT args) H n := (Call_body Try.func36 args H n).trans (s36 ..)
/-! 37: impl.MachineNew -/
noncomputable def S37 (C : Calling) (L : Body → Body) (t : Tm) (H : Hp) (n : Nat) : Option (Value × Hp × Nat) :=
  (vcells (t 0)).bind fun c2 =>
  let H1 := H.set (n) (some (.row c2 0 true))
  let H3 := H1.set (n + 1) (some (.row [nilS, .int .i64 0, .int .i64 0, .int .i64 0, .int .i64 0, .int .i64 0, .int .i64 0, .int .i64 0] 0 true))
  (ld true 3 (ptr (n) 0) H3).bind fun v4 =>
  (C 50 [v4, t 1] H3 (n + 7)).bind fun q5 =>
  (ld true 3 (ptr (n) 0) q5.2.1).bind fun v6 =>
  (C 12 [v6] q5.2.1 (q5.2.2 + 16)).bind fun q7 =>
  (un .not q7.1).bind fun v8 =>
  let t10 : Tm := put (put (put (put (put (put (put (put (put (put (put t 2 (ptr (n) 0)) 4 (ptr (n + 1) 0)) 5 (.bool false)) 7 v4) 8 (t 1)) 9 q5.1) 6 q5.1) 10 v6) 11 q7.1) 12 v8) 13 v8
  (gsel v8 false
    ((binK .plain .lss q5.1 (.int .i64 0)).bind fun v11 =>
     some (put (put t10 14 q5.1) 15 v11, q7.2.1, q7.2.2))
    (some (put (put t10 14 (.tuple #[])) 15 (.tuple #[]), q7.2.1, q7.2.2))
  ).bind fun (q9 : R3) =>
  (pickV (q9.1 13) (.bool true) (q9.1 15)).bind fun v12 =>
  let t14 : Tm := put (put q9.1 16 v12) 17 v12
  (gsel v12 false
    ((fieldA 2 (t14 2)).bind fun v15 =>
     (ld false 1 v15 q9.2.1).bind fun v16 =>
     (idxA 3 v16 (t14 6)).bind fun v17 =>
     (fieldA 2 v17).bind fun v18 =>
     (ld false 1 v18 q9.2.1).bind fun v19 =>
     (binK .plain .neq v19 (.int .i64 0)).bind fun v20 =>
     some (put (put (put (put (put (put (put t14 18 v15) 19 v16) 20 (t14 6)) 21 v17) 22 v18) 23 v19) 24 v20, q9.2.1, q9.2.2))
    (some (put (put (put (put (put (put (put t14 18 (.tuple #[])) 19 (.tuple #[])) 20 (.tuple #[])) 21 (.tuple #[])) 22 (.tuple #[])) 23 (.tuple #[])) 24 (.tuple #[]), q9.2.1, q9.2.2))
  ).bind fun (q13 : R3) =>
  (pickV (q13.1 17) (.bool true) (q13.1 24)).bind fun v21 =>
  csel v21
    ((bld [nilS, .int .i64 0, .int .i64 0, .int .i64 0, .int .i64 0, .int .i64 0, .int .i64 0, .int .i64 0] []).bind fun v22 =>
     (st true 8 (q13.1 4) v22 q13.2.1).bind fun H23 =>
     (ld true 8 (q13.1 4) H23).bind fun v24 =>
     iteK ([v24, .bool false].all notTup) <|
     some (.tuple ⟨[v24, .bool false]⟩, H23, q13.2.2 + 3))
    ((bld [.int .i64 0, .int .i64 0, .string ⟨#[]⟩, .int .i64 0, .int .i64 0] [(0, 1, .int .i64 1)]).bind fun v25 =>
     (bld [.int .i64 0, .int .i64 0, .string ⟨#[]⟩, .int .i64 0, .int .i64 0] [(0, 1, .int .i64 5)]).bind fun v26 =>
     (bsl (q13.2.2 + 2) 5 2 [.int .i64 0, .int .i64 0, .string ⟨#[]⟩, .int .i64 0, .int .i64 0] [(0, 5, v25), (5, 5, v26)] q13.2.1).bind fun p27 =>
     (bld [nilS] [(0, 1, p27.1)]).bind fun v28 =>
     (fieldA 2 (q13.1 2)).bind fun v29 =>
     (ld false 1 v29 p27.2).bind fun v30 =>
     (idxA 3 v30 (q13.1 6)).bind fun v31 =>
     (fieldA 1 v31).bind fun v32 =>
     (ld false 1 v32 p27.2).bind fun v33 =>
     (bld [nilS, .int .i64 0, .int .i64 0, .int .i64 0, .int .i64 0, .int .i64 0, .int .i64 0, .int .i64 0] [(0, 1, v28), (1, 1, v33), (3, 1, .int .i64 1)]).bind fun v34 =>
     (st true 8 (q13.1 4) v34 p27.2).bind fun H35 =>
     (ld true 8 (q13.1 4) H35).bind fun v36 =>
     iteK ([v36, .bool true].all notTup) <|
     some (.tuple ⟨[v36, .bool true]⟩, H35, q13.2.2 + 13))
theorem s37 (C : Calling) (L : Body → Body) (t : Tm) (H : Hp) (n : Nat) : bodyK Try.prog C L Try.f37 t H n = S37 C L t H n := by kernel_rfl
theorem c37 (args : List Value) (H : Hp) (n : Nat) : Call Try.prog 37 args H n = S37 (Call Try.prog) Loop (argsT args) H n := (Call_body Try.func37 args H n).trans (s37 ..)
/-! 38: laws.markCode -/
noncomputable def S38 (C : Calling) (L : Body → Body) (t : Tm) (H : Hp) (n : Nat) : Option (Value × Hp × Nat) :=
  (vcells (t 0)).bind fun c2 =>
  let H1 := H.set (n) (some (.row c2 0 true))
  (fieldA 0 (ptr (n) 0)).bind fun v3 =>
  (ld true 1 v3 H1).bind fun v4 =>
  (C 31 [v4, t 1] H1 (n + 7)).bind fun q5 =>
  (fieldA 1 (ptr (n) 0)).bind fun v6 =>
  (ld false 1 v6 q5.2.1).bind fun v7 =>
  (C 84 [v7, q5.1] q5.2.1 (q5.2.2 + 5)).bind fun q8 =>
  (fieldA 2 (ptr (n) 0)).bind fun v9 =>
  (ld false 1 v9 q8.2.1).bind fun v10 =>
  (C 85 [v10, q8.1] q8.2.1 (q8.2.2 + 5)).bind fun q11 =>
  some (q11.1, q11.2.1, q11.2.2 + 2)
theorem s38 (C : Calling) (L : Body → Body) (t : Tm) (H : Hp) (n : Nat) : bodyK Try.prog C L Try.f38 t H n = S38 C L t H n := by kernel_rfl
theorem c38 (args : List Value) (H : Hp) (n : Nat) : Call Try.prog 38 args H n = S38 (Call Try.prog) Loop (argsT args) H n := (Call_body Try.func38 args H n).trans (s38 ..)
/-! 39: laws.szInstrS -/
noncomputable def S39L0 (C : Calling) (L : Body → Body) : Body := fun t H n =>
  (lenV false (t 0)).bind fun v5 =>
  (binK .plain .lss (t 5) v5).bind fun v6 =>
  csel v6
    ((idxA 4 (t 0) (t 5)).bind fun v7 =>
     (ld true 4 v7 H).bind fun v8 =>
     (C 86 [v8, t 1] H (n + 11)).bind fun q9 =>
     (binK .plain .lss q9.1 (.int .i64 0)).bind fun v10 =>
     csel v10
       (some ⟨.ret, put (put (put (put (put (put (put (put (put (put (put (put (put (put t 12 (t 5)) 13 (t 0)) 14 v5) 15 v6) 18 (t 0)) 19 (t 5)) 20 v7) 21 v8) 22 (t 1)) 23 q9.1) 1 q9.1) 24 q9.1) 25 v10) 4 (.int .i64 (-1)), q9.2.1, q9.2.2 + 3⟩)
       ((binK .plain .add (t 5) (.int .i64 1)).bind fun v11 =>
        some ⟨.normal, put (put (put (put (put (put (put (put (put (put (put (put (put (put (put (put t 12 (t 5)) 13 (t 0)) 14 v5) 15 v6) 18 (t 0)) 19 (t 5)) 20 v7) 21 v8) 22 (t 1)) 23 q9.1) 1 q9.1) 24 q9.1) 25 v10) 16 (t 5)) 17 v11) 5 v11, q9.2.1, q9.2.2 + 5⟩))
    (some ⟨(.exit 0), put (put (put (put t 12 (t 5)) 13 (t 0)) 14 v5) 15 v6, H, n + 4⟩)
noncomputable def S39 (C : Calling) (L : Body → Body) (t : Tm) (H : Hp) (n : Nat) : Option (Value × Hp × Nat) :=
  (lenV false (t 0)).bind fun v1 =>
  (binK .plain .sub (t 1) v1).bind fun v2 =>
  (binK .plain .lss v2 (.int .i64 0)).bind fun v3 =>
  csel v3
    (some (.int .i64 (-1), H, n + 9))
    ((L (S39L0 C L) (put (put (put (put (put (put (put (put (put t 4 (.int .i64 0)) 6 (t 1)) 7 (t 0)) 8 v1) 9 v2) 1 v2) 10 v2) 11 v3) 5 (.int .i64 0)) H (n + 9)).bind fun (o4 : Out) =>
     let o12 := outOf 0 o4
     thenK o12
       (some (o12.t 1, o12.H, o12.n + 2))
       (finE o12.e
          (some (o12.t 4, o12.H, o12.n))))
theorem s39 (C : Calling) (L : Body → Body) (t : Tm) (H : Hp) (n : Nat) : bodyK Try.prog C L Try.f39 t H n = S39 C L t H n := by kernel_rfl
theorem c39 (args : List Value) (H : Hp) (n : Nat) : Call Try.prog 39 args H n = S39 (Call Try.prog) Loop (argsT args) H n := (Call_body Try.func39 args H n).trans (s39 ..)
/-! 40: laws.szDefS -/
noncomputable def S40L0 (C : Calling) (L : Body → Body) : Body := fun t H n =>
  (lenV false (t 0)).bind fun v5 =>
  (binK .plain .lss (t 5) v5).bind fun v6 =>
  csel v6
    ((idxA 3 (t 0) (t 5)).bind fun v7 =>
     (ld true 3 v7 H).bind fun v8 =>
     (C 87 [v8, t 1] H (n + 11)).bind fun q9 =>
     (binK .plain .lss q9.1 (.int .i64 0)).bind fun v10 =>
     csel v10
       (some ⟨.ret, put (put (put (put (put (put (put (put (put (put (put (put (put (put t 12 (t 5)) 13 (t 0)) 14 v5) 15 v6) 18 (t 0)) 19 (t 5)) 20 v7) 21 v8) 22 (t 1)) 23 q9.1) 1 q9.1) 24 q9.1) 25 v10) 4 (.int .i64 (-1)), q9.2.1, q9.2.2 + 3⟩)
       ((binK .plain .add (t 5) (.int .i64 1)).bind fun v11 =>
        some ⟨.normal, put (put (put (put (put (put (put (put (put (put (put (put (put (put (put (put t 12 (t 5)) 13 (t 0)) 14 v5) 15 v6) 18 (t 0)) 19 (t 5)) 20 v7) 21 v8) 22 (t 1)) 23 q9.1) 1 q9.1) 24 q9.1) 25 v10) 16 (t 5)) 17 v11) 5 v11, q9.2.1, q9.2.2 + 5⟩))
    (some ⟨(.exit 0), put (put (put (put t 12 (t 5)) 13 (t 0)) 14 v5) 15 v6, H, n + 4⟩)
noncomputable def S40 (C : Calling) (L : Body → Body) (t : Tm) (H : Hp) (n : Nat) : Option (Value × Hp × Nat) :=
  (lenV false (t 0)).bind fun v1 =>
  (binK .plain .sub (t 1) v1).bind fun v2 =>
  (binK .plain .lss v2 (.int .i64 0)).bind fun v3 =>
  csel v3
    (some (.int .i64 (-1), H, n + 9))
    ((L (S40L0 C L) (put (put (put (put (put (put (put (put (put t 4 (.int .i64 0)) 6 (t 1)) 7 (t 0)) 8 v1) 9 v2) 1 v2) 10 v2) 11 v3) 5 (.int .i64 0)) H (n + 9)).bind fun (o4 : Out) =>
     let o12 := outOf 0 o4
     thenK o12
       (some (o12.t 1, o12.H, o12.n + 2))
       (finE o12.e
          (some (o12.t 4, o12.H, o12.n))))
theorem s40 (C : Calling) (L : Body → Body) (t : Tm) (H : Hp) (n : Nat) : bodyK Try.prog C L Try.f40 t H n = S40 C L t H n := by kernel_rfl
theorem c40 (args : List Value) (H : Hp) (n : Nat) : Call Try.prog 40 args H n = S40 (Call Try.prog) Loop (argsT args) H n := (Call_body Try.func40 args H n).trans (s40 ..)
/-! 41: spec.PoolOk -/
noncomputable def S41L0 (C : Calling) (L : Body → Body) : Body := fun t H n =>
  (fieldA 0 (t 1)).bind fun v4 =>
  (ld false 1 v4 H).bind fun v5 =>
  (lenV false v5).bind fun v6 =>
  (binK .plain .lss (t 3) v6).bind fun v7 =>
  csel v7
    ((fieldA 0 (t 1)).bind fun v8 =>
     (ld false 1 v8 H).bind fun v9 =>
     (idxA 5 v9 (t 3)).bind fun v10 =>
     (ld true 5 v10 H).bind fun v11 =>
     (C 88 [v11, t 3] H (n + 13)).bind fun q12 =>
     (un .not q12.1).bind fun v13 =>
     csel v13
       (some ⟨.ret, put (put (put (put (put (put (put (put (put (put (put (put (put (put t 4 (t 3)) 5 v4) 6 v5) 7 v6) 8 v7) 11 v8) 12 v9) 13 (t 3)) 14 v10) 15 v11) 16 (t 3)) 17 q12.1) 18 v13) 2 (.bool false), q12.2.1, q12.2.2 + 1⟩)
       ((binK .plain .add (t 3) (.int .i64 1)).bind fun v14 =>
        some ⟨.normal, put (put (put (put (put (put (put (put (put (put (put (put (put (put (put (put t 4 (t 3)) 5 v4) 6 v5) 7 v6) 8 v7) 11 v8) 12 v9) 13 (t 3)) 14 v10) 15 v11) 16 (t 3)) 17 q12.1) 18 v13) 9 (t 3)) 10 v14) 3 v14, q12.2.1, q12.2.2 + 3⟩))
    (some ⟨(.exit 0), put (put (put (put (put t 4 (t 3)) 5 v4) 6 v5) 7 v6) 8 v7, H, n + 5⟩)
noncomputable def S41 (C : Calling) (L : Body → Body) (t : Tm) (H : Hp) (n : Nat) : Option (Value × Hp × Nat) :=
  (vcells (t 0)).bind fun c2 =>
  let H1 := H.set (n) (some (.row c2 0 true))
  (L (S41L0 C L) (put (put (put t 1 (ptr (n) 0)) 2 (.bool false)) 3 (.int .i64 0)) H1 (n + 3)).bind fun (o3 : Out) =>
  let o15 := outOf 0 o3
  thenK o15
    ((fieldA 0 (o15.t 1)).bind fun v16 =>
     (ld false 1 v16 o15.H).bind fun v17 =>
     (lenV false v17).bind fun v18 =>
     (binK .plain .leq v18 (.int .i64 3000)).bind fun v19 =>
     some (v19, o15.H, o15.n + 5))
    (finE o15.e
       (some (o15.t 2, o15.H, o15.n)))
theorem s41 (C : Calling) (L : Body → Body) (t : Tm) (H : Hp) (n : Nat) : bodyK Try.prog C L Try.f41 t H n = S41 C L t H n := by kernel_rfl
theorem c41 (args : List Value) (H : Hp) (n : Nat) : Call Try.prog 41 args H n = S41 (Call Try.prog) Loop (argsT args) H n := (Call_body Try.func41 args H n).trans (s41 ..)
/-! 42: spec.l4Instr -/
noncomputable def S42 (C : Calling) (L : Body → Body) (t : Tm) (H : Hp) (n : Nat) : Option (Value × Hp × Nat) :=
  (vcells (t 0)).bind fun c2 =>
  let H1 := H.set (n) (some (.row c2 0 true))
  (fieldA 1 (ptr (n) 0)).bind fun v3 =>
  (ld false 1 v3 H1).bind fun v4 =>
  (idxA 4 v4 (t 1)).bind fun v5 =>
  (ld true 4 v5 H1).bind fun v6 =>
  let H7 := H1.set (n + 7) (some (.row [.int .i64 0, .int .i64 0, .int .i64 0, .string ⟨#[]⟩] 0 true))
  (st true 4 (ptr (n + 7) 0) v6 H7).bind fun H8 =>
  (fieldA 1 (ptr (n) 0)).bind fun v9 =>
  (ld false 1 v9 H8).bind fun v10 =>
  (lenV false v10).bind fun v11 =>
  (fieldA 0 (ptr (n + 7) 0)).bind fun v12 =>
  (ld false 1 v12 H8).bind fun v13 =>
  (bld [.int .i64 0, .int .i64 0, .int .i64 0, .string ⟨#[]⟩] [(0, 1, v13)]).bind fun v14 =>
  let H15 := H8.set (n + 16) (some (.row [.int .i64 0, .int .i64 0, .int .i64 0, .string ⟨#[]⟩] 0 true))
  (st true 4 (ptr (n + 16) 0) v14 H15).bind fun H16 =>
  (fieldA 0 (ptr (n + 7) 0)).bind fun v17 =>
  (ld false 1 v17 H16).bind fun v18 =>
  (binK .plain .eql v18 (.int .i64 1)).bind fun v19 =>
  csel v19
    ((fieldA 1 (ptr (n + 7) 0)).bind fun v20 =>
     (ld false 1 v20 H16).bind fun v21 =>
     (fieldA 1 (ptr (n + 16) 0)).bind fun v22 =>
     (st false 1 v22 v21 H16).bind fun H23 =>
     (ld true 4 (ptr (n + 7) 0) H23).bind fun v24 =>
     (ld true 4 (ptr (n + 16) 0) H23).bind fun v25 =>
     (binK (.agg [(0, (.int .i64)), (1, (.int .i64)), (2, (.int .i64)), (3, .string)]) .eql v24 v25).bind fun v26 =>
     let t28 : Tm := put (put (put (put (put (put (put (put (put (put (put (put (put (put (put (put (put (put (put (put (put (put (put (put (put (put (put t 2 (ptr (n) 0)) 4 (.bool false)) 8 v3) 9 v4) 10 (t 1)) 11 v5) 12 v6) 5 (ptr (n + 7) 0)) 13 v9) 14 v10) 15 v11) 6 v11) 16 v12) 17 v13) 18 v14) 7 (ptr (n + 16) 0)) 19 v17) 20 v18) 22 v19) 21 v19) 23 v20) 24 v21) 25 v22) 26 v24) 27 v25) 28 v26) 29 v26
     (gsel v26 true
       ((fieldA 0 (ptr (n) 0)).bind fun v29 =>
        (ld true 1 v29 H23).bind fun v30 =>
        (fieldA 1 (ptr (n + 7) 0)).bind fun v31 =>
        (ld false 1 v31 H23).bind fun v32 =>
        (C 68 [v30, v32] H23 (n + 37)).bind fun q33 =>
        some (put (put (put (put (put t28 30 v29) 31 v30) 32 v31) 33 v32) 34 q33.1, q33.2.1, q33.2.2))
       (some (put (put (put (put (put t28 30 (.tuple #[])) 31 (.tuple #[])) 32 (.tuple #[])) 33 (.tuple #[])) 34 (.tuple #[]), H23, n + 37))
     ).bind fun (q27 : R3) =>
     (pickV (q27.1 29) (q27.1 34) (.bool false)).bind fun v34 =>
     some (v34, q27.2.1, q27.2.2))
    ((binK .plain .eql v18 (.int .i64 2)).bind fun v35 =>
     csel v35
       ((fieldA 3 (ptr (n + 7) 0)).bind fun v36 =>
        (ld false 1 v36 H16).bind fun v37 =>
        (binK .plain .eql v37 (.string ⟨#[]⟩)).bind fun v38 =>
        let t40 : Tm := put (put (put (put (put (put (put (put (put (put (put (put (put (put (put (put (put (put (put (put (put (put (put (put (put (put t 2 (ptr (n) 0)) 4 (.bool false)) 8 v3) 9 v4) 10 (t 1)) 11 v5) 12 v6) 5 (ptr (n + 7) 0)) 13 v9) 14 v10) 15 v11) 6 v11) 16 v12) 17 v13) 18 v14) 7 (ptr (n + 16) 0)) 19 v17) 20 v18) 22 v19) 21 v19) 37 v35) 36 v35) 38 v36) 39 v37) 40 v38) 41 v38
        (gsel v38 true
          ((fieldA 1 (ptr (n + 7) 0)).bind fun v41 =>
           (ld false 1 v41 H16).bind fun v42 =>
           (C 45 [v42, .int .i64 0, .int .i64 20] H16 (n + 38)).bind fun q43 =>
           some (put (put (put t40 42 v41) 43 v42) 44 q43.1, q43.2.1, q43.2.2))
          (some (put (put (put t40 42 (.tuple #[])) 43 (.tuple #[])) 44 (.tuple #[]), H16, n + 38))
        ).bind fun (q39 : R3) =>
        (pickV (q39.1 41) (q39.1 44) (.bool false)).bind fun v44 =>
        let t46 : Tm := put (put q39.1 45 v44) 46 v44
        (gsel v44 true
          ((fieldA 2 (t46 5)).bind fun v47 =>
           (ld false 1 v47 q39.2.1).bind fun v48 =>
           (C 45 [v48, .int .i64 0, .int .i64 3] q39.2.1 (q39.2.2)).bind fun q49 =>
           some (put (put (put t46 47 v47) 48 v48) 49 q49.1, q49.2.1, q49.2.2))
          (some (put (put (put t46 47 (.tuple #[])) 48 (.tuple #[])) 49 (.tuple #[]), q39.2.1, q39.2.2))
        ).bind fun (q45 : R3) =>
        (pickV (q45.1 46) (q45.1 49) (.bool false)).bind fun v50 =>
        some (v50, q45.2.1, q45.2.2))
       ((binK .plain .eql v18 (.int .i64 3)).bind fun v51 =>
        csel v51
          ((fieldA 3 (ptr (n + 7) 0)).bind fun v52 =>
           (ld false 1 v52 H16).bind fun v53 =>
           (fieldA 3 (ptr (n + 16) 0)).bind fun v54 =>
           (st false 1 v54 v53 H16).bind fun H55 =>
           (ld true 4 (ptr (n + 7) 0) H55).bind fun v56 =>
           (ld true 4 (ptr (n + 16) 0) H55).bind fun v57 =>
           (binK (.agg [(0, (.int .i64)), (1, (.int .i64)), (2, (.int .i64)), (3, .string)]) .eql v56 v57).bind fun v58 =>
           let t60 : Tm := put (put (put (put (put (put (put (put (put (put (put (put (put (put (put (put (put (put (put (put (put (put (put (put (put (put (put (put (put (put (put t 2 (ptr (n) 0)) 4 (.bool false)) 8 v3) 9 v4) 10 (t 1)) 11 v5) 12 v6) 5 (ptr (n + 7) 0)) 13 v9) 14 v10) 15 v11) 6 v11) 16 v12) 17 v13) 18 v14) 7 (ptr (n + 16) 0)) 19 v17) 20 v18) 22 v19) 21 v19) 37 v35) 36 v35) 52 v51) 51 v51) 53 v52) 54 v53) 55 v54) 56 v56) 57 v57) 58 v58) 59 v58
           (gsel v58 true
             ((fieldA 3 (ptr (n + 7) 0)).bind fun v61 =>
              (ld false 1 v61 H55).bind fun v62 =>
              (C 43 [v62] H55 (n + 39)).bind fun q63 =>
              some (put (put (put t60 60 v61) 61 v62) 62 q63.1, q63.2.1, q63.2.2))
             (some (put (put (put t60 60 (.tuple #[])) 61 (.tuple #[])) 62 (.tuple #[]), H55, n + 39))
           ).bind fun (q59 : R3) =>
           (pickV (q59.1 59) (q59.1 62) (.bool false)).bind fun v64 =>
           some (v64, q59.2.1, q59.2.2))
          ((binK .plain .eql v18 (.int .i64 4)).bind fun v65 =>
           let t67 : Tm := put (put (put (put (put (put (put (put (put (put (put (put (put (put (put (put (put (put (put (put (put (put (put (put (put (put t 2 (ptr (n) 0)) 4 (.bool false)) 8 v3) 9 v4) 10 (t 1)) 11 v5) 12 v6) 5 (ptr (n + 7) 0)) 13 v9) 14 v10) 15 v11) 6 v11) 16 v12) 17 v13) 18 v14) 7 (ptr (n + 16) 0)) 19 v17) 20 v18) 22 v19) 21 v19) 37 v35) 36 v35) 52 v51) 51 v51) 65 v65) 64 v65
           (csel v65
             (some ⟨.normal, t67, H16, n + 28⟩)
             ((binK .plain .eql v18 (.int .i64 5)).bind fun v68 =>
              some ⟨.normal, put (put t67 66 v68) 64 v68, H16, n + 30⟩)
           ).bind fun (o66 : Out) =>
           csel (o66.t 64)
             ((fieldA 1 (o66.t 5)).bind fun v69 =>
              (ld false 1 v69 o66.H).bind fun v70 =>
              (fieldA 1 (o66.t 7)).bind fun v71 =>
              (st false 1 v71 v70 o66.H).bind fun H72 =>
              (ld true 4 (o66.t 5) H72).bind fun v73 =>
              (ld true 4 (o66.t 7) H72).bind fun v74 =>
              (binK (.agg [(0, (.int .i64)), (1, (.int .i64)), (2, (.int .i64)), (3, .string)]) .eql v73 v74).bind fun v75 =>
              let t77 : Tm := put (put (put (put (put (put (put o66.t 67 v69) 68 v70) 69 v71) 70 v73) 71 v74) 72 v75) 73 v75
              (gsel v75 true
                ((fieldA 1 (t77 5)).bind fun v78 =>
                 (ld false 1 v78 H72).bind fun v79 =>
                 (binK .plain .gtr v79 (t77 1)).bind fun v80 =>
                 some (put (put (put (put t77 74 v78) 75 v79) 76 (t77 1)) 77 v80, H72, o66.n + 20))
                (some (put (put (put (put t77 74 (.tuple #[])) 75 (.tuple #[])) 76 (.tuple #[])) 77 (.tuple #[]), H72, o66.n + 20))
              ).bind fun (q76 : R3) =>
              (pickV (q76.1 73) (q76.1 77) (.bool false)).bind fun v81 =>
              let t83 : Tm := put (put q76.1 78 v81) 79 v81
              (gsel v81 true
                ((fieldA 1 (t83 5)).bind fun v84 =>
                 (ld false 1 v84 q76.2.1).bind fun v85 =>
                 (binK .plain .leq v85 (t83 6)).bind fun v86 =>
                 some (put (put (put (put t83 80 v84) 81 v85) 82 (t83 6)) 83 v86, q76.2.1, q76.2.2))
                (some (put (put (put (put t83 80 (.tuple #[])) 81 (.tuple #[])) 82 (.tuple #[])) 83 (.tuple #[]), q76.2.1, q76.2.2))
              ).bind fun (q82 : R3) =>
              (pickV (q82.1 79) (q82.1 83) (.bool false)).bind fun v87 =>
              some (v87, q82.2.1, q82.2.2))
             ((binK .plain .eql (o66.t 20) (.int .i64 6)).bind fun v88 =>
              csel v88
                ((fieldA 3 (o66.t 5)).bind fun v89 =>
                 (ld false 1 v89 o66.H).bind fun v90 =>
                 (binK .plain .eql v90 (.string ⟨#[]⟩)).bind fun v91 =>
                 let t93 : Tm := put (put (put (put (put (put o66.t 86 v88) 85 v88) 87 v89) 88 v90) 89 v91) 90 v91
                 (gsel v91 true
                   ((fieldA 1 (t93 5)).bind fun v94 =>
                    (ld false 1 v94 o66.H).bind fun v95 =>
                    (binK .plain .gtr v95 (t93 1)).bind fun v96 =>
                    some (put (put (put (put t93 91 v94) 92 v95) 93 (t93 1)) 94 v96, o66.H, o66.n + 23))
                   (some (put (put (put (put t93 91 (.tuple #[])) 92 (.tuple #[])) 93 (.tuple #[])) 94 (.tuple #[]), o66.H, o66.n + 23))
                 ).bind fun (q92 : R3) =>
                 (pickV (q92.1 90) (q92.1 94) (.bool false)).bind fun v97 =>
                 let t99 : Tm := put (put q92.1 95 v97) 96 v97
                 (gsel v97 true
                   ((fieldA 1 (t99 5)).bind fun v100 =>
                    (ld false 1 v100 q92.2.1).bind fun v101 =>
                    (binK .plain .lss v101 (t99 6)).bind fun v102 =>
                    some (put (put (put (put t99 97 v100) 98 v101) 99 (t99 6)) 100 v102, q92.2.1, q92.2.2))
                   (some (put (put (put (put t99 97 (.tuple #[])) 98 (.tuple #[])) 99 (.tuple #[])) 100 (.tuple #[]), q92.2.1, q92.2.2))
                 ).bind fun (q98 : R3) =>
                 (pickV (q98.1 96) (q98.1 100) (.bool false)).bind fun v103 =>
                 let t105 : Tm := put (put q98.1 101 v103) 102 v103
                 (gsel v103 true
                   ((fieldA 2 (t105 5)).bind fun v106 =>
                    (ld false 1 v106 q98.2.1).bind fun v107 =>
                    (C 45 [v107, .int .i64 0, .int .i64 4] q98.2.1 (q98.2.2)).bind fun q108 =>
                    some (put (put (put t105 103 v106) 104 v107) 105 q108.1, q108.2.1, q108.2.2))
                   (some (put (put (put t105 103 (.tuple #[])) 104 (.tuple #[])) 105 (.tuple #[]), q98.2.1, q98.2.2))
                 ).bind fun (q104 : R3) =>
                 (pickV (q104.1 102) (q104.1 105) (.bool false)).bind fun v109 =>
                 some (v109, q104.2.1, q104.2.2))
                ((binK .plain .eql (o66.t 20) (.int .i64 7)).bind fun v110 =>
                 csel v110
                   ((fieldA 2 (o66.t 5)).bind fun v111 =>
                    (ld false 1 v111 o66.H).bind fun v112 =>
                    (fieldA 2 (o66.t 7)).bind fun v113 =>
                    (st false 1 v113 v112 o66.H).bind fun H114 =>
                    (ld true 4 (o66.t 5) H114).bind fun v115 =>
                    (ld true 4 (o66.t 7) H114).bind fun v116 =>
                    (binK (.agg [(0, (.int .i64)), (1, (.int .i64)), (2, (.int .i64)), (3, .string)]) .eql v115 v116).bind fun v117 =>
                    let t119 : Tm := put (put (put (put (put (put (put (put (put (put (put o66.t 86 v88) 85 v88) 108 v110) 107 v110) 109 v111) 110 v112) 111 v113) 112 v115) 113 v116) 114 v117) 115 v117
                    (gsel v117 true
                      ((fieldA 2 (t119 5)).bind fun v120 =>
                       (ld false 1 v120 H114).bind fun v121 =>
                       (C 45 [v121, .int .i64 0, .int .i64 4] H114 (o66.n + 17)).bind fun q122 =>
                       some (put (put (put t119 116 v120) 117 v121) 118 q122.1, q122.2.1, q122.2.2))
                      (some (put (put (put t119 116 (.tuple #[])) 117 (.tuple #[])) 118 (.tuple #[]), H114, o66.n + 17))
                    ).bind fun (q118 : R3) =>
                    (pickV (q118.1 115) (q118.1 118) (.bool false)).bind fun v123 =>
                    some (v123, q118.2.1, q118.2.2))
                   ((binK .plain .eql (o66.t 20) (.int .i64 8)).bind fun v124 =>
                    let t126 : Tm := put (put (put (put (put (put o66.t 86 v88) 85 v88) 108 v110) 107 v110) 121 v124) 120 v124
                    (csel v124
                      (some ⟨.normal, t126, o66.H, o66.n + 6⟩)
                      ((binK .plain .eql (t126 20) (.int .i64 9)).bind fun v127 =>
                       some ⟨.normal, put (put t126 122 v127) 120 v127, o66.H, o66.n + 8⟩)
                    ).bind fun (o125 : Out) =>
                    csel (o125.t 120)
                      ((ld true 4 (o125.t 5) o125.H).bind fun v128 =>
                       (ld true 4 (o125.t 7) o125.H).bind fun v129 =>
                       (binK (.agg [(0, (.int .i64)), (1, (.int .i64)), (2, (.int .i64)), (3, .string)]) .eql v128 v129).bind fun v130 =>
                       some (v130, o125.H, o125.n + 4))
                      (some (.bool false, o125.H, o125.n + 1))))))))
theorem s42 (C : Calling) (L : Body → Body) (t : Tm) (H : Hp) (n : Nat) : bodyK Try.prog C L Try.f42 t H n = S42 C L t H n := by kernel_rfl
theorem c42 (args : List Value) (H : Hp) (n : Nat) : Call Try.prog 42 args H n = S42 (Call Try.prog) Loop (argsT args) H n := (Call_body Try.func42 args H n).trans (s42 ..)
/-! 43: spec.NameOk -/
noncomputable def S43L0 (C : Calling) (L : Body → Body) : Body := fun t H n =>
  (lenV true (t 0)).bind fun v2 =>
  (binK .plain .lss (t 3) v2).bind fun v3 =>
  csel v3
    ((idxS (t 0) (t 3)).bind fun v4 =>
     (C 89 [v4] H (n + 9)).bind fun q5 =>
     (un .not q5.1).bind fun v6 =>
     csel v6
       (some ⟨.ret, put (put (put (put (put (put (put (put (put (put t 4 (t 3)) 5 (t 0)) 6 v2) 7 v3) 10 (t 0)) 11 (t 3)) 12 v4) 13 q5.1) 14 v6) 2 (.bool false), q5.2.1, q5.2.2 + 1⟩)
       ((binK .plain .add (t 3) (.int .i64 1)).bind fun v7 =>
        some ⟨.normal, put (put (put (put (put (put (put (put (put (put (put (put t 4 (t 3)) 5 (t 0)) 6 v2) 7 v3) 10 (t 0)) 11 (t 3)) 12 v4) 13 q5.1) 14 v6) 8 (t 3)) 9 v7) 3 v7, q5.2.1, q5.2.2 + 3⟩))
    (some ⟨(.exit 0), put (put (put (put t 4 (t 3)) 5 (t 0)) 6 v2) 7 v3, H, n + 4⟩)
noncomputable def S43 (C : Calling) (L : Body → Body) (t : Tm) (H : Hp) (n : Nat) : Option (Value × Hp × Nat) :=
  (L (S43L0 C L) (put (put t 2 (.bool false)) 3 (.int .i64 0)) H (n + 2)).bind fun (o1 : Out) =>
  let o8 := outOf 0 o1
  thenK o8
    ((lenV true (o8.t 0)).bind fun v9 =>
     (C 45 [v9, .int .i64 1, .int .i64 12] o8.H (o8.n + 4)).bind fun q10 =>
     some (q10.1, q10.2.1, q10.2.2))
    (finE o8.e
       (some (o8.t 2, o8.H, o8.n)))
theorem s43 (C : Calling) (L : Body → Body) (t : Tm) (H : Hp) (n : Nat) : bodyK Try.prog C L Try.f43 t H n = S43 C L t H n := by kernel_rfl
theorem c43 (args : List Value) (H : Hp) (n : Nat) : Call Try.prog 43 args H n = S43 (Call Try.prog) Loop (argsT args) H n := (Call_body Try.func43 args H n).trans (s43 ..)
/-! 44: spec.DefOf -/
noncomputable def S44L0 (C : Calling) (L : Body → Body) : Body := fun t H n =>
  (fieldA 2 (t 2)).bind fun v4 =>
  (ld false 1 v4 H).bind fun v5 =>
  (lenV false v5).bind fun v6 =>
  (binK .plain .lss (t 5) v6).bind fun v7 =>
  csel v7
    ((fieldA 2 (t 2)).bind fun v8 =>
     (ld false 1 v8 H).bind fun v9 =>
     (idxA 3 v9 (t 5)).bind fun v10 =>
     (fieldA 0 v10).bind fun v11 =>
     (ld false 1 v11 H).bind fun v12 =>
     (binK .plain .eql v12 (t 1)).bind fun v13 =>
     csel v13
       (some ⟨.ret, put (put (put (put (put (put (put (put (put (put (put (put (put (put (put t 6 (t 5)) 7 v4) 8 v5) 9 v6) 10 v7) 13 v8) 14 v9) 15 (t 5)) 16 v10) 17 v11) 18 v12) 19 (t 1)) 20 v13) 21 (t 5)) 4 (t 5), H, n + 15⟩)
       ((binK .plain .add (t 5) (.int .i64 1)).bind fun v14 =>
        some ⟨.normal, put (put (put (put (put (put (put (put (put (put (put (put (put (put (put (put t 6 (t 5)) 7 v4) 8 v5) 9 v6) 10 v7) 13 v8) 14 v9) 15 (t 5)) 16 v10) 17 v11) 18 v12) 19 (t 1)) 20 v13) 11 (t 5)) 12 v14) 5 v14, H, n + 16⟩))
    (some ⟨(.exit 0), put (put (put (put (put t 6 (t 5)) 7 v4) 8 v5) 9 v6) 10 v7, H, n + 5⟩)
noncomputable def S44 (C : Calling) (L : Body → Body) (t : Tm) (H : Hp) (n : Nat) : Option (Value × Hp × Nat) :=
  (vcells (t 0)).bind fun c2 =>
  let H1 := H.set (n) (some (.row c2 0 true))
  (L (S44L0 C L) (put (put (put t 2 (ptr (n) 0)) 4 (.int .i64 0)) 5 (.int .i64 0)) H1 (n + 3)).bind fun (o3 : Out) =>
  let o15 := outOf 0 o3
  thenK o15
    (some (.int .i64 (-1), o15.H, o15.n + 1))
    (finE o15.e
       (some (o15.t 4, o15.H, o15.n)))
theorem s44 (C : Calling) (L : Body → Body) (t : Tm) (H : Hp) (n : Nat) : bodyK Try.prog C L Try.f44 t H n = S44 C L t H n := by kernel_rfl
theorem c44 (args : List Value) (H : Hp) (n : Nat) : Call Try.prog 44 args H n = S44 (Call Try.prog) Loop (argsT args) H n := (Call_body Try.func44 args H n).trans (s44 ..)
/-! 45: spec.l1In -/
noncomputable def S45 (C : Calling) (L : Body → Body) (t : Tm) (H : Hp) (n : Nat) : Option (Value × Hp × Nat) :=
  (binK .plain .geq (t 0) (t 1)).bind fun v1 =>
  let t3 : Tm := put (put (put (put (put t 6 (.bool false)) 7 (t 0)) 8 (t 1)) 9 v1) 10 v1
  (gsel v1 true
    ((binK .plain .leq (t3 0) (t3 2)).bind fun v4 =>
     some (put (put (put t3 11 (t3 0)) 12 (t3 2)) 13 v4, H, n + 10))
    (some (put (put (put t3 11 (.tuple #[])) 12 (.tuple #[])) 13 (.tuple #[]), H, n + 10))
  ).bind fun (q2 : R3) =>
  (pickV (q2.1 10) (q2.1 13) (.bool false)).bind fun v5 =>
  some (v5, q2.2.1, q2.2.2)
theorem s45 (C : Calling) (L : Body → Body) (t : Tm) (H : Hp) (n : Nat) : bodyK Try.prog C L Try.f45 t H n = S45 C L t H n := by kernel_rfl
theorem c45 (args : List Value) (H : Hp) (n : Nat) : Call Try.prog 45 args H n = S45 (Call Try.prog) Loop (argsT args) H n := (Call_body Try.func45 args H n).trans (s45 ..)
/-! 46: laws.toInstrS -/
noncomputable def S46L0 (C : Calling) (L : Body → Body) : Body := fun t H n =>
  (lenV false (t 0)).bind fun v4 =>
  (binK .plain .lss (t 4) v4).bind fun v5 =>
  csel v5
    ((idxA 4 (t 0) (t 4)).bind fun v6 =>
     (ld true 4 v6 H).bind fun v7 =>
     (C 90 [v7] H (n + 13)).bind fun q8 =>
     (idxA 4 (t 3) (t 4)).bind fun v9 =>
     (st true 4 v9 q8.1 q8.2.1).bind fun H10 =>
     (binK .plain .add (t 4) (.int .i64 1)).bind fun v11 =>
     some ⟨.normal, put (put (put (put (put (put (put (put (put (put (put (put (put (put (put t 8 (t 4)) 9 (t 0)) 10 v4) 11 v5) 14 (t 3)) 15 (t 4)) 16 (t 0)) 17 (t 4)) 18 v6) 19 v7) 20 q8.1) 21 v9) 12 (t 4)) 13 v11) 4 v11, H10, q8.2.2 + 3⟩)
    (some ⟨(.exit 0), put (put (put (put t 8 (t 4)) 9 (t 0)) 10 v4) 11 v5, H, n + 4⟩)
noncomputable def S46 (C : Calling) (L : Body → Body) (t : Tm) (H : Hp) (n : Nat) : Option (Value × Hp × Nat) :=
  (lenV false (t 0)).bind fun v1 =>
  (mks (n + 3) 4 40 [.int .i64 0, .int .i64 0, .int .i64 0, .string ⟨#[]⟩] v1 v1 H).bind fun p2 =>
  (L (S46L0 C L) (put (put (put (put (put (put t 2 nilS) 5 (t 0)) 6 v1) 7 p2.1) 3 p2.1) 4 (.int .i64 0)) p2.2 (n + 6)).bind fun (o3 : Out) =>
  some (o3.t 3, o3.H, o3.n + 2)
theorem s46 (C : Calling) (L : Body → Body) (t : Tm) (H : Hp) (n : Nat) : bodyK Try.prog C L Try.f46 t H n = S46 C L t H n := by kernel_rfl
theorem c46 (args : List Value) (H : Hp) (n : Nat) : Call Try.prog 46 args H n = S46 (Call Try.prog) Loop (argsT args) H n := (Call_body Try.func46 args H n).trans (s46 ..)
/-! 47: laws.toDefS -/
noncomputable def S47L0 (C : Calling) (L : Body → Body) : Body := fun t H n =>
  (lenV false (t 0)).bind fun v4 =>
  (binK .plain .lss (t 4) v4).bind fun v5 =>
  csel v5
    ((idxA 3 (t 0) (t 4)).bind fun v6 =>
     (ld true 3 v6 H).bind fun v7 =>
     (C 91 [v7] H (n + 13)).bind fun q8 =>
     (idxA 3 (t 3) (t 4)).bind fun v9 =>
     (st true 3 v9 q8.1 q8.2.1).bind fun H10 =>
     (binK .plain .add (t 4) (.int .i64 1)).bind fun v11 =>
     some ⟨.normal, put (put (put (put (put (put (put (put (put (put (put (put (put (put (put t 8 (t 4)) 9 (t 0)) 10 v4) 11 v5) 14 (t 3)) 15 (t 4)) 16 (t 0)) 17 (t 4)) 18 v6) 19 v7) 20 q8.1) 21 v9) 12 (t 4)) 13 v11) 4 v11, H10, q8.2.2 + 3⟩)
    (some ⟨(.exit 0), put (put (put (put t 8 (t 4)) 9 (t 0)) 10 v4) 11 v5, H, n + 4⟩)
noncomputable def S47 (C : Calling) (L : Body → Body) (t : Tm) (H : Hp) (n : Nat) : Option (Value × Hp × Nat) :=
  (lenV false (t 0)).bind fun v1 =>
  (mks (n + 3) 3 32 [.string ⟨#[]⟩, .int .i64 0, .int .i64 0] v1 v1 H).bind fun p2 =>
  (L (S47L0 C L) (put (put (put (put (put (put t 2 nilS) 5 (t 0)) 6 v1) 7 p2.1) 3 p2.1) 4 (.int .i64 0)) p2.2 (n + 6)).bind fun (o3 : Out) =>
  some (o3.t 3, o3.H, o3.n + 2)
theorem s47 (C : Calling) (L : Body → Body) (t : Tm) (H : Hp) (n : Nat) : bodyK Try.prog C L Try.f47 t H n = S47 C L t H n := by kernel_rfl
theorem c47 (args : List Value) (H : Hp) (n : Nat) : Call Try.prog 47 args H n = S47 (Call Try.prog) Loop (argsT args) H n := (Call_body Try.func47 args H n).trans (s47 ..)
/-! 48: impl.instrOk -/
noncomputable def S48 (C : Calling) (L : Body → Body) (t : Tm) (H : Hp) (n : Nat) : Option (Value × Hp × Nat) :=
  (vcells (t 0)).bind fun c2 =>
  let H1 := H.set (n) (some (.row c2 0 true))
  (fieldA 1 (ptr (n) 0)).bind fun v3 =>
  (ld false 1 v3 H1).bind fun v4 =>
  (idxA 4 v4 (t 1)).bind fun v5 =>
  (ld true 4 v5 H1).bind fun v6 =>
  let H7 := H1.set (n + 7) (some (.row [.int .i64 0, .int .i64 0, .int .i64 0, .string ⟨#[]⟩] 0 true))
  (st true 4 (ptr (n + 7) 0) v6 H7).bind fun H8 =>
  (fieldA 1 (ptr (n + 7) 0)).bind fun v9 =>
  (ld false 1 v9 H8).bind fun v10 =>
  (binK .plain .eql v10 (.int .i64 0)).bind fun v11 =>
  (fieldA 2 (ptr (n + 7) 0)).bind fun v12 =>
  (ld false 1 v12 H8).bind fun v13 =>
  (binK .plain .eql v13 (.int .i64 0)).bind fun v14 =>
  (fieldA 3 (ptr (n + 7) 0)).bind fun v15 =>
  (ld false 1 v15 H8).bind fun v16 =>
  (binK .plain .eql v16 (.string ⟨#[]⟩)).bind fun v17 =>
  (fieldA 0 (ptr (n + 7) 0)).bind fun v18 =>
  (ld false 1 v18 H8).bind fun v19 =>
  (binK .plain .eql v19 (.int .i64 1)).bind fun v20 =>
  let t22 : Tm := put (put (put (put (put (put (put (put (put (put (put (put (put (put (put (put (put (put (put (put (put (put (put (put t 2 (ptr (n) 0)) 4 (.bool false)) 9 v3) 10 v4) 11 (t 1)) 12 v5) 13 v6) 5 (ptr (n + 7) 0)) 14 v9) 15 v10) 16 v11) 17 v12) 18 v13) 19 v14) 20 v15) 21 v16) 22 v17) 6 v11) 7 v14) 8 v17) 23 v18) 24 v19) 26 v20) 25 v20
  (csel v20
    ((fieldA 0 (ptr (n) 0)).bind fun v23 =>
     (ld true 1 v23 H8).bind fun v24 =>
     (fieldA 1 (ptr (n + 7) 0)).bind fun v25 =>
     (ld false 1 v25 H8).bind fun v26 =>
     (C 65 [v24, v26] H8 (n + 31)).bind fun q27 =>
     some ⟨.normal, put (put (put (put (put (put t22 27 v23) 28 v24) 29 v25) 30 v26) 31 q27.1) 6 q27.1, q27.2.1, q27.2.2⟩)
    ((binK .plain .eql v19 (.int .i64 2)).bind fun v28 =>
     let t30 : Tm := put (put t22 33 v28) 32 v28
     (csel v28
       ((fieldA 1 (ptr (n + 7) 0)).bind fun v31 =>
        (ld false 1 v31 H8).bind fun v32 =>
        (C 51 [v32, .int .i64 0, .int .i64 20] H8 (n + 35)).bind fun q33 =>
        (fieldA 2 (ptr (n + 7) 0)).bind fun v34 =>
        (ld false 1 v34 q33.2.1).bind fun v35 =>
        ask (ld false 1 v34 H8 = some v35) <|
        (C 51 [v35, .int .i64 0, .int .i64 3] q33.2.1 (q33.2.2)).bind fun q36 =>
        some ⟨.normal, put (put (put (put (put (put (put (put t30 34 v31) 35 v32) 36 q33.1) 37 v34) 38 v35) 39 q36.1) 6 q33.1) 7 q36.1, q36.2.1, q36.2.2⟩)
       ((binK .plain .eql v19 (.int .i64 3)).bind fun v37 =>
        let t39 : Tm := put (put t30 41 v37) 40 v37
        (csel v37
          ((fieldA 3 (ptr (n + 7) 0)).bind fun v40 =>
           (ld false 1 v40 H8).bind fun v41 =>
           (C 49 [v41] H8 (n + 33)).bind fun q42 =>
           some ⟨.normal, put (put (put (put t39 42 v40) 43 v41) 44 q42.1) 8 q42.1, q42.2.1, q42.2.2⟩)
          ((binK .plain .eql v19 (.int .i64 4)).bind fun v43 =>
           let t45 : Tm := put (put t39 46 v43) 45 v43
           (csel v43
             (some ⟨.normal, t45, H8, n + 31⟩)
             ((binK .plain .eql v19 (.int .i64 5)).bind fun v46 =>
              some ⟨.normal, put (put t45 47 v46) 45 v46, H8, n + 33⟩)
           ).bind fun (o44 : Out) =>
           (csel (o44.t 45)
             ((fieldA 1 (o44.t 5)).bind fun v49 =>
              (ld false 1 v49 o44.H).bind fun v50 =>
              (binK .plain .add (o44.t 1) (.int .i64 1)).bind fun v51 =>
              (fieldA 1 (o44.t 2)).bind fun v52 =>
              (ld false 1 v52 o44.H).bind fun v53 =>
              (lenV false v53).bind fun v54 =>
              (C 51 [v50, v51, v54] o44.H (o44.n + 9)).bind fun q55 =>
              some ⟨.normal, put (put (put (put (put (put (put (put (put o44.t 48 v49) 49 v50) 50 (o44.t 1)) 51 v51) 52 v52) 53 v53) 54 v54) 55 q55.1) 6 q55.1, q55.2.1, q55.2.2⟩)
             ((binK .plain .eql (o44.t 24) (.int .i64 6)).bind fun v56 =>
              let t58 : Tm := put (put o44.t 57 v56) 56 v56
              (csel v56
                ((fieldA 1 (t58 5)).bind fun v59 =>
                 (ld false 1 v59 o44.H).bind fun v60 =>
                 (binK .plain .add (t58 1) (.int .i64 1)).bind fun v61 =>
                 (fieldA 1 (t58 2)).bind fun v62 =>
                 (ld false 1 v62 o44.H).bind fun v63 =>
                 (lenV false v63).bind fun v64 =>
                 (binK .plain .sub v64 (.int .i64 1)).bind fun v65 =>
                 (C 51 [v60, v61, v65] o44.H (o44.n + 16)).bind fun q66 =>
                 (fieldA 2 (t58 5)).bind fun v67 =>
                 (ld false 1 v67 q66.2.1).bind fun v68 =>
                 ask (ld false 1 v67 o44.H = some v68) <|
                 (C 51 [v68, .int .i64 0, .int .i64 4] q66.2.1 (q66.2.2)).bind fun q69 =>
                 some ⟨.normal, put (put (put (put (put (put (put (put (put (put (put (put (put (put t58 58 v59) 59 v60) 60 (t58 1)) 61 v61) 62 v62) 63 v63) 64 v64) 65 v65) 66 q66.1) 67 v67) 68 v68) 69 q69.1) 6 q66.1) 7 q69.1, q69.2.1, q69.2.2⟩)
                ((binK .plain .eql (t58 24) (.int .i64 7)).bind fun v70 =>
                 let t72 : Tm := put (put t58 71 v70) 70 v70
                 (csel v70
                   ((fieldA 2 (t72 5)).bind fun v73 =>
                    (ld false 1 v73 o44.H).bind fun v74 =>
                    (C 51 [v74, .int .i64 0, .int .i64 4] o44.H (o44.n + 8)).bind fun q75 =>
                    some ⟨.normal, put (put (put (put t72 72 v73) 73 v74) 74 q75.1) 7 q75.1, q75.2.1, q75.2.2⟩)
                   ((binK .plain .eql (t72 24) (.int .i64 8)).bind fun v76 =>
                    let t78 : Tm := put (put t72 76 v76) 75 v76
                    (csel v76
                      (some ⟨.normal, t78, o44.H, o44.n + 6⟩)
                      ((binK .plain .eql (t78 24) (.int .i64 9)).bind fun v79 =>
                       some ⟨.normal, put (put t78 77 v79) 75 v79, o44.H, o44.n + 8⟩)
                    ).bind fun (o77 : Out) =>
                    csel (o77.t 75)
                      (some ⟨.normal, o77.t, o77.H, o77.n⟩)
                      (some ⟨.ret, put o77.t 4 (.bool false), o77.H, o77.n + 1⟩))
                 ).bind fun (o71 : Out) =>
                 some o71)
              ).bind fun (o57 : Out) =>
              some o57)
           ).bind fun (o47 : Out) =>
           some o47)
        ).bind fun (o38 : Out) =>
        some o38)
     ).bind fun (o29 : Out) =>
     some o29)
  ).bind fun (o21 : Out) =>
  let o80 := outOf 0 o21
  thenK o80
    ((pickV (o80.t 6) (gsel (o80.t 6) true (o80.t 7) (.tuple #[])) (.bool false)).bind fun v81 =>
     (pickV v81 (gsel v81 true (o80.t 8) (.tuple #[])) (.bool false)).bind fun v82 =>
     some (v82, o80.H, o80.n + 8))
    (finE o80.e
       (some (o80.t 4, o80.H, o80.n)))
theorem s48 (C : Calling) (L : Body → Body) (t : Tm) (H : Hp) (n : Nat) : bodyK Try.prog C L Try.f48 t H n = S48 C L t H n := by kernel_rfl
theorem c48 (args : List Value) (H : Hp) (n : Nat) : Call Try.prog 48 args H n = S48 (Call Try.prog) Loop (argsT args) H n := (Call_body Try.func48 args H n).trans (s48 ..)
/-! 49: impl.NameOk -/
noncomputable def S49L0 (C : Calling) (L : Body → Body) : Body := fun t H n =>
  (binK .plain .lss (t 10) (t 9)).bind fun v6 =>
  csel v6
    ((idxS (t 0) (t 10)).bind fun v7 =>
     (C 92 [v7] H (n + 8)).bind fun q8 =>
     (un .not q8.1).bind fun v9 =>
     csel v9
       (some ⟨.ret, put (put (put (put (put (put (put (put (put t 11 v6) 12 (t 10)) 3 (t 10)) 13 (t 0)) 14 (t 10)) 15 v7) 16 q8.1) 17 v9) 2 (.bool false), q8.2.1, q8.2.2 + 1⟩)
       ((binK .plain .add (t 10) (.int .i64 1)).bind fun v10 =>
        some ⟨.normal, put (put (put (put (put (put (put (put (put (put t 11 v6) 12 (t 10)) 3 (t 10)) 13 (t 0)) 14 (t 10)) 15 v7) 16 q8.1) 17 v9) 18 v10) 10 v10, q8.2.1, q8.2.2 + 2⟩))
    (some ⟨(.exit 0), put t 11 v6, H, n + 1⟩)
noncomputable def S49 (C : Calling) (L : Body → Body) (t : Tm) (H : Hp) (n : Nat) : Option (Value × Hp × Nat) :=
  (lenV true (t 0)).bind fun v1 =>
  (C 51 [v1, .int .i64 1, .int .i64 12] H (n + 5)).bind fun q2 =>
  (un .not q2.1).bind fun v3 =>
  csel v3
    (some (.bool false, q2.2.1, q2.2.2 + 1))
    ((lenV true (t 0)).bind fun v4 =>
     (L (S49L0 C L) (put (put (put (put (put (put (put (put t 2 (.bool false)) 4 (t 0)) 5 v1) 6 q2.1) 7 v3) 8 (t 0)) 9 v4) 10 (.int .i64 0)) q2.2.1 (q2.2.2 + 3)).bind fun (o5 : Out) =>
     let o11 := outOf 0 o5
     thenK o11
       (some (.bool true, o11.H, o11.n + 1))
       (finE o11.e
          (some (o11.t 2, o11.H, o11.n))))
theorem s49 (C : Calling) (L : Body → Body) (t : Tm) (H : Hp) (n : Nat) : bodyK Try.prog C L Try.f49 t H n = S49 C L t H n := by kernel_rfl
theorem c49 (args : List Value) (H : Hp) (n : Nat) : Call Try.prog 49 args H n = S49 (Call Try.prog) Loop (argsT args) H n := (Call_body Try.func49 args H n).trans (s49 ..)
/-! 50: impl.DefOf -/
noncomputable def S50 (C : Calling) (L : Body → Body) (t : Tm) (H : Hp) (n : Nat) : Option (Value × Hp × Nat) :=
  (vcells (t 0)).bind fun c2 =>
  let H1 := H.set (n) (some (.row c2 0 true))
  (vcells (t 1)).bind fun c4 =>
  let H3 := H1.set (n + 1) (some (.row c4 0 true))
  (fieldA 2 (ptr (n) 0)).bind fun v5 =>
  (ld false 1 v5 H3).bind fun v6 =>
  iteK ([ptr (n + 1) 0].all ptrV) <|
  (C 93 [v6, .func (.func 94) #[] ⟨[ptr (n + 1) 0]⟩] H3 (n + 8)).bind fun q7 =>
  some (q7.1, q7.2.1, q7.2.2)
theorem s50 (C : Calling) (L : Body → Body) (t : Tm) (H : Hp) (n : Nat) : bodyK Try.prog C L Try.f50 t H n = S50 C L t H n := by kernel_rfl
theorem c50 (args : List Value) (H : Hp) (n : Nat) : Call Try.prog 50 args H n = S50 (Call Try.prog) Loop (argsT args) H n := (Call_body Try.func50 args H n).trans (s50 ..)
/-! 51: impl.within -/
noncomputable def S51 (C : Calling) (L : Body → Body) (t : Tm) (H : Hp) (n : Nat) : Option (Value × Hp × Nat) :=
  (binK .plain .geq (t 0) (t 1)).bind fun v1 =>
  let t3 : Tm := put (put (put (put (put t 6 (.bool false)) 7 (t 0)) 8 (t 1)) 9 v1) 10 v1
  (gsel v1 true
    ((binK .plain .leq (t3 0) (t3 2)).bind fun v4 =>
     some (put (put (put t3 11 (t3 0)) 12 (t3 2)) 13 v4, H, n + 10))
    (some (put (put (put t3 11 (.tuple #[])) 12 (.tuple #[])) 13 (.tuple #[]), H, n + 10))
  ).bind fun (q2 : R3) =>
  (pickV (q2.1 10) (q2.1 13) (.bool false)).bind fun v5 =>
  some (v5, q2.2.1, q2.2.2)
theorem s51 (C : Calling) (L : Body → Body) (t : Tm) (H : Hp) (n : Nat) : bodyK Try.prog C L Try.f51 t H n = S51 C L t H n := by kernel_rfl
theorem c51 (args : List Value) (H : Hp) (n : Nat) : Call Try.prog 51 args H n = S51 (Call Try.prog) Loop (argsT args) H n := (Call_body Try.func51 args H n).trans (s51 ..)
/-! 52: laws.eqInstrS -/
noncomputable def S52L0 (C : Calling) (L : Body → Body) : Body := fun t H n =>
  (lenV false (t 0)).bind fun v5 =>
  (binK .plain .lss (t 5) v5).bind fun v6 =>
  csel v6
    ((idxA 4 (t 0) (t 5)).bind fun v7 =>
     (ld true 4 v7 H).bind fun v8 =>
     (idxA 4 (t 1) (t 5)).bind fun v9 =>
     (ld true 4 v9 H).bind fun v10 =>
     (C 95 [v8, v10] H (n + 14)).bind fun q11 =>
     (un .not q11.1).bind fun v12 =>
     csel v12
       (some ⟨.ret, put (put (put (put (put (put (put (put (put (put (put (put (put (put (put t 11 (t 5)) 12 (t 0)) 13 v5) 14 v6) 17 (t 0)) 18 (t 5)) 19 v7) 20 v8) 21 (t 1)) 22 (t 5)) 23 v9) 24 v10) 25 q11.1) 26 v12) 4 (.bool false), q11.2.1, q11.2.2 + 1⟩)
       ((binK .plain .add (t 5) (.int .i64 1)).bind fun v13 =>
        some ⟨.normal, put (put (put (put (put (put (put (put (put (put (put (put (put (put (put (put (put t 11 (t 5)) 12 (t 0)) 13 v5) 14 v6) 17 (t 0)) 18 (t 5)) 19 v7) 20 v8) 21 (t 1)) 22 (t 5)) 23 v9) 24 v10) 25 q11.1) 26 v12) 15 (t 5)) 16 v13) 5 v13, q11.2.1, q11.2.2 + 3⟩))
    (some ⟨(.exit 0), put (put (put (put t 11 (t 5)) 12 (t 0)) 13 v5) 14 v6, H, n + 4⟩)
noncomputable def S52 (C : Calling) (L : Body → Body) (t : Tm) (H : Hp) (n : Nat) : Option (Value × Hp × Nat) :=
  (lenV false (t 0)).bind fun v1 =>
  (lenV false (t 1)).bind fun v2 =>
  (binK .plain .neq v1 v2).bind fun v3 =>
  csel v3
    (some (.bool false, H, n + 7))
    ((L (S52L0 C L) (put (put (put (put (put (put (put t 4 (.bool false)) 6 (t 0)) 7 v1) 8 (t 1)) 9 v2) 10 v3) 5 (.int .i64 0)) H (n + 7)).bind fun (o4 : Out) =>
     let o14 := outOf 0 o4
     thenK o14
       (some (.bool true, o14.H, o14.n + 1))
       (finE o14.e
          (some (o14.t 4, o14.H, o14.n))))
theorem s52 (C : Calling) (L : Body → Body) (t : Tm) (H : Hp) (n : Nat) : bodyK Try.prog C L Try.f52 t H n = S52 C L t H n := by kernel_rfl
theorem c52 (args : List Value) (H : Hp) (n : Nat) : Call Try.prog 52 args H n = S52 (Call Try.prog) Loop (argsT args) H n := (Call_body Try.func52 args H n).trans (s52 ..)
/-! 53: laws.eqDefS -/
noncomputable def S53L0 (C : Calling) (L : Body → Body) : Body := fun t H n =>
  (lenV false (t 0)).bind fun v5 =>
  (binK .plain .lss (t 5) v5).bind fun v6 =>
  csel v6
    ((idxA 3 (t 0) (t 5)).bind fun v7 =>
     (ld true 3 v7 H).bind fun v8 =>
     (idxA 3 (t 1) (t 5)).bind fun v9 =>
     (ld true 3 v9 H).bind fun v10 =>
     (C 96 [v8, v10] H (n + 14)).bind fun q11 =>
     (un .not q11.1).bind fun v12 =>
     csel v12
       (some ⟨.ret, put (put (put (put (put (put (put (put (put (put (put (put (put (put (put t 11 (t 5)) 12 (t 0)) 13 v5) 14 v6) 17 (t 0)) 18 (t 5)) 19 v7) 20 v8) 21 (t 1)) 22 (t 5)) 23 v9) 24 v10) 25 q11.1) 26 v12) 4 (.bool false), q11.2.1, q11.2.2 + 1⟩)
       ((binK .plain .add (t 5) (.int .i64 1)).bind fun v13 =>
        some ⟨.normal, put (put (put (put (put (put (put (put (put (put (put (put (put (put (put (put (put t 11 (t 5)) 12 (t 0)) 13 v5) 14 v6) 17 (t 0)) 18 (t 5)) 19 v7) 20 v8) 21 (t 1)) 22 (t 5)) 23 v9) 24 v10) 25 q11.1) 26 v12) 15 (t 5)) 16 v13) 5 v13, q11.2.1, q11.2.2 + 3⟩))
    (some ⟨(.exit 0), put (put (put (put t 11 (t 5)) 12 (t 0)) 13 v5) 14 v6, H, n + 4⟩)
noncomputable def S53 (C : Calling) (L : Body → Body) (t : Tm) (H : Hp) (n : Nat) : Option (Value × Hp × Nat) :=
  (lenV false (t 0)).bind fun v1 =>
  (lenV false (t 1)).bind fun v2 =>
  (binK .plain .neq v1 v2).bind fun v3 =>
  csel v3
    (some (.bool false, H, n + 7))
    ((L (S53L0 C L) (put (put (put (put (put (put (put t 4 (.bool false)) 6 (t 0)) 7 v1) 8 (t 1)) 9 v2) 10 v3) 5 (.int .i64 0)) H (n + 7)).bind fun (o4 : Out) =>
     let o14 := outOf 0 o4
     thenK o14
       (some (.bool true, o14.H, o14.n + 1))
       (finE o14.e
          (some (o14.t 4, o14.H, o14.n))))
theorem s53 (C : Calling) (L : Body → Body) (t : Tm) (H : Hp) (n : Nat) : bodyK Try.prog C L Try.f53 t H n = S53 C L t H n := by kernel_rfl
theorem c53 (args : List Value) (H : Hp) (n : Nat) : Call Try.prog 53 args H n = S53 (Call Try.prog) Loop (argsT args) H n := (Call_body Try.func53 args H n).trans (s53 ..)
/-! 54: spec.l1New -/
noncomputable def S54L0 (C : Calling) (L : Body → Body) : Body := fun t H n =>
  (lenV false (t 0)).bind fun v4 =>
  (binK .plain .lss (t 4) v4).bind fun v5 =>
  let t7 : Tm := put (put (put (put (put t 8 (t 4)) 9 (t 0)) 10 v4) 11 v5) 12 v5
  (gsel v5 true
    ((binK .plain .lss (t7 4) (.int .i64 4000)).bind fun v8 =>
     some (put (put t7 13 (t7 4)) 14 v8, H, n + 8))
    (some (put (put t7 13 (.tuple #[])) 14 (.tuple #[]), H, n + 8))
  ).bind fun (q6 : R3) =>
  (pickV (q6.1 12) (q6.1 14) (.bool false)).bind fun v9 =>
  csel v9
    ((binK .plain .mul (q6.1 3) (.int .i64 131)).bind fun v10 =>
     (idxA 1 (q6.1 0) (q6.1 4)).bind fun v11 =>
     (ld false 1 v11 q6.2.1).bind fun v12 =>
     (conv (.toInt .i64) (q6.2.2 + 6) v12 q6.2.1).bind fun p13 =>
     (binK .plain .add v10 p13.1).bind fun v14 =>
     (binK .plain .add v14 (.int .i64 7)).bind fun v15 =>
     (binK .plain .and v15 (.int .i64 1073741823)).bind fun v16 =>
     (binK .plain .add (q6.1 4) (.int .i64 1)).bind fun v17 =>
     some ⟨.normal, put (put (put (put (put (put (put (put (put (put (put (put (put (put (put q6.1 15 v9) 18 (q6.1 3)) 19 v10) 20 (q6.1 0)) 21 (q6.1 4)) 22 v11) 23 v12) 24 p13.1) 25 v14) 26 v15) 27 v16) 3 v16) 16 (q6.1 4)) 17 v17) 4 v17, p13.2, q6.2.2 + 14⟩)
    (some ⟨(.exit 0), put q6.1 15 v9, q6.2.1, q6.2.2⟩)
noncomputable def S54 (C : Calling) (L : Body → Body) (t : Tm) (H : Hp) (n : Nat) : Option (Value × Hp × Nat) :=
  (lenV false (t 0)).bind fun v1 =>
  (binK .plain .add (.int .i64 17000) v1).bind fun v2 =>
  (L (S54L0 C L) (put (put (put (put (put (put t 2 (.pointer none)) 5 (t 0)) 6 v1) 7 v2) 3 v2) 4 (.int .i64 0)) H (n + 6)).bind fun (o3 : Out) =>
  (bld [nilS, .int .i64 0, .int .i64 0] [(0, 1, o3.t 0), (2, 1, o3.t 3)]).bind fun v18 =>
  (vcells v18).bind fun c20 =>
  let H19 := o3.H.set (o3.n + 3) (some (.row c20 0 true))
  some (ptr (o3.n + 3) 0, H19, o3.n + 5)
theorem s54 (C : Calling) (L : Body → Body) (t : Tm) (H : Hp) (n : Nat) : bodyK Try.prog C L Try.f54 t H n = S54 C L t H n := by kernel_rfl
theorem c54 (args : List Value) (H : Hp) (n : Nat) : Call Try.prog 54 args H n = S54 (Call Try.prog) Loop (argsT args) H n := (Call_body Try.func54 args H n).trans (s54 ..)
/-! 55: spec.l2Draw -/
noncomputable def S55L0 (C : Calling) (L : Body → Body) : Body := fun t H n =>
  (fieldA 0 (t 3)).bind fun v37 =>
  (ld false 1 v37 H).bind fun v38 =>
  (lenV false v38).bind fun v39 =>
  (binK .plain .lss (t 5) v39).bind fun v40 =>
  csel v40
    ((fieldA 0 (t 3)).bind fun v41 =>
     (ld false 1 v41 H).bind fun v42 =>
     (idxA 5 v42 (t 5)).bind fun v43 =>
     (fieldA 0 v43).bind fun v44 =>
     (st false 1 v44 (.int .i64 1) H).bind fun H45 =>
     (binK .plain .add (t 5) (.int .i64 1)).bind fun v46 =>
     some ⟨.normal, put (put (put (put (put (put (put (put (put (put (put (put (put t 39 (t 5)) 40 v37) 41 v38) 42 v39) 43 v40) 46 v41) 47 v42) 48 (t 5)) 49 v43) 50 v44) 44 (t 5)) 45 v46) 5 v46, H45, n + 14⟩)
    (some ⟨(.exit 0), put (put (put (put (put t 39 (t 5)) 40 v37) 41 v38) 42 v39) 43 v40, H, n + 5⟩)
noncomputable def S55 (C : Calling) (L : Body → Body) (t : Tm) (H : Hp) (n : Nat) : Option (Value × Hp × Nat) :=
  let H1 := H.set (n) (some (.row [nilS] 0 true))
  (C 97 [t 0] H1 (n + 5)).bind fun q2 =>
  let H3 := q2.2.1.set (n + 3) (some (.row [nilS] 0 true))
  (st true 1 (ptr (n + 3) 0) q2.1 H3).bind fun H4 =>
  (fieldA 0 (ptr (n + 3) 0)).bind fun v5 =>
  (ld false 1 v5 H4).bind fun v6 =>
  (lenV false v6).bind fun v7 =>
  (binK .plain .gtr v7 (.int .i64 0)).bind fun v8 =>
  let t10 : Tm := put (put (put (put (put (put (put (put (put t 2 (ptr (n) 0)) 6 (t 0)) 7 q2.1) 3 (ptr (n + 3) 0)) 8 v5) 9 v6) 10 v7) 11 v8) 12 v8
  (gsel v8 true
    ((C 57 [t10 0, .int .i64 12] H4 (q2.2.2 + 8)).bind fun q11 =>
     some (put (put t10 13 (t10 0)) 14 q11.1, q11.2.1, q11.2.2))
    (some (put (put t10 13 (.tuple #[])) 14 (.tuple #[]), H4, q2.2.2 + 8))
  ).bind fun (q9 : R3) =>
  (pickV (q9.1 12) (q9.1 14) (.bool false)).bind fun v12 =>
  let t14 : Tm := put q9.1 15 v12
  (csel v12
    ((fieldA 0 (t14 3)).bind fun v15 =>
     (ld false 1 v15 q9.2.1).bind fun v16 =>
     (lenV false v16).bind fun v17 =>
     (C 56 [t14 0, v17] q9.2.1 (q9.2.2 + 6)).bind fun q18 =>
     (fieldA 0 (t14 3)).bind fun v19 =>
     (ld false 1 v19 q18.2.1).bind fun v20 =>
     (fieldA 0 (t14 3)).bind fun v21 =>
     (ld false 1 v21 q18.2.1).bind fun v22 =>
     (idxA 5 v22 q18.1).bind fun v23 =>
     (ld true 5 v23 q18.2.1).bind fun v24 =>
     (C 98 [t14 0, v24] q18.2.1 (q18.2.2 + 12)).bind fun q25 =>
     ask (ld false 1 v19 q25.2.1 = some v20) <|
     (idxA 5 v20 q18.1).bind fun v26 =>
     (st true 5 v26 q25.1 q25.2.1).bind fun H27 =>
     some ⟨.normal, put (put (put (put (put (put (put (put (put (put (put (put (put (put (put (put (put t14 16 (t14 0)) 17 v15) 18 v16) 19 v17) 20 q18.1) 4 q18.1) 21 v19) 22 v20) 23 q18.1) 24 (t14 0)) 25 v21) 26 v22) 27 q18.1) 28 v23) 29 v24) 30 q25.1) 31 v26, H27, q25.2.2⟩)
    (some ⟨.normal, t14, q9.2.1, q9.2.2⟩)
  ).bind fun (o13 : Out) =>
  (C 57 [o13.t 0, .int .i64 60] o13.H (o13.n + 2)).bind fun q28 =>
  let t30 : Tm := put (put o13.t 32 (o13.t 0)) 33 q28.1
  (csel q28.1
    ((C 56 [t30 0, .int .i64 2] q28.2.1 (q28.2.2 + 6)).bind fun q31 =>
     (binK .plain .add (.int .i64 3000) q31.1).bind fun v32 =>
     (mks (q28.2.2 + 3) 5 48 [.int .i64 0, .int .i64 0, .string ⟨#[]⟩, .int .i64 0, .int .i64 0] v32 v32 q31.2.1).bind fun p33 =>
     (fieldA 0 (t30 3)).bind fun v34 =>
     (st false 1 v34 p33.1 p33.2).bind fun H35 =>
     (L (S55L0 C L) (put (put (put (put (put (put t30 34 (t30 0)) 35 q31.1) 36 v32) 37 p33.1) 38 v34) 5 (.int .i64 0)) H35 (q31.2.2 + 1)).bind fun (o36 : Out) =>
     some ⟨.normal, o36.t, o36.H, o36.n⟩)
    (some ⟨.normal, t30, q28.2.1, q28.2.2⟩)
  ).bind fun (o29 : Out) =>
  (ld true 1 (o29.t 3) o29.H).bind fun v47 =>
  (st true 1 (o29.t 2) v47 o29.H).bind fun H48 =>
  (ld true 1 (o29.t 2) H48).bind fun v49 =>
  some (v49, H48, o29.n + 2)
theorem s55 (C : Calling) (L : Body → Body) (t : Tm) (H : Hp) (n : Nat) : bodyK Try.prog C L Try.f55 t H n = S55 C L t H n := by kernel_rfl
theorem c55 (args : List Value) (H : Hp) (n : Nat) : Call Try.prog 55 args H n = S55 (Call Try.prog) Loop (argsT args) H n := (Call_body Try.func55 args H n).trans (s55 ..)
/-! 56: spec.l1Below -/
noncomputable def S56 (C : Calling) (L : Body → Body) (t : Tm) (H : Hp) (n : Nat) : Option (Value × Hp × Nat) :=
  (binK .plain .leq (t 1) (.int .i64 0)).bind fun v1 =>
  csel v1
    (some (.int .i64 0, H, n + 4))
    ((binK .plain .leq (t 1) (.int .i64 256)).bind fun v2 =>
     csel v2
       ((C 99 [t 0] H (n + 10)).bind fun q3 =>
        (binK .plain .rem q3.1 (t 1)).bind fun v4 =>
        some (v4, q3.2.1, q3.2.2))
       ((C 99 [t 0] H (n + 8)).bind fun q5 =>
        (C 99 [t 0] q5.2.1 (q5.2.2 + 3)).bind fun q6 =>
        (C 99 [t 0] q6.2.1 (q6.2.2 + 3)).bind fun q7 =>
        (C 99 [t 0] q7.2.1 (q7.2.2 + 3)).bind fun q8 =>
        (binK .plain .mul q5.1 (.int .i64 16777216)).bind fun v9 =>
        (binK .plain .mul q6.1 (.int .i64 65536)).bind fun v10 =>
        (binK .plain .add v9 v10).bind fun v11 =>
        (binK .plain .mul q7.1 (.int .i64 256)).bind fun v12 =>
        (binK .plain .add v11 v12).bind fun v13 =>
        (binK .plain .add v13 q8.1).bind fun v14 =>
        (binK .plain .rem v14 (t 1)).bind fun v15 =>
        some (v15, q8.2.1, q8.2.2 + 13)))
theorem s56 (C : Calling) (L : Body → Body) (t : Tm) (H : Hp) (n : Nat) : bodyK Try.prog C L Try.f56 t H n = S56 C L t H n := by kernel_rfl
theorem c56 (args : List Value) (H : Hp) (n : Nat) : Call Try.prog 56 args H n = S56 (Call Try.prog) Loop (argsT args) H n := (Call_body Try.func56 args H n).trans (s56 ..)
/-! 57: spec.l1Once -/
noncomputable def S57 (C : Calling) (L : Body → Body) (t : Tm) (H : Hp) (n : Nat) : Option (Value × Hp × Nat) :=
  (C 56 [t 0, t 1] H (n + 6)).bind fun q1 =>
  (binK .plain .eql q1.1 (.int .i64 0)).bind fun v2 =>
  some (v2, q1.2.1, q1.2.2)
theorem s57 (C : Calling) (L : Body → Body) (t : Tm) (H : Hp) (n : Nat) : bodyK Try.prog C L Try.f57 t H n = S57 C L t H n := by kernel_rfl
theorem c57 (args : List Value) (H : Hp) (n : Nat) : Call Try.prog 57 args H n = S57 (Call Try.prog) Loop (argsT args) H n := (Call_body Try.func57 args H n).trans (s57 ..)
/-! 58: spec.l2Add -/
noncomputable def S58 (C : Calling) (L : Body → Body) (t : Tm) (H : Hp) (n : Nat) : Option (Value × Hp × Nat) :=
  (vcells (t 1)).bind fun c2 =>
  let H1 := H.set (n) (some (.row c2 0 true))
  (nilchk (t 0)).bind fun v3 =>
  (fieldA 0 v3).bind fun v4 =>
  (ld false 1 v4 H1).bind fun v5 =>
  (ld true 5 (ptr (n) 0) H1).bind fun v6 =>
  (bsl (n + 8) 5 1 [.int .i64 0, .int .i64 0, .string ⟨#[]⟩, .int .i64 0, .int .i64 0] [(0, 5, v6)] H1).bind fun p7 =>
  (app (n + 9) 5 48 v5 p7.1 p7.2).bind fun p8 =>
  (nilchk (t 0)).bind fun v9 =>
  (fieldA 0 v9).bind fun v10 =>
  (st false 1 v10 p8.1 p8.2).bind fun H11 =>
  (nilchk (t 0)).bind fun v12 =>
  (fieldA 0 v12).bind fun v13 =>
  (ld false 1 v13 H11).bind fun v14 =>
  (lenV false v14).bind fun v15 =>
  (binK .plain .sub v15 (.int .i64 1)).bind fun v16 =>
  some (v16, H11, n + 20)
theorem s58 (C : Calling) (L : Body → Body) (t : Tm) (H : Hp) (n : Nat) : bodyK Try.prog C L Try.f58 t H n = S58 C L t H n := by kernel_rfl
theorem c58 (args : List Value) (H : Hp) (n : Nat) : Call Try.prog 58 args H n = S58 (Call Try.prog) Loop (argsT args) H n := (Call_body Try.func58 args H n).trans (s58 ..)
/-! 59: spec.l1PickInt -/
noncomputable def S59 (C : Calling) (L : Body → Body) (t : Tm) (H : Hp) (n : Nat) : Option (Value × Hp × Nat) :=
  (lenV false (t 1)).bind fun v1 =>
  (C 56 [t 0, v1] H (n + 9)).bind fun q2 =>
  (idxA 1 (t 1) q2.1).bind fun v3 =>
  (ld false 1 v3 q2.2.1).bind fun v4 =>
  some (v4, q2.2.1, q2.2.2)
theorem s59 (C : Calling) (L : Body → Body) (t : Tm) (H : Hp) (n : Nat) : bodyK Try.prog C L Try.f59 t H n = S59 C L t H n := by kernel_rfl
theorem c59 (args : List Value) (H : Hp) (n : Nat) : Call Try.prog 59 args H n = S59 (Call Try.prog) Loop (argsT args) H n := (Call_body Try.func59 args H n).trans (s59 ..)
/-! 60: spec.PrimArgs -/
noncomputable def S60 (C : Calling) (L : Body → Body) (t : Tm) (H : Hp) (n : Nat) : Option (Value × Hp × Nat) :=
  (C 45 [t 0, .int .i64 1, .int .i64 19] H (n + 4)).bind fun q1 =>
  (un .not q1.1).bind fun v2 =>
  csel v2
    (some (.int .i64 (-1), q1.2.1, q1.2.2 + 1))
    ((bsl (q1.2.2) 1 20 [.int .i64 0] [(0, 1, .int .i64 0), (1, 1, .int .i64 2), (2, 1, .int .i64 2), (3, 1, .int .i64 2), (4, 1, .int .i64 2), (5, 1, .int .i64 2), (6, 1, .int .i64 2), (7, 1, .int .i64 1), (8, 1, .int .i64 1), (9, 1, .int .i64 1), (10, 1, .int .i64 1), (11, 1, .int .i64 2), (12, 1, .int .i64 1), (13, 1, .int .i64 1), (14, 1, .int .i64 0), (15, 1, .int .i64 2), (16, 1, .int .i64 0), (17, 1, .int .i64 1), (18, 1, .int .i64 1), (19, 1, .int .i64 1)] q1.2.1).bind fun p3 =>
     (idxA 1 p3.1 (t 0)).bind fun v4 =>
     (ld false 1 v4 p3.2).bind fun v5 =>
     some (v5, p3.2, q1.2.2 + 5))
theorem s60 (C : Calling) (L : Body → Body) (t : Tm) (H : Hp) (n : Nat) : bodyK Try.prog C L Try.f60 t H n = S60 C L t H n := by kernel_rfl
theorem c60 (args : List Value) (H : Hp) (n : Nat) : Call Try.prog 60 args H n = S60 (Call Try.prog) Loop (argsT args) H n := (Call_body Try.func60 args H n).trans (s60 ..)
/-! 61: spec.l2DrawAt -/
noncomputable def S61 (C : Calling) (L : Body → Body) (t : Tm) (H : Hp) (n : Nat) : Option (Value × Hp × Nat) :=
  (vcells (t 1)).bind fun c2 =>
  let H1 := H.set (n) (some (.row c2 0 true))
  (fieldA 0 (ptr (n) 0)).bind fun v3 =>
  (ld false 1 v3 H1).bind fun v4 =>
  (lenV false v4).bind fun v5 =>
  (binK .plain .eql v5 (.int .i64 0)).bind fun v6 =>
  let t8 : Tm := put (put (put (put (put (put (put t 3 (ptr (n) 0)) 4 (.int .i64 0)) 5 v3) 6 v4) 7 v5) 8 v6) 9 v6
  (gsel v6 false
    ((C 57 [t8 0, .int .i64 20] H1 (n + 10)).bind fun q9 =>
     some (put (put t8 10 (t8 0)) 11 q9.1, q9.2.1, q9.2.2))
    (some (put (put t8 10 (.tuple #[])) 11 (.tuple #[]), H1, n + 10))
  ).bind fun (q7 : R3) =>
  (pickV (q7.1 9) (.bool true) (q7.1 11)).bind fun v10 =>
  csel v10
    ((fieldA 0 (q7.1 3)).bind fun v11 =>
     (ld false 1 v11 q7.2.1).bind fun v12 =>
     (lenV false v12).bind fun v13 =>
     (bsl (q7.2.2 + 4) 1 3 [.int .i64 0] [(0, 1, .int .i64 (-1)), (1, 1, .int .i64 0), (2, 1, v13)] q7.2.1).bind fun p14 =>
     (C 59 [q7.1 0, p14.1] p14.2 (q7.2.2 + 7)).bind fun q15 =>
     some (q15.1, q15.2.1, q15.2.2))
    ((fieldA 0 (q7.1 3)).bind fun v16 =>
     (ld false 1 v16 q7.2.1).bind fun v17 =>
     (lenV false v17).bind fun v18 =>
     (binK .plain .sub v18 (.int .i64 1)).bind fun v19 =>
     (fieldA 0 (q7.1 3)).bind fun v20 =>
     (ld false 1 v20 q7.2.1).bind fun v21 =>
     (lenV false v21).bind fun v22 =>
     (C 100 [v22, .int .i64 9] q7.2.1 (q7.2.2 + 12)).bind fun q23 =>
     ask (ld false 1 v16 q23.2.1 = some v17) <|
     (C 56 [q7.1 0, q23.1] q23.2.1 (q23.2.2)).bind fun q24 =>
     ask (ld false 1 v16 q24.2.1 = some v17) <|
     (binK .plain .sub v19 q24.1).bind fun v25 =>
     some (v25, q24.2.1, q24.2.2))
theorem s61 (C : Calling) (L : Body → Body) (t : Tm) (H : Hp) (n : Nat) : bodyK Try.prog C L Try.f61 t H n = S61 C L t H n := by kernel_rfl
theorem c61 (args : List Value) (H : Hp) (n : Nat) : Call Try.prog 61 args H n = S61 (Call Try.prog) Loop (argsT args) H n := (Call_body Try.func61 args H n).trans (s61 ..)
/-! 62: impl.PrimArgs -/
noncomputable def S62 (C : Calling) (L : Body → Body) (t : Tm) (H : Hp) (n : Nat) : Option (Value × Hp × Nat) :=
  (C 51 [t 0, .int .i64 1, .int .i64 19] H (n + 4)).bind fun q1 =>
  (un .not q1.1).bind fun v2 =>
  csel v2
    (some (.int .i64 (-1), q1.2.1, q1.2.2 + 1))
    ((bsl (q1.2.2) 1 19 [.int .i64 0] [(0, 1, .int .i64 2), (1, 1, .int .i64 2), (2, 1, .int .i64 2), (3, 1, .int .i64 2), (4, 1, .int .i64 2), (5, 1, .int .i64 2), (6, 1, .int .i64 1), (7, 1, .int .i64 1), (8, 1, .int .i64 1), (9, 1, .int .i64 1), (10, 1, .int .i64 2), (11, 1, .int .i64 1), (12, 1, .int .i64 1), (13, 1, .int .i64 0), (14, 1, .int .i64 2), (15, 1, .int .i64 0), (16, 1, .int .i64 1), (17, 1, .int .i64 1), (18, 1, .int .i64 1)] q1.2.1).bind fun p3 =>
     (binK .plain .sub (t 0) (.int .i64 1)).bind fun v4 =>
     (idxA 1 p3.1 v4).bind fun v5 =>
     (ld false 1 v5 p3.2).bind fun v6 =>
     some (v6, p3.2, q1.2.2 + 6))
theorem s62 (C : Calling) (L : Body → Body) (t : Tm) (H : Hp) (n : Nat) : bodyK Try.prog C L Try.f62 t H n = S62 C L t H n := by kernel_rfl
theorem c62 (args : List Value) (H : Hp) (n : Nat) : Call Try.prog 62 args H n = S62 (Call Try.prog) Loop (argsT args) H n := (Call_body Try.func62 args H n).trans (s62 ..)
end Go.Proofs.Ytpiicpcofjhakaa.Ax
