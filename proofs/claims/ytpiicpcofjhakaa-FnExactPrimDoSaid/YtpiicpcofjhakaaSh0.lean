/- What the bodies of some functions of the program come to in the abstract machine. -/
import Derived.Test.YtpiicpcofjhakaaProg
import Derived.Test.YtpiicpcofjhakaaAx3
set_option linter.unusedVariables false
namespace Go.Proofs.Ytpiicpcofjhakaa.Ax
open Go
set_option maxRecDepth 100000
/-! 3: laws.FnExactCodeOk -/
noncomputable def S3 (C : Calling) (L : Body → Body) (t : Tm) (H : Hp) (n : Nat) : Option (Value × Hp × Nat) :=
  (vcells (t 0)).bind fun c2 =>
  let H1 := H.set (n) (some (.row c2 0 true))
  (ld true 3 (ptr (n) 0) H1).bind fun v3 =>
  (C 9 [v3, .int .i64 1048576] H1 (n + 7)).bind fun q4 =>
  (binK .plain .lss q4.1 (.int .i64 0)).bind fun v5 =>
  csel v5
    (some (.bool true, q4.2.1, q4.2.2 + 3))
    ((ld true 3 (ptr (n) 0) q4.2.1).bind fun v6 =>
     (C 11 [v6] q4.2.1 (q4.2.2 + 6)).bind fun q7 =>
     (C 10 [q7.1] q7.2.1 (q7.2.2)).bind fun q8 =>
     (ld true 3 (ptr (n) 0) q8.2.1).bind fun v9 =>
     (C 11 [v9] q8.2.1 (q8.2.2 + 4)).bind fun q10 =>
     let H11 := q10.2.1.set (q8.2.2 + 2) (some (.row [nilS, nilS, nilS] 0 true))
     (st true 3 (ptr (q8.2.2 + 2) 0) q10.1 H11).bind fun H12 =>
     (ld true 3 (ptr (q8.2.2 + 2) 0) H12).bind fun v13 =>
     (C 12 [v13] H12 (q10.2.2 + 3)).bind fun q14 =>
     (binK .bool .neq q14.1 q8.1).bind fun v15 =>
     csel v15
       (some (.bool false, q14.2.1, q14.2.2 + 4))
       ((ld true 3 (ptr (q8.2.2 + 2) 0) q14.2.1).bind fun v16 =>
        (ld true 3 (ptr (n) 0) q14.2.1).bind fun v17 =>
        (C 11 [v17] q14.2.1 (q14.2.2 + 8)).bind fun q18 =>
        ask (ld true 3 (ptr (q8.2.2 + 2) 0) q18.2.1 = some v16) <|
        (C 13 [v16, q18.1] q18.2.1 (q18.2.2)).bind fun q19 =>
        (un .not q19.1).bind fun v20 =>
        csel v20
          (some (.bool false, q19.2.1, q19.2.2 + 1))
          (some (.bool true, q19.2.1, q19.2.2 + 1))))
theorem s3 (C : Calling) (L : Body → Body) (t : Tm) (H : Hp) (n : Nat) : bodyK Try.prog C L Try.f3 t H n = S3 C L t H n := by kernel_rfl
theorem c3 (args : List Value) (H : Hp) (n : Nat) : Call Try.prog 3 args H n = S3 (Call Try.prog) Loop (argsT args) H n := (Call_body Try.func3 args H n).trans (s3 ..)
/-! 4: laws.FnPrims -/
noncomputable def S4 (C : Calling) (L : Body → Body) (t : Tm) (H : Hp) (n : Nat) : Option (Value × Hp × Nat) :=
  (C 14 [t 0] H (n + 3)).bind fun q1 =>
  csel q1.1
    (some (.bool true, q1.2.1, q1.2.2 + 1))
    ((C 15 [t 0] q1.2.1 (q1.2.2 + 10)).bind fun q2 =>
     (ext 0 q2.1).bind fun v3 =>
     (ext 1 q2.1).bind fun v4 =>
     (ext 2 q2.1).bind fun v5 =>
     let H6 := q2.2.1.set (q1.2.2 + 6) (some (.row [nilS] 0 true))
     (st true 1 (ptr (q1.2.2 + 6) 0) v3 H6).bind fun H7 =>
     (ld true 1 (ptr (q1.2.2 + 6) 0) H7).bind fun v8 =>
     (C 16 [v8, v4, v5] H7 (q2.2.2 + 12)).bind fun q9 =>
     (ext 0 q9.1).bind fun v10 =>
     (ext 1 q9.1).bind fun v11 =>
     (ext 2 q9.1).bind fun v12 =>
     let H13 := q9.2.1.set (q2.2.2 + 8) (some (.row [nilS] 0 true))
     (st true 1 (ptr (q2.2.2 + 8) 0) v10 H13).bind fun H14 =>
     (ld true 1 (ptr (q1.2.2 + 6) 0) H14).bind fun v15 =>
     (C 17 [v15, v4, v5] H14 (q9.2.2 + 12)).bind fun q16 =>
     (ext 0 q16.1).bind fun v17 =>
     (ext 1 q16.1).bind fun v18 =>
     (ext 2 q16.1).bind fun v19 =>
     let H20 := q16.2.1.set (q9.2.2 + 8) (some (.row [nilS] 0 true))
     (st true 1 (ptr (q9.2.2 + 8) 0) v17 H20).bind fun H21 =>
     (binK .plain .neq v12 v19).bind fun v22 =>
     let t24 : Tm := put (put (put (put (put (put (put (put (put (put (put (put (put (put (put (put (put (put (put (put (put (put (put (put (put (put (put (put (put (put (put (put (put (put (put (put (put (put t 2 (.bool false)) 24 (t 0)) 25 q1.1) 27 (t 0)) 28 q2.1) 26 q2.1) 29 v3) 30 v4) 31 v5) 3 (ptr (q1.2.2 + 6) 0)) 4 v4) 5 v5) 33 v8) 34 v4) 35 v5) 36 q9.1) 32 q9.1) 37 v10) 38 v11) 39 v12) 6 (ptr (q2.2.2 + 8) 0)) 7 v11) 8 v12) 41 v15) 42 v4) 43 v5) 44 q16.1) 40 q16.1) 45 v17) 46 v18) 47 v19) 9 (ptr (q9.2.2 + 8) 0)) 10 v18) 11 v19) 48 v12) 49 v19) 50 v22) 51 v22
     (gsel v22 false
       ((binK .plain .neq v11 v18).bind fun v25 =>
        some (put (put (put t24 52 v11) 53 v18) 54 v25, H21, q16.2.2 + 8))
       (some (put (put (put t24 52 (.tuple #[])) 53 (.tuple #[])) 54 (.tuple #[]), H21, q16.2.2 + 8))
     ).bind fun (q23 : R3) =>
     (pickV (q23.1 51) (.bool true) (q23.1 54)).bind fun v26 =>
     csel v26
       (some (.bool false, q23.2.1, q23.2.2 + 1))
       ((binK .plain .neq (q23.1 8) (.int .i64 0)).bind fun v27 =>
        csel v27
          ((binK .plain .eql (q23.1 7) (.int .i64 (-1))).bind fun v28 =>
           let t30 : Tm := put (put (put (put (put (put q23.1 55 v26) 56 (q23.1 8)) 57 v27) 58 (q23.1 7)) 59 v28) 60 v28
           (gsel v28 true
             ((fieldA 0 (t30 6)).bind fun v31 =>
              (ld false 1 v31 q23.2.1).bind fun v32 =>
              (lenV false v32).bind fun v33 =>
              (fieldA 0 (t30 3)).bind fun v34 =>
              (ld false 1 v34 q23.2.1).bind fun v35 =>
              (lenV false v35).bind fun v36 =>
              (binK .plain .eql v33 v36).bind fun v37 =>
              some (put (put (put (put (put (put (put (put t30 61 v31) 62 v32) 63 v33) 64 v34) 65 v35) 66 v36) 67 v37) 68 v37, q23.2.1, q23.2.2 + 20))
             (some (put (put (put (put (put (put (put (put t30 61 (.tuple #[])) 62 (.tuple #[])) 63 (.tuple #[])) 64 (.tuple #[])) 65 (.tuple #[])) 66 (.tuple #[])) 67 (.tuple #[])) 68 (.tuple #[]), q23.2.1, q23.2.2 + 20))
           ).bind fun (q29 : R3) =>
           let t39 : Tm := q29.1
           (gsel (q29.1 68) false
             ((fieldA 0 (t39 6)).bind fun v40 =>
              (ld false 1 v40 q29.2.1).bind fun v41 =>
              (lenV false v41).bind fun v42 =>
              (binK .plain .eql v42 (.int .i64 0)).bind fun v43 =>
              some (put (put (put (put t39 69 v40) 70 v41) 71 v42) 72 v43, q29.2.1, q29.2.2))
             (some (put (put (put (put t39 69 (.tuple #[])) 70 (.tuple #[])) 71 (.tuple #[])) 72 (.tuple #[]), q29.2.1, q29.2.2))
           ).bind fun (q38 : R3) =>
           let t45 : Tm := q38.1
           (gsel (q38.1 60) true
             ((pickV (t45 68) (.bool true) (t45 72)).bind fun v46 =>
              some (put t45 73 v46, q38.2.1, q38.2.2))
             (some (put t45 73 (.tuple #[]), q38.2.1, q38.2.2))
           ).bind fun (q44 : R3) =>
           (pickV (q44.1 60) (q44.1 73) (.bool false)).bind fun v47 =>
           some (v47, q44.2.1, q44.2.2))
          ((binK .plain .lss (q23.1 7) (.int .i64 0)).bind fun v48 =>
           let t50 : Tm := put (put (put (put (put (put q23.1 55 v26) 56 (q23.1 8)) 57 v27) 75 (q23.1 7)) 76 v48) 77 v48
           (gsel v48 false
             ((fieldA 0 (t50 6)).bind fun v51 =>
              (ld false 1 v51 q23.2.1).bind fun v52 =>
              (lenV false v52).bind fun v53 =>
              (binK .plain .geq (t50 7) v53).bind fun v54 =>
              some (put (put (put (put (put t50 78 (t50 7)) 79 v51) 80 v52) 81 v53) 82 v54, q23.2.1, q23.2.2 + 16))
             (some (put (put (put (put (put t50 78 (.tuple #[])) 79 (.tuple #[])) 80 (.tuple #[])) 81 (.tuple #[])) 82 (.tuple #[]), q23.2.1, q23.2.2 + 16))
           ).bind fun (q49 : R3) =>
           (pickV (q49.1 77) (.bool true) (q49.1 82)).bind fun v55 =>
           let t57 : Tm := put (put q49.1 83 v55) 84 v55
           (gsel v55 false
             ((ld true 1 (t57 6) q49.2.1).bind fun v58 =>
              (C 18 [v58] q49.2.1 (q49.2.2)).bind fun q59 =>
              (un .not q59.1).bind fun v60 =>
              some (put (put (put t57 85 v58) 86 q59.1) 87 v60, q59.2.1, q59.2.2))
             (some (put (put (put t57 85 (.tuple #[])) 86 (.tuple #[])) 87 (.tuple #[]), q49.2.1, q49.2.2))
           ).bind fun (q56 : R3) =>
           (pickV (q56.1 84) (.bool true) (q56.1 87)).bind fun v61 =>
           csel v61
             (some (.bool false, q56.2.1, q56.2.2 + 1))
             ((binK .plain .eql (q56.1 4) (.int .i64 6)).bind fun v62 =>
              csel v62
                ((ld true 1 (q56.1 6) q56.2.1).bind fun v63 =>
                 (bsl (q56.2.2 + 5) 1 1 [.int .i64 0] [(0, 1, q56.1 7)] q56.2.1).bind fun p64 =>
                 (C 16 [v63, .int .i64 7, p64.1] p64.2 (q56.2.2 + 15)).bind fun q65 =>
                 (ext 0 q65.1).bind fun v66 =>
                 (ext 1 q65.1).bind fun v67 =>
                 (ext 2 q65.1).bind fun v68 =>
                 let H69 := q65.2.1.set (q56.2.2 + 11) (some (.row [nilS] 0 true))
                 (st true 1 (ptr (q56.2.2 + 11) 0) v66 H69).bind fun H70 =>
                 (ld true 1 (q56.1 6) H70).bind fun v71 =>
                 (bsl (q65.2.2 + 2) 1 1 [.int .i64 0] [(0, 1, q56.1 7)] H70).bind fun p72 =>
                 (C 16 [v71, .int .i64 8, p72.1] p72.2 (q65.2.2 + 12)).bind fun q73 =>
                 (ext 0 q73.1).bind fun v74 =>
                 (ext 1 q73.1).bind fun v75 =>
                 (ext 2 q73.1).bind fun v76 =>
                 let H77 := q73.2.1.set (q65.2.2 + 8) (some (.row [nilS] 0 true))
                 (st true 1 (ptr (q65.2.2 + 8) 0) v74 H77).bind fun H78 =>
                 (binK .plain .eql v68 (.int .i64 0)).bind fun v79 =>
                 let t81 : Tm := put (put (put (put (put (put (put (put (put (put (put (put (put (put (put (put (put (put (put (put (put (put (put (put (put (put (put (put (put q56.1 88 v61) 89 (q56.1 4)) 91 v62) 90 v62) 93 v63) 94 (q56.1 7)) 95 p64.1) 96 q65.1) 92 q65.1) 97 v66) 98 v67) 99 v68) 12 (ptr (q56.2.2 + 11) 0)) 13 v67) 14 v68) 101 v71) 102 (q56.1 7)) 103 p72.1) 104 q73.1) 100 q73.1) 105 v74) 106 v75) 107 v76) 15 (ptr (q65.2.2 + 8) 0)) 16 v75) 17 v76) 108 v68) 109 v79) 110 v79
                 (gsel v79 true
                   ((binK .plain .eql v76 (.int .i64 0)).bind fun v82 =>
                    some (put (put t81 111 v76) 112 v82, H78, q73.2.2 + 21))
                   (some (put (put t81 111 (.tuple #[])) 112 (.tuple #[]), H78, q73.2.2 + 21))
                 ).bind fun (q80 : R3) =>
                 (pickV (q80.1 110) (q80.1 112) (.bool false)).bind fun v83 =>
                 let t85 : Tm := put (put q80.1 113 v83) 114 v83
                 (gsel v83 true
                   ((idxA 1 (t85 5) (.int .i64 0)).bind fun v86 =>
                    (ld false 1 v86 q80.2.1).bind fun v87 =>
                    (binK .plain .eql (t85 13) v87).bind fun v88 =>
                    some (put (put (put (put (put t85 115 (t85 13)) 116 (t85 5)) 117 v86) 118 v87) 119 v88, q80.2.1, q80.2.2))
                   (some (put (put (put (put (put t85 115 (.tuple #[])) 116 (.tuple #[])) 117 (.tuple #[])) 118 (.tuple #[])) 119 (.tuple #[]), q80.2.1, q80.2.2))
                 ).bind fun (q84 : R3) =>
                 (pickV (q84.1 114) (q84.1 119) (.bool false)).bind fun v89 =>
                 let t91 : Tm := put (put q84.1 120 v89) 121 v89
                 (gsel v89 true
                   ((idxA 1 (t91 5) (.int .i64 1)).bind fun v92 =>
                    (ld false 1 v92 q84.2.1).bind fun v93 =>
                    (binK .plain .eql (t91 16) v93).bind fun v94 =>
                    some (put (put (put (put (put t91 122 (t91 16)) 123 (t91 5)) 124 v92) 125 v93) 126 v94, q84.2.1, q84.2.2))
                   (some (put (put (put (put (put t91 122 (.tuple #[])) 123 (.tuple #[])) 124 (.tuple #[])) 125 (.tuple #[])) 126 (.tuple #[]), q84.2.1, q84.2.2))
                 ).bind fun (q90 : R3) =>
                 (pickV (q90.1 121) (q90.1 126) (.bool false)).bind fun v95 =>
                 some (v95, q90.2.1, q90.2.2))
                ((binK .plain .eql (q56.1 4) (.int .i64 1)).bind fun v96 =>
                 csel v96
                   ((ld true 1 (q56.1 6) q56.2.1).bind fun v97 =>
                    (idxA 1 (q56.1 5) (.int .i64 0)).bind fun v98 =>
                    (ld false 1 v98 q56.2.1).bind fun v99 =>
                    (bsl (q56.2.2 + 10) 1 2 [.int .i64 0] [(0, 1, q56.1 7), (1, 1, v99)] q56.2.1).bind fun p100 =>
                    (C 16 [v97, .int .i64 2, p100.1] p100.2 (q56.2.2 + 20)).bind fun q101 =>
                    (ext 0 q101.1).bind fun v102 =>
                    (ext 1 q101.1).bind fun v103 =>
                    (ext 2 q101.1).bind fun v104 =>
                    let H105 := q101.2.1.set (q56.2.2 + 16) (some (.row [nilS] 0 true))
                    (st true 1 (ptr (q56.2.2 + 16) 0) v102 H105).bind fun H106 =>
                    (binK .plain .eql v104 (.int .i64 5)).bind fun v107 =>
                    let t109 : Tm := put (put (put (put (put (put (put (put (put (put (put (put (put (put (put (put (put (put (put (put (put (put (put q56.1 88 v61) 89 (q56.1 4)) 91 v62) 90 v62) 129 v96) 128 v96) 131 v97) 132 (q56.1 7)) 133 (q56.1 5)) 134 v98) 135 v99) 136 p100.1) 137 q101.1) 130 q101.1) 138 v102) 139 v103) 140 v104) 18 (ptr (q56.2.2 + 16) 0)) 19 v103) 20 v104) 141 v104) 142 v107) 143 v107
                    (gsel v107 false
                      ((binK .plain .eql v104 (.int .i64 0)).bind fun v110 =>
                       some ⟨put (put (put t109 144 v104) 145 v110) 146 v110, H106, q101.2.2 + 24, [], []⟩)
                      (some ⟨put (put (put t109 144 (.tuple #[])) 145 (.tuple #[])) 146 (.tuple #[]), H106, q101.2.2 + 24, [], []⟩)
                    ).bind fun (q108 : R5) =>
                    let t112 : Tm := q108.t
                    (gsel (q108.t 146) true
                      ((fieldA 0 (t112 18)).bind fun v113 =>
                       (ld false 1 v113 q108.H).bind fun v114 =>
                       askB 127 false 1 v113 v114 q108.hs <|
                       (idxA 5 v114 (t112 19)).bind fun v115 =>
                       (fieldA 1 v115).bind fun v116 =>
                       (ld false 1 v116 q108.H).bind fun v117 =>
                       askB 2047 false 1 v116 v117 q108.hs <|
                       (fieldA 0 (t112 6)).bind fun v118 =>
                       (ld false 1 v118 q108.H).bind fun v119 =>
                       askB 4159 false 1 v118 v119 q108.hs <|
                       (idxA 1 (t112 5) (.int .i64 1)).bind fun v120 =>
                       (ld false 1 v120 q108.H).bind fun v121 =>
                       askB 49215 false 1 v120 v121 q108.hs <|
                       (idxA 5 v119 v121).bind fun v122 =>
                       (fieldA 1 v122).bind fun v123 =>
                       (ld false 1 v123 q108.H).bind fun v124 =>
                       askB 520255 false 1 v123 v124 q108.hs <|
                       (binK .plain .eql v117 v124).bind fun v125 =>
                       some ⟨put (put (put (put (put (put (put (put (put (put (put (put (put (put (put t112 147 v113) 148 v114) 149 (t112 19)) 150 v115) 151 v116) 152 v117) 153 v118) 154 v119) 155 (t112 5)) 156 v120) 157 v121) 158 v122) 159 v123) 160 v124) 161 v125, q108.H, q108.n, (⟨19, false, 1, v123, v124⟩ :: ⟨16, false, 1, v120, v121⟩ :: ⟨13, false, 1, v118, v119⟩ :: ⟨11, false, 1, v116, v117⟩ :: ⟨7, false, 1, v113, v114⟩ :: q108.rs), q108.hs⟩)
                      (some ⟨put (put (put (put (put (put (put (put (put (put (put (put (put (put (put t112 147 (.tuple #[])) 148 (.tuple #[])) 149 (.tuple #[])) 150 (.tuple #[])) 151 (.tuple #[])) 152 (.tuple #[])) 153 (.tuple #[])) 154 (.tuple #[])) 155 (.tuple #[])) 156 (.tuple #[])) 157 (.tuple #[])) 158 (.tuple #[])) 159 (.tuple #[])) 160 (.tuple #[])) 161 (.tuple #[]), q108.H, q108.n, q108.rs, q108.hs⟩)
                    ).bind fun (q111 : R5) =>
                    let t127 : Tm := q111.t
                    (gsel (q111.t 143) false
                      ((pickV (t127 146) (t127 161) (.bool false)).bind fun v128 =>
                       some ⟨put t127 162 v128, q111.H, q111.n, q111.rs, q111.hs⟩)
                      (some ⟨put t127 162 (.tuple #[]), q111.H, q111.n, q111.rs, q111.hs⟩)
                    ).bind fun (q126 : R5) =>
                    (pickV (q126.t 143) (.bool true) (q126.t 162)).bind fun v129 =>
                    some (v129, q126.H, q126.n))
                   ((binK .plain .eql (q56.1 4) (.int .i64 12)).bind fun v130 =>
                    csel v130
                      ((ld true 1 (q56.1 6) q56.2.1).bind fun v131 =>
                       (bsl (q56.2.2 + 9) 1 1 [.int .i64 0] [(0, 1, q56.1 7)] q56.2.1).bind fun p132 =>
                       (C 16 [v131, .int .i64 12, p132.1] p132.2 (q56.2.2 + 19)).bind fun q133 =>
                       (ext 0 q133.1).bind fun v134 =>
                       (ext 1 q133.1).bind fun v135 =>
                       (ext 2 q133.1).bind fun v136 =>
                       let H137 := q133.2.1.set (q56.2.2 + 15) (some (.row [nilS] 0 true))
                       (st true 1 (ptr (q56.2.2 + 15) 0) v134 H137).bind fun H138 =>
                       (binK .plain .eql v136 (.int .i64 5)).bind fun v139 =>
                       let t141 : Tm := put (put (put (put (put (put (put (put (put (put (put (put (put (put (put (put (put (put (put (put (put (put q56.1 88 v61) 89 (q56.1 4)) 91 v62) 90 v62) 129 v96) 128 v96) 165 v130) 164 v130) 167 v131) 168 (q56.1 7)) 169 p132.1) 170 q133.1) 166 q133.1) 171 v134) 172 v135) 173 v136) 21 (ptr (q56.2.2 + 15) 0)) 22 v135) 23 v136) 174 v136) 175 v139) 176 v139
                       (gsel v139 false
                         ((binK .plain .eql v136 (.int .i64 0)).bind fun v142 =>
                          some ⟨put (put (put t141 177 v136) 178 v142) 179 v142, H138, q133.2.2 + 23, [], []⟩)
                         (some ⟨put (put (put t141 177 (.tuple #[])) 178 (.tuple #[])) 179 (.tuple #[]), H138, q133.2.2 + 23, [], []⟩)
                       ).bind fun (q140 : R5) =>
                       let t144 : Tm := q140.t
                       (gsel (q140.t 179) true
                         ((fieldA 0 (t144 21)).bind fun v145 =>
                          (ld false 1 v145 q140.H).bind fun v146 =>
                          askB 127 false 1 v145 v146 q140.hs <|
                          (idxA 5 v146 (t144 22)).bind fun v147 =>
                          (fieldA 1 v147).bind fun v148 =>
                          (ld false 1 v148 q140.H).bind fun v149 =>
                          askB 2047 false 1 v148 v149 q140.hs <|
                          (fieldA 0 (t144 6)).bind fun v150 =>
                          (ld false 1 v150 q140.H).bind fun v151 =>
                          askB 4159 false 1 v150 v151 q140.hs <|
                          (idxA 5 v151 (t144 7)).bind fun v152 =>
                          (fieldA 1 v152).bind fun v153 =>
                          (ld false 1 v153 q140.H).bind fun v154 =>
                          askB 127039 false 1 v153 v154 q140.hs <|
                          (binK .plain .sub (.int .i64 1) v154).bind fun v155 =>
                          (binK .plain .eql v149 v155).bind fun v156 =>
                          some ⟨put (put (put (put (put (put (put (put (put (put (put (put (put (put t144 180 v145) 181 v146) 182 (t144 22)) 183 v147) 184 v148) 185 v149) 186 v150) 187 v151) 188 (t144 7)) 189 v152) 190 v153) 191 v154) 192 v155) 193 v156, q140.H, q140.n, (⟨17, false, 1, v153, v154⟩ :: ⟨13, false, 1, v150, v151⟩ :: ⟨11, false, 1, v148, v149⟩ :: ⟨7, false, 1, v145, v146⟩ :: q140.rs), q140.hs⟩)
                         (some ⟨put (put (put (put (put (put (put (put (put (put (put (put (put (put t144 180 (.tuple #[])) 181 (.tuple #[])) 182 (.tuple #[])) 183 (.tuple #[])) 184 (.tuple #[])) 185 (.tuple #[])) 186 (.tuple #[])) 187 (.tuple #[])) 188 (.tuple #[])) 189 (.tuple #[])) 190 (.tuple #[])) 191 (.tuple #[])) 192 (.tuple #[])) 193 (.tuple #[]), q140.H, q140.n, q140.rs, q140.hs⟩)
                       ).bind fun (q143 : R5) =>
                       let t158 : Tm := q143.t
                       (gsel (q143.t 176) false
                         ((pickV (t158 179) (t158 193) (.bool false)).bind fun v159 =>
                          some ⟨put t158 194 v159, q143.H, q143.n, q143.rs, q143.hs⟩)
                         (some ⟨put t158 194 (.tuple #[]), q143.H, q143.n, q143.rs, q143.hs⟩)
                       ).bind fun (q157 : R5) =>
                       (pickV (q157.t 176) (.bool true) (q157.t 194)).bind fun v160 =>
                       some (v160, q157.H, q157.n))
                      (some (.bool true, q56.2.1, q56.2.2 + 8))))))))
theorem s4 (C : Calling) (L : Body → Body) (t : Tm) (H : Hp) (n : Nat) : bodyK Try.prog C L Try.f4 t H n = S4 C L t H n := by kernel_rfl
theorem c4 (args : List Value) (H : Hp) (n : Nat) : Call Try.prog 4 args H n = S4 (Call Try.prog) Loop (argsT args) H n := (Call_body Try.func4 args H n).trans (s4 ..)
/-! 5: laws.FnExactTidy -/
noncomputable def S5 (C : Calling) (L : Body → Body) (t : Tm) (H : Hp) (n : Nat) : Option (Value × Hp × Nat) :=
  (vcells (t 0)).bind fun c2 =>
  let H1 := H.set (n) (some (.row c2 0 true))
  (ld true 8 (ptr (n) 0) H1).bind fun v3 =>
  (C 19 [v3, .int .i64 1048576] H1 (n + 7)).bind fun q4 =>
  (binK .plain .lss q4.1 (.int .i64 0)).bind fun v5 =>
  csel v5
    (some (.bool true, q4.2.1, q4.2.2 + 3))
    ((ld true 8 (ptr (n) 0) q4.2.1).bind fun v6 =>
     (C 21 [v6] q4.2.1 (q4.2.2 + 7)).bind fun q7 =>
     (C 20 [q7.1] q7.2.1 (q7.2.2)).bind fun q8 =>
     let H9 := q8.2.1.set (q4.2.2 + 5) (some (.row [nilS, .int .i64 0, .int .i64 0, .int .i64 0, .int .i64 0, .int .i64 0, .int .i64 0, .int .i64 0] 0 true))
     (st true 8 (ptr (q4.2.2 + 5) 0) q8.1 H9).bind fun H10 =>
     (ld true 8 (ptr (n) 0) H10).bind fun v11 =>
     (C 21 [v11] H10 (q8.2.2 + 4)).bind fun q12 =>
     let H13 := q12.2.1.set (q8.2.2 + 2) (some (.row [nilS, .int .i64 0, .int .i64 0, .int .i64 0, .int .i64 0, .int .i64 0, .int .i64 0, .int .i64 0] 0 true))
     (st true 8 (ptr (q8.2.2 + 2) 0) q12.1 H13).bind fun H14 =>
     (ld true 8 (ptr (q8.2.2 + 2) 0) H14).bind fun v15 =>
     (C 22 [v15] H14 (q12.2.2 + 4)).bind fun q16 =>
     let H17 := q16.2.1.set (q12.2.2 + 2) (some (.row [nilS, .int .i64 0, .int .i64 0, .int .i64 0, .int .i64 0, .int .i64 0, .int .i64 0, .int .i64 0] 0 true))
     (st true 8 (ptr (q12.2.2 + 2) 0) q16.1 H17).bind fun H18 =>
     (ld true 8 (ptr (q12.2.2 + 2) 0) H18).bind fun v19 =>
     (ld true 8 (ptr (q4.2.2 + 5) 0) H18).bind fun v20 =>
     (C 23 [v19, v20] H18 (q16.2.2 + 4)).bind fun q21 =>
     (un .not q21.1).bind fun v22 =>
     csel v22
       (some (.bool false, q21.2.1, q21.2.2 + 1))
       ((ld true 8 (ptr (q8.2.2 + 2) 0) q21.2.1).bind fun v23 =>
        (ld true 8 (ptr (n) 0) q21.2.1).bind fun v24 =>
        (C 21 [v24] q21.2.1 (q21.2.2 + 5)).bind fun q25 =>
        ask (ld true 8 (ptr (q8.2.2 + 2) 0) q25.2.1 = some v23) <|
        (C 23 [v23, q25.1] q25.2.1 (q25.2.2)).bind fun q26 =>
        (un .not q26.1).bind fun v27 =>
        csel v27
          (some (.bool false, q26.2.1, q26.2.2 + 1))
          ((ld true 8 (ptr (q8.2.2 + 2) 0) q26.2.1).bind fun v28 =>
           (C 24 [v28, .int .i64 1] q26.2.1 (q26.2.2 + 5)).bind fun q29 =>
           (binK .plain .lss q29.1 (.int .i64 0)).bind fun v30 =>
           let t32 : Tm := put (put (put (put (put (put (put (put (put (put (put (put (put (put (put (put (put (put (put (put (put (put (put (put (put (put (put (put (put (put (put (put (put (put (put (put t 1 (ptr (n) 0)) 2 (.bool false)) 3 (.int .i64 1048576)) 11 v3) 12 (.int .i64 1048576)) 13 q4.1) 3 q4.1) 14 q4.1) 15 v5) 16 v6) 17 q7.1) 18 q8.1) 4 (ptr (q4.2.2 + 5) 0)) 19 v11) 20 q12.1) 5 (ptr (q8.2.2 + 2) 0)) 21 v15) 22 q16.1) 6 (ptr (q12.2.2 + 2) 0)) 23 v19) 24 v20) 25 q21.1) 26 v22) 27 v23) 28 v24) 29 q25.1) 30 q26.1) 31 v27) 7 (.int .i64 1)) 32 v28) 33 (.int .i64 1)) 34 q29.1) 7 q29.1) 35 q29.1) 36 v30) 37 v30
           (gsel v30 false
             ((ld true 8 (ptr (q12.2.2 + 2) 0) q29.2.1).bind fun v33 =>
              (ld true 8 (ptr (q4.2.2 + 5) 0) q29.2.1).bind fun v34 =>
              (C 23 [v33, v34] q29.2.1 (q29.2.2 + 8)).bind fun q35 =>
              (un .not q35.1).bind fun v36 =>
              some (put (put (put (put t32 38 v33) 39 v34) 40 q35.1) 41 v36, q35.2.1, q35.2.2))
             (some (put (put (put (put t32 38 (.tuple #[])) 39 (.tuple #[])) 40 (.tuple #[])) 41 (.tuple #[]), q29.2.1, q29.2.2 + 8))
           ).bind fun (q31 : R3) =>
           (pickV (q31.1 37) (.bool true) (q31.1 41)).bind fun v37 =>
           csel v37
             (some (.bool false, q31.2.1, q31.2.2 + 1))
             ((ld true 8 (q31.1 6) q31.2.1).bind fun v38 =>
              (C 24 [v38, .int .i64 1] q31.2.1 (q31.2.2 + 5)).bind fun q39 =>
              (ld true 8 (q31.1 6) q39.2.1).bind fun v40 =>
              (C 25 [v40, .int .i64 1] q39.2.1 (q39.2.2 + 5)).bind fun q41 =>
              (binK .plain .lss q41.1 (.int .i64 0)).bind fun v42 =>
              csel v42
                (some (.bool false, q41.2.1, q41.2.2 + 3))
                ((binK .plain .neq q41.1 q39.1).bind fun v43 =>
                 csel v43
                   (some (.bool false, q41.2.1, q41.2.2 + 6))
                   ((ld true 8 (q31.1 1) q41.2.1).bind fun v44 =>
                    (C 21 [v44] q41.2.1 (q41.2.2 + 10)).bind fun q45 =>
                    (C 22 [q45.1] q45.2.1 (q45.2.2)).bind fun q46 =>
                    let H47 := q46.2.1.set (q41.2.2 + 8) (some (.row [nilS, .int .i64 0, .int .i64 0, .int .i64 0, .int .i64 0, .int .i64 0, .int .i64 0, .int .i64 0] 0 true))
                    (st true 8 (ptr (q41.2.2 + 8) 0) q46.1 H47).bind fun H48 =>
                    (ld true 8 (ptr (q41.2.2 + 8) 0) H48).bind fun v49 =>
                    (ld true 8 (q31.1 4) H48).bind fun v50 =>
                    (C 23 [v49, v50] H48 (q46.2.2 + 4)).bind fun q51 =>
                    (un .not q51.1).bind fun v52 =>
                    csel v52
                      (some (.bool false, q51.2.1, q51.2.2 + 1))
                      ((ld true 8 (q31.1 6) q51.2.1).bind fun v53 =>
                       (C 25 [v53, .int .i64 1] q51.2.1 (q51.2.2 + 5)).bind fun q54 =>
                       (binK .plain .lss q54.1 (.int .i64 0)).bind fun v55 =>
                       csel v55
                         (some (.bool false, q54.2.1, q54.2.2 + 3))
                         ((binK .plain .neq q54.1 q39.1).bind fun v56 =>
                          csel v56
                            (some (.bool false, q54.2.1, q54.2.2 + 6))
                            (some (.bool true, q54.2.1, q54.2.2 + 6))))))))))
theorem s5 (C : Calling) (L : Body → Body) (t : Tm) (H : Hp) (n : Nat) : bodyK Try.prog C L Try.f5 t H n = S5 C L t H n := by kernel_rfl
theorem c5 (args : List Value) (H : Hp) (n : Nat) : Call Try.prog 5 args H n = S5 (Call Try.prog) Loop (argsT args) H n := (Call_body Try.func5 args H n).trans (s5 ..)
/-! 6: laws.FnExactPrimDo -/
noncomputable def S6 (C : Calling) (L : Body → Body) (t : Tm) (H : Hp) (n : Nat) : Option (Value × Hp × Nat) :=
  (vcells (t 0)).bind fun c2 =>
  let H1 := H.set (n) (some (.row c2 0 true))
  (lenV false (t 2)).bind fun v3 =>
  (binK .plain .gtr v3 (.int .i64 1048576)).bind fun v4 =>
  csel v4
    (some (.bool true, H1, n + 6))
    ((ld true 1 (ptr (n) 0) H1).bind fun v5 =>
     (C 26 [v5, .int .i64 1048576] H1 (n + 10)).bind fun q6 =>
     (binK .plain .lss q6.1 (.int .i64 0)).bind fun v7 =>
     csel v7
       (some (.bool true, q6.2.1, q6.2.2 + 3))
       ((ld true 1 (ptr (n) 0) q6.2.1).bind fun v8 =>
        (C 27 [v8] q6.2.1 (q6.2.2 + 16)).bind fun q9 =>
        (C 28 [t 2] q9.2.1 (q9.2.2)).bind fun q10 =>
        (C 17 [q9.1, t 1, q10.1] q10.2.1 (q10.2.2)).bind fun q11 =>
        (ext 0 q11.1).bind fun v12 =>
        (ext 1 q11.1).bind fun v13 =>
        (ext 2 q11.1).bind fun v14 =>
        let H15 := q11.2.1.set (q6.2.2 + 12) (some (.row [nilS] 0 true))
        (st true 1 (ptr (q6.2.2 + 12) 0) v12 H15).bind fun H16 =>
        (ld true 1 (ptr (n) 0) H16).bind fun v17 =>
        (C 27 [v17] H16 (q11.2.2 + 4)).bind fun q18 =>
        let H19 := q18.2.1.set (q11.2.2 + 2) (some (.row [nilS] 0 true))
        (st true 1 (ptr (q11.2.2 + 2) 0) q18.1 H19).bind fun H20 =>
        (C 28 [t 2] H20 (q18.2.2 + 3)).bind fun q21 =>
        (ld true 1 (ptr (q11.2.2 + 2) 0) q21.2.1).bind fun v22 =>
        (C 16 [v22, t 1, q21.1] q21.2.1 (q21.2.2 + 12)).bind fun q23 =>
        (ext 0 q23.1).bind fun v24 =>
        (ext 1 q23.1).bind fun v25 =>
        (ext 2 q23.1).bind fun v26 =>
        let H27 := q23.2.1.set (q21.2.2 + 8) (some (.row [nilS] 0 true))
        (st true 1 (ptr (q21.2.2 + 8) 0) v24 H27).bind fun H28 =>
        (ld true 1 (ptr (q21.2.2 + 8) 0) H28).bind fun v29 =>
        (ld true 1 (ptr (q6.2.2 + 12) 0) H28).bind fun v30 =>
        (C 29 [v29, v30] H28 (q23.2.2 + 14)).bind fun q31 =>
        (un .not q31.1).bind fun v32 =>
        let t34 : Tm := put (put (put (put (put (put (put (put (put (put (put (put (put (put (put (put (put (put (put (put (put (put (put (put (put (put (put (put (put (put (put (put (put (put (put (put (put (put (put (put (put (put (put (put (put (put (put t 3 (ptr (n) 0)) 6 (.bool false)) 22 (t 2)) 23 v3) 24 v4) 7 (.int .i64 1048576)) 25 v5) 26 (.int .i64 1048576)) 27 q6.1) 7 q6.1) 28 q6.1) 29 v7) 31 v8) 32 q9.1) 33 (t 1)) 34 (t 2)) 35 q10.1) 36 q11.1) 30 q11.1) 37 v12) 38 v13) 39 v14) 8 (ptr (q6.2.2 + 12) 0)) 9 v13) 10 v14) 40 v17) 41 q18.1) 11 (ptr (q11.2.2 + 2) 0)) 42 (t 2)) 43 q21.1) 12 q21.1) 45 v22) 46 (t 1)) 47 q21.1) 48 q23.1) 44 q23.1) 49 v24) 50 v25) 51 v26) 13 (ptr (q21.2.2 + 8) 0)) 14 v25) 15 v26) 52 v29) 53 v30) 54 q31.1) 55 v32) 56 v32
        (gsel v32 false
          ((binK .plain .neq v25 v13).bind fun v35 =>
           some (put (put (put t34 57 v25) 58 v13) 59 v35, q31.2.1, q31.2.2))
          (some (put (put (put t34 57 (.tuple #[])) 58 (.tuple #[])) 59 (.tuple #[]), q31.2.1, q31.2.2))
        ).bind fun (q33 : R3) =>
        (pickV (q33.1 56) (.bool true) (q33.1 59)).bind fun v36 =>
        let t38 : Tm := put (put q33.1 60 v36) 61 v36
        (gsel v36 false
          ((binK .plain .neq (t38 15) (t38 10)).bind fun v39 =>
           some (put (put (put t38 62 (t38 15)) 63 (t38 10)) 64 v39, q33.2.1, q33.2.2))
          (some (put (put (put t38 62 (.tuple #[])) 63 (.tuple #[])) 64 (.tuple #[]), q33.2.1, q33.2.2))
        ).bind fun (q37 : R3) =>
        (pickV (q37.1 61) (.bool true) (q37.1 64)).bind fun v40 =>
        csel v40
          (some (.bool false, q37.2.1, q37.2.2 + 1))
          ((ld true 1 (q37.1 11) q37.2.1).bind fun v41 =>
           (ld true 1 (q37.1 3) q37.2.1).bind fun v42 =>
           (C 27 [v42] q37.2.1 (q37.2.2 + 5)).bind fun q43 =>
           ask (ld true 1 (q37.1 11) q43.2.1 = some v41) <|
           (C 29 [v41, q43.1] q43.2.1 (q43.2.2)).bind fun q44 =>
           (un .not q44.1).bind fun v45 =>
           csel v45
             (some (.bool false, q44.2.1, q44.2.2 + 1))
             ((C 28 [q37.1 2] q44.2.1 (q44.2.2 + 5)).bind fun q46 =>
              (C 30 [q37.1 12, q46.1] q46.2.1 (q46.2.2)).bind fun q47 =>
              (un .not q47.1).bind fun v48 =>
              csel v48
                (some (.bool false, q47.2.1, q47.2.2 + 1))
                ((ld true 1 (q37.1 11) q47.2.1).bind fun v49 =>
                 (C 31 [v49, .int .i64 1] q47.2.1 (q47.2.2 + 5)).bind fun q50 =>
                 (C 32 [q37.1 12, q50.1] q50.2.1 (q50.2.2 + 4)).bind fun q51 =>
                 (binK .plain .lss q51.1 (.int .i64 0)).bind fun v52 =>
                 let t54 : Tm := put (put (put (put (put (put (put (put (put (put (put (put (put (put (put (put (put (put (put (put (put (put (put q37.1 65 v40) 66 v41) 67 v42) 68 q43.1) 69 q44.1) 70 v45) 71 (q37.1 12)) 72 (q37.1 2)) 73 q46.1) 74 q47.1) 75 v48) 16 (.int .i64 1)) 76 v49) 77 (.int .i64 1)) 78 q50.1) 16 q50.1) 79 (q37.1 12)) 80 q50.1) 81 q51.1) 16 q51.1) 82 q51.1) 83 v52) 84 v52
                 (gsel v52 false
                   ((ld true 1 (t54 13) q51.2.1).bind fun v55 =>
                    (ld true 1 (t54 8) q51.2.1).bind fun v56 =>
                    (C 29 [v55, v56] q51.2.1 (q51.2.2 + 18)).bind fun q57 =>
                    (un .not q57.1).bind fun v58 =>
                    some (put (put (put (put t54 85 v55) 86 v56) 87 q57.1) 88 v58, q57.2.1, q57.2.2))
                   (some (put (put (put (put t54 85 (.tuple #[])) 86 (.tuple #[])) 87 (.tuple #[])) 88 (.tuple #[]), q51.2.1, q51.2.2 + 18))
                 ).bind fun (q53 : R3) =>
                 (pickV (q53.1 84) (.bool true) (q53.1 88)).bind fun v59 =>
                 let t61 : Tm := put (put q53.1 89 v59) 90 v59
                 (gsel v59 false
                   ((binK .plain .neq (t61 14) (t61 9)).bind fun v62 =>
                    some (put (put (put t61 91 (t61 14)) 92 (t61 9)) 93 v62, q53.2.1, q53.2.2))
                   (some (put (put (put t61 91 (.tuple #[])) 92 (.tuple #[])) 93 (.tuple #[]), q53.2.1, q53.2.2))
                 ).bind fun (q60 : R3) =>
                 (pickV (q60.1 90) (.bool true) (q60.1 93)).bind fun v63 =>
                 let t65 : Tm := put (put q60.1 94 v63) 95 v63
                 (gsel v63 false
                   ((binK .plain .neq (t65 15) (t65 10)).bind fun v66 =>
                    some (put (put (put t65 96 (t65 15)) 97 (t65 10)) 98 v66, q60.2.1, q60.2.2))
                   (some (put (put (put t65 96 (.tuple #[])) 97 (.tuple #[])) 98 (.tuple #[]), q60.2.1, q60.2.2))
                 ).bind fun (q64 : R3) =>
                 (pickV (q64.1 95) (.bool true) (q64.1 98)).bind fun v67 =>
                 csel v67
                   (some (.bool false, q64.2.1, q64.2.2 + 1))
                   ((ld true 1 (q64.1 13) q64.2.1).bind fun v68 =>
                    (C 31 [v68, .int .i64 1] q64.2.1 (q64.2.2 + 5)).bind fun q69 =>
                    (ld true 1 (q64.1 13) q69.2.1).bind fun v70 =>
                    (C 33 [v70, .int .i64 1] q69.2.1 (q69.2.2 + 5)).bind fun q71 =>
                    (binK .plain .lss q71.1 (.int .i64 0)).bind fun v72 =>
                    csel v72
                      (some (.bool false, q71.2.1, q71.2.2 + 3))
                      ((binK .plain .neq q71.1 q69.1).bind fun v73 =>
                       csel v73
                         (some (.bool false, q71.2.1, q71.2.2 + 6))
                         ((ld true 1 (q64.1 3) q71.2.1).bind fun v74 =>
                          (C 27 [v74] q71.2.1 (q71.2.2 + 19)).bind fun q75 =>
                          (C 28 [q64.1 2] q75.2.1 (q75.2.2)).bind fun q76 =>
                          (C 16 [q75.1, q64.1 1, q76.1] q76.2.1 (q76.2.2)).bind fun q77 =>
                          (ext 0 q77.1).bind fun v78 =>
                          (ext 1 q77.1).bind fun v79 =>
                          (ext 2 q77.1).bind fun v80 =>
                          let H81 := q77.2.1.set (q71.2.2 + 15) (some (.row [nilS] 0 true))
                          (st true 1 (ptr (q71.2.2 + 15) 0) v78 H81).bind fun H82 =>
                          (ld true 1 (ptr (q71.2.2 + 15) 0) H82).bind fun v83 =>
                          (ld true 1 (q64.1 8) H82).bind fun v84 =>
                          (C 29 [v83, v84] H82 (q77.2.2 + 14)).bind fun q85 =>
                          (un .not q85.1).bind fun v86 =>
                          let t88 : Tm := put (put (put (put (put (put (put (put (put (put (put (put (put (put (put (put (put (put (put (put (put (put (put (put (put (put (put (put (put (put (put (put (put (put q64.1 99 v67) 17 (.int .i64 1)) 100 v68) 101 (.int .i64 1)) 102 q69.1) 17 q69.1) 18 (.int .i64 1)) 103 v70) 104 (.int .i64 1)) 105 q71.1) 18 q71.1) 106 q71.1) 107 v72) 108 q71.1) 109 q69.1) 110 v73) 112 v74) 113 q75.1) 114 (q64.1 1)) 115 (q64.1 2)) 116 q76.1) 117 q77.1) 111 q77.1) 118 v78) 119 v79) 120 v80) 19 (ptr (q71.2.2 + 15) 0)) 20 v79) 21 v80) 121 v83) 122 v84) 123 q85.1) 124 v86) 125 v86
                          (gsel v86 false
                            ((binK .plain .neq v79 (t88 9)).bind fun v89 =>
                             some (put (put (put t88 126 v79) 127 (t88 9)) 128 v89, q85.2.1, q85.2.2))
                            (some (put (put (put t88 126 (.tuple #[])) 127 (.tuple #[])) 128 (.tuple #[]), q85.2.1, q85.2.2))
                          ).bind fun (q87 : R3) =>
                          (pickV (q87.1 125) (.bool true) (q87.1 128)).bind fun v90 =>
                          let t92 : Tm := put (put q87.1 129 v90) 130 v90
                          (gsel v90 false
                            ((binK .plain .neq (t92 21) (t92 10)).bind fun v93 =>
                             some (put (put (put t92 131 (t92 21)) 132 (t92 10)) 133 v93, q87.2.1, q87.2.2))
                            (some (put (put (put t92 131 (.tuple #[])) 132 (.tuple #[])) 133 (.tuple #[]), q87.2.1, q87.2.2))
                          ).bind fun (q91 : R3) =>
                          (pickV (q91.1 130) (.bool true) (q91.1 133)).bind fun v94 =>
                          csel v94
                            (some (.bool false, q91.2.1, q91.2.2 + 1))
                            ((ld true 1 (q91.1 13) q91.2.1).bind fun v95 =>
                             (C 33 [v95, .int .i64 1] q91.2.1 (q91.2.2 + 5)).bind fun q96 =>
                             (binK .plain .lss q96.1 (.int .i64 0)).bind fun v97 =>
                             csel v97
                               (some (.bool false, q96.2.1, q96.2.2 + 3))
                               ((binK .plain .neq q96.1 (q91.1 17)).bind fun v98 =>
                                csel v98
                                  (some (.bool false, q96.2.1, q96.2.2 + 6))
                                  (some (.bool true, q96.2.1, q96.2.2 + 6))))))))))))
theorem s6 (C : Calling) (L : Body → Body) (t : Tm) (H : Hp) (n : Nat) : bodyK Try.prog C L Try.f6 t H n = S6 C L t H n := by kernel_rfl
theorem c6 (args : List Value) (H : Hp) (n : Nat) : Call Try.prog 6 args H n = S6 (Call Try.prog) Loop (argsT args) H n := (Call_body Try.func6 args H n).trans (s6 ..)
/-! 7: laws.FnExactMachineOk -/
noncomputable def S7 (C : Calling) (L : Body → Body) (t : Tm) (H : Hp) (n : Nat) : Option (Value × Hp × Nat) :=
  (vcells (t 0)).bind fun c2 =>
  let H1 := H.set (n) (some (.row c2 0 true))
  (vcells (t 1)).bind fun c4 =>
  let H3 := H1.set (n + 1) (some (.row c4 0 true))
  (ld true 3 (ptr (n) 0) H3).bind fun v5 =>
  (C 9 [v5, .int .i64 1048576] H3 (n + 8)).bind fun q6 =>
  (binK .plain .lss q6.1 (.int .i64 0)).bind fun v7 =>
  csel v7
    (some (.bool true, q6.2.1, q6.2.2 + 3))
    ((ld true 8 (ptr (n + 1) 0) q6.2.1).bind fun v8 =>
     (C 19 [v8, q6.1] q6.2.1 (q6.2.2 + 6)).bind fun q9 =>
     (binK .plain .lss q9.1 (.int .i64 0)).bind fun v10 =>
     csel v10
       (some (.bool true, q9.2.1, q9.2.2 + 3))
       ((ld true 3 (ptr (n) 0) q9.2.1).bind fun v11 =>
        (C 11 [v11] q9.2.1 (q9.2.2 + 8)).bind fun q12 =>
        (ld true 8 (ptr (n + 1) 0) q12.2.1).bind fun v13 =>
        ask (ld true 8 (ptr (n + 1) 0) q9.2.1 = some v13) <|
        (C 21 [v13] q12.2.1 (q12.2.2)).bind fun q14 =>
        (C 34 [q12.1, q14.1] q14.2.1 (q14.2.2)).bind fun q15 =>
        (ld true 3 (ptr (n) 0) q15.2.1).bind fun v16 =>
        (C 11 [v16] q15.2.1 (q15.2.2 + 4)).bind fun q17 =>
        let H18 := q17.2.1.set (q15.2.2 + 2) (some (.row [nilS, nilS, nilS] 0 true))
        (st true 3 (ptr (q15.2.2 + 2) 0) q17.1 H18).bind fun H19 =>
        (ld true 8 (ptr (n + 1) 0) H19).bind fun v20 =>
        (C 21 [v20] H19 (q17.2.2 + 4)).bind fun q21 =>
        let H22 := q21.2.1.set (q17.2.2 + 2) (some (.row [nilS, .int .i64 0, .int .i64 0, .int .i64 0, .int .i64 0, .int .i64 0, .int .i64 0, .int .i64 0] 0 true))
        (st true 8 (ptr (q17.2.2 + 2) 0) q21.1 H22).bind fun H23 =>
        (ld true 3 (ptr (q15.2.2 + 2) 0) H23).bind fun v24 =>
        (ld true 8 (ptr (q17.2.2 + 2) 0) H23).bind fun v25 =>
        (C 35 [v24, v25] H23 (q21.2.2 + 4)).bind fun q26 =>
        (binK .bool .neq q26.1 q15.1).bind fun v27 =>
        csel v27
          (some (.bool false, q26.2.1, q26.2.2 + 4))
          ((ld true 3 (ptr (q15.2.2 + 2) 0) q26.2.1).bind fun v28 =>
           (ld true 3 (ptr (n) 0) q26.2.1).bind fun v29 =>
           (C 11 [v29] q26.2.1 (q26.2.2 + 8)).bind fun q30 =>
           ask (ld true 3 (ptr (q15.2.2 + 2) 0) q30.2.1 = some v28) <|
           (C 13 [v28, q30.1] q30.2.1 (q30.2.2)).bind fun q31 =>
           (un .not q31.1).bind fun v32 =>
           csel v32
             (some (.bool false, q31.2.1, q31.2.2 + 1))
             ((ld true 8 (ptr (q17.2.2 + 2) 0) q31.2.1).bind fun v33 =>
              (ld true 8 (ptr (n + 1) 0) q31.2.1).bind fun v34 =>
              (C 21 [v34] q31.2.1 (q31.2.2 + 5)).bind fun q35 =>
              ask (ld true 8 (ptr (q17.2.2 + 2) 0) q35.2.1 = some v33) <|
              (C 23 [v33, q35.1] q35.2.1 (q35.2.2)).bind fun q36 =>
              (un .not q36.1).bind fun v37 =>
              csel v37
                (some (.bool false, q36.2.1, q36.2.2 + 1))
                (some (.bool true, q36.2.1, q36.2.2 + 1))))))
theorem s7 (C : Calling) (L : Body → Body) (t : Tm) (H : Hp) (n : Nat) : bodyK Try.prog C L Try.f7 t H n = S7 C L t H n := by kernel_rfl
theorem c7 (args : List Value) (H : Hp) (n : Nat) : Call Try.prog 7 args H n = S7 (Call Try.prog) Loop (argsT args) H n := (Call_body Try.func7 args H n).trans (s7 ..)
/-! 8: laws.FnExactMachineNew -/
noncomputable def S8 (C : Calling) (L : Body → Body) (t : Tm) (H : Hp) (n : Nat) : Option (Value × Hp × Nat) :=
  (vcells (t 0)).bind fun c2 =>
  let H1 := H.set (n) (some (.row c2 0 true))
  (lenV true (t 1)).bind fun v3 =>
  (binK .plain .gtr v3 (.int .i64 1048576)).bind fun v4 =>
  csel v4
    (some (.bool true, H1, n + 6))
    ((ld true 3 (ptr (n) 0) H1).bind fun v5 =>
     (C 9 [v5, .int .i64 1048576] H1 (n + 10)).bind fun q6 =>
     (binK .plain .lss q6.1 (.int .i64 0)).bind fun v7 =>
     csel v7
       (some (.bool true, q6.2.1, q6.2.2 + 3))
       ((ld true 3 (ptr (n) 0) q6.2.1).bind fun v8 =>
        (C 11 [v8] q6.2.1 (q6.2.2 + 12)).bind fun q9 =>
        (C 36 [q9.1, t 1] q9.2.1 (q9.2.2)).bind fun q10 =>
        (ext 0 q10.1).bind fun v11 =>
        (ext 1 q10.1).bind fun v12 =>
        let H13 := q10.2.1.set (q6.2.2 + 9) (some (.row [nilS, .int .i64 0, .int .i64 0, .int .i64 0, .int .i64 0, .int .i64 0, .int .i64 0, .int .i64 0] 0 true))
        (st true 8 (ptr (q6.2.2 + 9) 0) v11 H13).bind fun H14 =>
        (ld true 3 (ptr (n) 0) H14).bind fun v15 =>
        (C 11 [v15] H14 (q10.2.2 + 4)).bind fun q16 =>
        let H17 := q16.2.1.set (q10.2.2 + 2) (some (.row [nilS, nilS, nilS] 0 true))
        (st true 3 (ptr (q10.2.2 + 2) 0) q16.1 H17).bind fun H18 =>
        (ld true 3 (ptr (q10.2.2 + 2) 0) H18).bind fun v19 =>
        (C 37 [v19, t 1] H18 (q16.2.2 + 9)).bind fun q20 =>
        (ext 0 q20.1).bind fun v21 =>
        (ext 1 q20.1).bind fun v22 =>
        let H23 := q20.2.1.set (q16.2.2 + 6) (some (.row [nilS, .int .i64 0, .int .i64 0, .int .i64 0, .int .i64 0, .int .i64 0, .int .i64 0, .int .i64 0] 0 true))
        (st true 8 (ptr (q16.2.2 + 6) 0) v21 H23).bind fun H24 =>
        (ld true 8 (ptr (q16.2.2 + 6) 0) H24).bind fun v25 =>
        (ld true 8 (ptr (q6.2.2 + 9) 0) H24).bind fun v26 =>
        (C 23 [v25, v26] H24 (q20.2.2 + 9)).bind fun q27 =>
        (un .not q27.1).bind fun v28 =>
        let t30 : Tm := put (put (put (put (put (put (put (put (put (put (put (put (put (put (put (put (put (put (put (put (put (put (put (put (put (put (put (put (put (put (put (put (put (put (put (put (put t 2 (ptr (n) 0)) 4 (.bool false)) 16 (t 1)) 17 v3) 18 v4) 5 (.int .i64 1048576)) 19 v5) 20 (.int .i64 1048576)) 21 q6.1) 5 q6.1) 22 q6.1) 23 v7) 25 v8) 26 q9.1) 27 (t 1)) 28 q10.1) 24 q10.1) 29 v11) 30 v12) 6 (ptr (q6.2.2 + 9) 0)) 7 v12) 31 v15) 32 q16.1) 8 (ptr (q10.2.2 + 2) 0)) 34 v19) 35 (t 1)) 36 q20.1) 33 q20.1) 37 v21) 38 v22) 9 (ptr (q16.2.2 + 6) 0)) 10 v22) 39 v25) 40 v26) 41 q27.1) 42 v28) 43 v28
        (gsel v28 false
          ((binK .bool .neq v22 v12).bind fun v31 =>
           some (put (put (put t30 44 v22) 45 v12) 46 v31, q27.2.1, q27.2.2))
          (some (put (put (put t30 44 (.tuple #[])) 45 (.tuple #[])) 46 (.tuple #[]), q27.2.1, q27.2.2))
        ).bind fun (q29 : R3) =>
        (pickV (q29.1 43) (.bool true) (q29.1 46)).bind fun v32 =>
        csel v32
          (some (.bool false, q29.2.1, q29.2.2 + 1))
          ((ld true 3 (q29.1 8) q29.2.1).bind fun v33 =>
           (ld true 3 (q29.1 2) q29.2.1).bind fun v34 =>
           (C 11 [v34] q29.2.1 (q29.2.2 + 5)).bind fun q35 =>
           ask (ld true 3 (q29.1 8) q35.2.1 = some v33) <|
           (C 13 [v33, q35.1] q35.2.1 (q35.2.2)).bind fun q36 =>
           (un .not q36.1).bind fun v37 =>
           csel v37
             (some (.bool false, q36.2.1, q36.2.2 + 1))
             ((ld true 3 (q29.1 8) q36.2.1).bind fun v38 =>
              (C 38 [v38, .int .i64 1] q36.2.1 (q36.2.2 + 5)).bind fun q39 =>
              (binK .plain .lss q39.1 (.int .i64 0)).bind fun v40 =>
              let t42 : Tm := put (put (put (put (put (put (put (put (put (put (put (put (put (put q29.1 47 v32) 48 v33) 49 v34) 50 q35.1) 51 q36.1) 52 v37) 11 (.int .i64 1)) 53 v38) 54 (.int .i64 1)) 55 q39.1) 11 q39.1) 56 q39.1) 57 v40) 58 v40
              (gsel v40 false
                ((ld true 8 (t42 9) q39.2.1).bind fun v43 =>
                 (ld true 8 (t42 6) q39.2.1).bind fun v44 =>
                 (C 23 [v43, v44] q39.2.1 (q39.2.2 + 13)).bind fun q45 =>
                 (un .not q45.1).bind fun v46 =>
                 some (put (put (put (put t42 59 v43) 60 v44) 61 q45.1) 62 v46, q45.2.1, q45.2.2))
                (some (put (put (put (put t42 59 (.tuple #[])) 60 (.tuple #[])) 61 (.tuple #[])) 62 (.tuple #[]), q39.2.1, q39.2.2 + 13))
              ).bind fun (q41 : R3) =>
              (pickV (q41.1 58) (.bool true) (q41.1 62)).bind fun v47 =>
              let t49 : Tm := put (put q41.1 63 v47) 64 v47
              (gsel v47 false
                ((binK .bool .neq (t49 10) (t49 7)).bind fun v50 =>
                 some (put (put (put t49 65 (t49 10)) 66 (t49 7)) 67 v50, q41.2.1, q41.2.2))
                (some (put (put (put t49 65 (.tuple #[])) 66 (.tuple #[])) 67 (.tuple #[]), q41.2.1, q41.2.2))
              ).bind fun (q48 : R3) =>
              (pickV (q48.1 64) (.bool true) (q48.1 67)).bind fun v51 =>
              csel v51
                (some (.bool false, q48.2.1, q48.2.2 + 1))
                ((ld true 8 (q48.1 9) q48.2.1).bind fun v52 =>
                 (C 24 [v52, .int .i64 1] q48.2.1 (q48.2.2 + 5)).bind fun q53 =>
                 (ld true 8 (q48.1 9) q53.2.1).bind fun v54 =>
                 (C 25 [v54, .int .i64 1] q53.2.1 (q53.2.2 + 5)).bind fun q55 =>
                 (binK .plain .lss q55.1 (.int .i64 0)).bind fun v56 =>
                 csel v56
                   (some (.bool false, q55.2.1, q55.2.2 + 3))
                   ((binK .plain .neq q55.1 q53.1).bind fun v57 =>
                    csel v57
                      (some (.bool false, q55.2.1, q55.2.2 + 6))
                      ((ld true 3 (q48.1 2) q55.2.1).bind fun v58 =>
                       (C 11 [v58] q55.2.1 (q55.2.2 + 15)).bind fun q59 =>
                       (C 37 [q59.1, q48.1 1] q59.2.1 (q59.2.2)).bind fun q60 =>
                       (ext 0 q60.1).bind fun v61 =>
                       (ext 1 q60.1).bind fun v62 =>
                       let H63 := q60.2.1.set (q55.2.2 + 12) (some (.row [nilS, .int .i64 0, .int .i64 0, .int .i64 0, .int .i64 0, .int .i64 0, .int .i64 0, .int .i64 0] 0 true))
                       (st true 8 (ptr (q55.2.2 + 12) 0) v61 H63).bind fun H64 =>
                       (ld true 8 (ptr (q55.2.2 + 12) 0) H64).bind fun v65 =>
                       (ld true 8 (q48.1 6) H64).bind fun v66 =>
                       (C 23 [v65, v66] H64 (q60.2.2 + 9)).bind fun q67 =>
                       (un .not q67.1).bind fun v68 =>
                       let t70 : Tm := put (put (put (put (put (put (put (put (put (put (put (put (put (put (put (put (put (put (put (put (put (put (put (put (put (put (put (put (put (put q48.1 68 v51) 12 (.int .i64 1)) 69 v52) 70 (.int .i64 1)) 71 q53.1) 12 q53.1) 13 (.int .i64 1)) 72 v54) 73 (.int .i64 1)) 74 q55.1) 13 q55.1) 75 q55.1) 76 v56) 77 q55.1) 78 q53.1) 79 v57) 81 v58) 82 q59.1) 83 (q48.1 1)) 84 q60.1) 80 q60.1) 85 v61) 86 v62) 14 (ptr (q55.2.2 + 12) 0)) 15 v62) 87 v65) 88 v66) 89 q67.1) 90 v68) 91 v68
                       (gsel v68 false
                         ((binK .bool .neq v62 (t70 7)).bind fun v71 =>
                          some (put (put (put t70 92 v62) 93 (t70 7)) 94 v71, q67.2.1, q67.2.2))
                         (some (put (put (put t70 92 (.tuple #[])) 93 (.tuple #[])) 94 (.tuple #[]), q67.2.1, q67.2.2))
                       ).bind fun (q69 : R3) =>
                       (pickV (q69.1 91) (.bool true) (q69.1 94)).bind fun v72 =>
                       csel v72
                         (some (.bool false, q69.2.1, q69.2.2 + 1))
                         ((ld true 8 (q69.1 9) q69.2.1).bind fun v73 =>
                          (C 25 [v73, .int .i64 1] q69.2.1 (q69.2.2 + 5)).bind fun q74 =>
                          (binK .plain .lss q74.1 (.int .i64 0)).bind fun v75 =>
                          csel v75
                            (some (.bool false, q74.2.1, q74.2.2 + 3))
                            ((binK .plain .neq q74.1 (q69.1 12)).bind fun v76 =>
                             csel v76
                               (some (.bool false, q74.2.1, q74.2.2 + 6))
                               (some (.bool true, q74.2.1, q74.2.2 + 6)))))))))))
theorem s8 (C : Calling) (L : Body → Body) (t : Tm) (H : Hp) (n : Nat) : bodyK Try.prog C L Try.f8 t H n = S8 C L t H n := by kernel_rfl
theorem c8 (args : List Value) (H : Hp) (n : Nat) : Call Try.prog 8 args H n = S8 (Call Try.prog) Loop (argsT args) H n := (Call_body Try.func8 args H n).trans (s8 ..)
/-! 9: laws.szCode -/
noncomputable def S9 (C : Calling) (L : Body → Body) (t : Tm) (H : Hp) (n : Nat) : Option (Value × Hp × Nat) :=
  (vcells (t 0)).bind fun c2 =>
  let H1 := H.set (n) (some (.row c2 0 true))
  (fieldA 0 (ptr (n) 0)).bind fun v3 =>
  (ld true 1 v3 H1).bind fun v4 =>
  (C 26 [v4, t 1] H1 (n + 7)).bind fun q5 =>
  (binK .plain .lss q5.1 (.int .i64 0)).bind fun v6 =>
  csel v6
    (some (.int .i64 (-1), q5.2.1, q5.2.2 + 3))
    ((fieldA 1 (ptr (n) 0)).bind fun v7 =>
     (ld false 1 v7 q5.2.1).bind fun v8 =>
     (C 39 [v8, q5.1] q5.2.1 (q5.2.2 + 7)).bind fun q9 =>
     (binK .plain .lss q9.1 (.int .i64 0)).bind fun v10 =>
     csel v10
       (some (.int .i64 (-1), q9.2.1, q9.2.2 + 3))
       ((fieldA 2 (ptr (n) 0)).bind fun v11 =>
        (ld false 1 v11 q9.2.1).bind fun v12 =>
        (C 40 [v12, q9.1] q9.2.1 (q9.2.2 + 7)).bind fun q13 =>
        (binK .plain .lss q13.1 (.int .i64 0)).bind fun v14 =>
        csel v14
          (some (.int .i64 (-1), q13.2.1, q13.2.2 + 3))
          (some (q13.1, q13.2.1, q13.2.2 + 4))))
theorem s9 (C : Calling) (L : Body → Body) (t : Tm) (H : Hp) (n : Nat) : bodyK Try.prog C L Try.f9 t H n = S9 C L t H n := by kernel_rfl
theorem c9 (args : List Value) (H : Hp) (n : Nat) : Call Try.prog 9 args H n = S9 (Call Try.prog) Loop (argsT args) H n := (Call_body Try.func9 args H n).trans (s9 ..)
/-! 10: spec.CodeOk -/
noncomputable def S10L1 (C : Calling) (L : Body → Body) : Body := fun t H n =>
  (fieldA 2 (t 1)).bind fun v32 =>
  (ld false 1 v32 H).bind fun v33 =>
  (lenV false v33).bind fun v34 =>
  (binK .plain .lss (t 4) v34).bind fun v35 =>
  csel v35
    ((fieldA 2 (t 1)).bind fun v36 =>
     (ld false 1 v36 H).bind fun v37 =>
     (idxA 3 v37 (t 4)).bind fun v38 =>
     (ld true 3 v38 H).bind fun v39 =>
     let H40 := H.set (n + 10) (some (.row [.string ⟨#[]⟩, .int .i64 0, .int .i64 0] 0 true))
     (st true 3 (ptr (n + 10) 0) v39 H40).bind fun H41 =>
     (fieldA 0 (ptr (n + 10) 0)).bind fun v42 =>
     (ld false 1 v42 H41).bind fun v43 =>
     (C 43 [v43] H41 (n + 40)).bind fun q44 =>
     (un .not q44.1).bind fun v45 =>
     let t47 : Tm := put (put (put (put (put (put (put (put (put (put (put (put (put (put (put (put t 33 (t 4)) 34 v32) 35 v33) 36 v34) 37 v35) 40 v36) 41 v37) 42 (t 4)) 43 v38) 44 v39) 5 (ptr (n + 10) 0)) 45 v42) 46 v43) 47 q44.1) 48 v45) 49 v45
     (gsel v45 false
       ((ld true 3 (t47 1) q44.2.1).bind fun v48 =>
        (fieldA 0 (ptr (n + 10) 0)).bind fun v49 =>
        (ld false 1 v49 q44.2.1).bind fun v50 =>
        (C 44 [v48, v50] q44.2.1 (q44.2.2)).bind fun q51 =>
        (binK .plain .neq q51.1 (t47 4)).bind fun v52 =>
        some (put (put (put (put (put (put t47 50 v48) 51 v49) 52 v50) 53 q51.1) 54 (t47 4)) 55 v52, q51.2.1, q51.2.2))
       (some (put (put (put (put (put (put t47 50 (.tuple #[])) 51 (.tuple #[])) 52 (.tuple #[])) 53 (.tuple #[])) 54 (.tuple #[])) 55 (.tuple #[]), q44.2.1, q44.2.2))
     ).bind fun (q46 : R3) =>
     (pickV (q46.1 49) (.bool true) (q46.1 55)).bind fun v53 =>
     let t55 : Tm := put (put q46.1 56 v53) 57 v53
     (gsel v53 false
       ((fieldA 1 (t55 5)).bind fun v56 =>
        (ld false 1 v56 q46.2.1).bind fun v57 =>
        (fieldA 1 (t55 1)).bind fun v58 =>
        (ld false 1 v58 q46.2.1).bind fun v59 =>
        (lenV false v59).bind fun v60 =>
        (binK .plain .sub v60 (.int .i64 1)).bind fun v61 =>
        (C 45 [v57, .int .i64 0, v61] q46.2.1 (q46.2.2)).bind fun q62 =>
        (un .not q62.1).bind fun v63 =>
        some (put (put (put (put (put (put (put (put t55 58 v56) 59 v57) 60 v58) 61 v59) 62 v60) 63 v61) 64 q62.1) 65 v63, q62.2.1, q62.2.2))
       (some (put (put (put (put (put (put (put (put t55 58 (.tuple #[])) 59 (.tuple #[])) 60 (.tuple #[])) 61 (.tuple #[])) 62 (.tuple #[])) 63 (.tuple #[])) 64 (.tuple #[])) 65 (.tuple #[]), q46.2.1, q46.2.2))
     ).bind fun (q54 : R3) =>
     (pickV (q54.1 57) (.bool true) (q54.1 65)).bind fun v64 =>
     let t66 : Tm := put (put q54.1 66 v64) 67 v64
     (gsel v64 false
       ((fieldA 2 (t66 5)).bind fun v67 =>
        (ld false 1 v67 q54.2.1).bind fun v68 =>
        (C 45 [v68, .int .i64 0, .int .i64 4] q54.2.1 (q54.2.2)).bind fun q69 =>
        (un .not q69.1).bind fun v70 =>
        some (put (put (put (put t66 68 v67) 69 v68) 70 q69.1) 71 v70, q69.2.1, q69.2.2))
       (some (put (put (put (put t66 68 (.tuple #[])) 69 (.tuple #[])) 70 (.tuple #[])) 71 (.tuple #[]), q54.2.1, q54.2.2))
     ).bind fun (q65 : R3) =>
     (pickV (q65.1 67) (.bool true) (q65.1 71)).bind fun v71 =>
     csel v71
       (some ⟨.ret, put (put q65.1 72 v71) 2 (.bool false), q65.2.1, q65.2.2 + 1⟩)
       ((binK .plain .add (q65.1 4) (.int .i64 1)).bind fun v72 =>
        some ⟨.normal, put (put (put (put q65.1 72 v71) 38 (q65.1 4)) 39 v72) 4 v72, q65.2.1, q65.2.2 + 3⟩))
    (some ⟨(.exit 2), put (put (put (put (put t 33 (t 4)) 34 v32) 35 v33) 36 v34) 37 v35, H, n + 5⟩)
noncomputable def S10L0 (C : Calling) (L : Body → Body) : Body := fun t H n =>
  (fieldA 1 (t 1)).bind fun v22 =>
  (ld false 1 v22 H).bind fun v23 =>
  (lenV false v23).bind fun v24 =>
  (binK .plain .lss (t 3) v24).bind fun v25 =>
  csel v25
    ((ld true 3 (t 1) H).bind fun v26 =>
     (C 42 [v26, t 3] H (n + 9)).bind fun q27 =>
     (un .not q27.1).bind fun v28 =>
     csel v28
       (some ⟨.ret, put (put (put (put (put (put (put (put (put (put t 22 (t 3)) 23 v22) 24 v23) 25 v24) 26 v25) 29 v26) 30 (t 3)) 31 q27.1) 32 v28) 2 (.bool false), q27.2.1, q27.2.2 + 1⟩)
       ((binK .plain .add (t 3) (.int .i64 1)).bind fun v29 =>
        some ⟨.normal, put (put (put (put (put (put (put (put (put (put (put (put t 22 (t 3)) 23 v22) 24 v23) 25 v24) 26 v25) 29 v26) 30 (t 3)) 31 q27.1) 32 v28) 27 (t 3)) 28 v29) 3 v29, q27.2.1, q27.2.2 + 3⟩))
    (some ⟨(.exit 0), put (put (put (put (put t 22 (t 3)) 23 v22) 24 v23) 25 v24) 26 v25, H, n + 5⟩)
noncomputable def S10 (C : Calling) (L : Body → Body) (t : Tm) (H : Hp) (n : Nat) : Option (Value × Hp × Nat) :=
  (vcells (t 0)).bind fun c2 =>
  let H1 := H.set (n) (some (.row c2 0 true))
  (fieldA 0 (ptr (n) 0)).bind fun v3 =>
  (ld true 1 v3 H1).bind fun v4 =>
  (C 41 [v4] H1 (n + 18)).bind fun q5 =>
  (un .not q5.1).bind fun v6 =>
  let t8 : Tm := put (put (put (put (put (put (put t 1 (ptr (n) 0)) 2 (.bool false)) 6 v3) 7 v4) 8 q5.1) 9 v6) 10 v6
  (gsel v6 false
    ((fieldA 1 (ptr (n) 0)).bind fun v9 =>
     (ld false 1 v9 q5.2.1).bind fun v10 =>
     (lenV false v10).bind fun v11 =>
     (binK .plain .gtr v11 (.int .i64 400)).bind fun v12 =>
     some (put (put (put (put t8 11 v9) 12 v10) 13 v11) 14 v12, q5.2.1, q5.2.2))
    (some (put (put (put (put t8 11 (.tuple #[])) 12 (.tuple #[])) 13 (.tuple #[])) 14 (.tuple #[]), q5.2.1, q5.2.2))
  ).bind fun (q7 : R3) =>
  (pickV (q7.1 10) (.bool true) (q7.1 14)).bind fun v13 =>
  let t15 : Tm := put (put q7.1 15 v13) 16 v13
  (gsel v13 false
    ((fieldA 2 (t15 1)).bind fun v16 =>
     (ld false 1 v16 q7.2.1).bind fun v17 =>
     (lenV false v17).bind fun v18 =>
     (binK .plain .gtr v18 (.int .i64 20)).bind fun v19 =>
     some (put (put (put (put t15 17 v16) 18 v17) 19 v18) 20 v19, q7.2.1, q7.2.2))
    (some (put (put (put (put t15 17 (.tuple #[])) 18 (.tuple #[])) 19 (.tuple #[])) 20 (.tuple #[]), q7.2.1, q7.2.2))
  ).bind fun (q14 : R3) =>
  (pickV (q14.1 16) (.bool true) (q14.1 20)).bind fun v20 =>
  csel v20
    (some (.bool false, q14.2.1, q14.2.2 + 1))
    ((L (S10L0 C L) (put (put q14.1 21 v20) 3 (.int .i64 0)) q14.2.1 (q14.2.2 + 1)).bind fun (o21 : Out) =>
     let o30 := outOf 0 o21
     thenK o30
       ((L (S10L1 C L) (put o30.t 4 (.int .i64 0)) o30.H (o30.n + 1)).bind fun (o31 : Out) =>
        let o73 := outOf 2 o31
        thenK o73
          (some (.bool true, o73.H, o73.n + 1))
          (finE o73.e
             (some (o73.t 2, o73.H, o73.n))))
       (finE o30.e
          (some (o30.t 2, o30.H, o30.n))))
theorem s10 (C : Calling) (L : Body → Body) (t : Tm) (H : Hp) (n : Nat) : bodyK Try.prog C L Try.f10 t H n = S10 C L t H n := by kernel_rfl
theorem c10 (args : List Value) (H : Hp) (n : Nat) : Call Try.prog 10 args H n = S10 (Call Try.prog) Loop (argsT args) H n := (Call_body Try.func10 args H n).trans (s10 ..)
/-! 11: laws.toCode -/
noncomputable def S11 (C : Calling) (L : Body → Body) (t : Tm) (H : Hp) (n : Nat) : Option (Value × Hp × Nat) :=
  (vcells (t 0)).bind fun c2 =>
  let H1 := H.set (n) (some (.row c2 0 true))
  let H3 := H1.set (n + 1) (some (.row [nilS, nilS, nilS] 0 true))
  let H4 := H3.set (n + 2) (some (.row [nilS, nilS, nilS] 0 true))
  (fieldA 0 (ptr (n) 0)).bind fun v5 =>
  (ld true 1 v5 H4).bind fun v6 =>
  (C 27 [v6] H4 (n + 8)).bind fun q7 =>
  (fieldA 0 (ptr (n + 2) 0)).bind fun v8 =>
  (st true 1 v8 q7.1 q7.2.1).bind fun H9 =>
  (fieldA 1 (ptr (n) 0)).bind fun v10 =>
  (ld false 1 v10 H9).bind fun v11 =>
  (C 46 [v11] H9 (q7.2.2 + 5)).bind fun q12 =>
  (fieldA 1 (ptr (n + 2) 0)).bind fun v13 =>
  (st false 1 v13 q12.1 q12.2.1).bind fun H14 =>
  (fieldA 2 (ptr (n) 0)).bind fun v15 =>
  (ld false 1 v15 H14).bind fun v16 =>
  (C 47 [v16] H14 (q12.2.2 + 5)).bind fun q17 =>
  (fieldA 2 (ptr (n + 2) 0)).bind fun v18 =>
  (st false 1 v18 q17.1 q17.2.1).bind fun H19 =>
  (ld true 3 (ptr (n + 2) 0) H19).bind fun v20 =>
  (st true 3 (ptr (n + 1) 0) v20 H19).bind fun H21 =>
  (ld true 3 (ptr (n + 1) 0) H21).bind fun v22 =>
  some (v22, H21, q17.2.2 + 2)
theorem s11 (C : Calling) (L : Body → Body) (t : Tm) (H : Hp) (n : Nat) : bodyK Try.prog C L Try.f11 t H n = S11 C L t H n := by kernel_rfl
theorem c11 (args : List Value) (H : Hp) (n : Nat) : Call Try.prog 11 args H n = S11 (Call Try.prog) Loop (argsT args) H n := (Call_body Try.func11 args H n).trans (s11 ..)
/-! 12: impl.CodeOk -/
noncomputable def S12L1 (C : Calling) (L : Body → Body) : Body := fun t H n =>
  (binK .plain .lss (t 36) (t 35)).bind fun v35 =>
  csel v35
    ((idxA 3 (t 34) (t 36)).bind fun v36 =>
     (ld true 3 v36 H).bind fun v37 =>
     let H38 := H.set (n + 4) (some (.row [.string ⟨#[]⟩, .int .i64 0, .int .i64 0] 0 true))
     (st true 3 (ptr (n + 4) 0) v37 H38).bind fun H39 =>
     (fieldA 0 (ptr (n + 4) 0)).bind fun v40 =>
     (ld false 1 v40 H39).bind fun v41 =>
     (C 49 [v41] H39 (n + 35)).bind fun q42 =>
     (un .not q42.1).bind fun v43 =>
     let t45 : Tm := put (put (put (put (put (put (put (put (put (put (put t 37 v35) 38 (t 36)) 39 v36) 40 v37) 5 (ptr (n + 4) 0)) 4 (t 36)) 41 v40) 42 v41) 43 q42.1) 44 v43) 45 v43
     (gsel v43 false
       ((ld true 3 (t45 1) q42.2.1).bind fun v46 =>
        (fieldA 0 (ptr (n + 4) 0)).bind fun v47 =>
        (ld false 1 v47 q42.2.1).bind fun v48 =>
        (C 50 [v46, v48] q42.2.1 (q42.2.2)).bind fun q49 =>
        (binK .plain .neq q49.1 (t 36)).bind fun v50 =>
        some (put (put (put (put (put (put t45 46 v46) 47 v47) 48 v48) 49 q49.1) 50 (t 36)) 51 v50, q49.2.1, q49.2.2))
       (some (put (put (put (put (put (put t45 46 (.tuple #[])) 47 (.tuple #[])) 48 (.tuple #[])) 49 (.tuple #[])) 50 (.tuple #[])) 51 (.tuple #[]), q42.2.1, q42.2.2))
     ).bind fun (q44 : R3) =>
     (pickV (q44.1 45) (.bool true) (q44.1 51)).bind fun v51 =>
     let t53 : Tm := put (put q44.1 52 v51) 53 v51
     (gsel v51 false
       ((fieldA 1 (t53 5)).bind fun v54 =>
        (ld false 1 v54 q44.2.1).bind fun v55 =>
        (fieldA 1 (t53 1)).bind fun v56 =>
        (ld false 1 v56 q44.2.1).bind fun v57 =>
        (lenV false v57).bind fun v58 =>
        (binK .plain .sub v58 (.int .i64 1)).bind fun v59 =>
        (C 51 [v55, .int .i64 0, v59] q44.2.1 (q44.2.2)).bind fun q60 =>
        (un .not q60.1).bind fun v61 =>
        some (put (put (put (put (put (put (put (put t53 54 v54) 55 v55) 56 v56) 57 v57) 58 v58) 59 v59) 60 q60.1) 61 v61, q60.2.1, q60.2.2))
       (some (put (put (put (put (put (put (put (put t53 54 (.tuple #[])) 55 (.tuple #[])) 56 (.tuple #[])) 57 (.tuple #[])) 58 (.tuple #[])) 59 (.tuple #[])) 60 (.tuple #[])) 61 (.tuple #[]), q44.2.1, q44.2.2))
     ).bind fun (q52 : R3) =>
     (pickV (q52.1 53) (.bool true) (q52.1 61)).bind fun v62 =>
     let t64 : Tm := put (put q52.1 62 v62) 63 v62
     (gsel v62 false
       ((fieldA 2 (t64 5)).bind fun v65 =>
        (ld false 1 v65 q52.2.1).bind fun v66 =>
        (C 51 [v66, .int .i64 0, .int .i64 4] q52.2.1 (q52.2.2)).bind fun q67 =>
        (un .not q67.1).bind fun v68 =>
        some (put (put (put (put t64 64 v65) 65 v66) 66 q67.1) 67 v68, q67.2.1, q67.2.2))
       (some (put (put (put (put t64 64 (.tuple #[])) 65 (.tuple #[])) 66 (.tuple #[])) 67 (.tuple #[]), q52.2.1, q52.2.2))
     ).bind fun (q63 : R3) =>
     (pickV (q63.1 63) (.bool true) (q63.1 67)).bind fun v69 =>
     csel v69
       (some ⟨.ret, put (put q63.1 68 v69) 2 (.bool false), q63.2.1, q63.2.2 + 1⟩)
       ((binK .plain .add (q63.1 36) (.int .i64 1)).bind fun v70 =>
        some ⟨.normal, put (put (put q63.1 68 v69) 69 v70) 36 v70, q63.2.1, q63.2.2 + 2⟩))
    (some ⟨(.exit 2), put t 37 v35, H, n + 1⟩)
noncomputable def S12L0 (C : Calling) (L : Body → Body) : Body := fun t H n =>
  (binK .plain .lss (t 25) (t 24)).bind fun v25 =>
  csel v25
    ((ld true 3 (t 1) H).bind fun v26 =>
     (C 48 [v26, t 25] H (n + 7)).bind fun q27 =>
     (un .not q27.1).bind fun v28 =>
     csel v28
       (some ⟨.ret, put (put (put (put (put (put (put (put t 26 v25) 27 (t 25)) 3 (t 25)) 28 v26) 29 (t 25)) 30 q27.1) 31 v28) 2 (.bool false), q27.2.1, q27.2.2 + 1⟩)
       ((binK .plain .add (t 25) (.int .i64 1)).bind fun v29 =>
        some ⟨.normal, put (put (put (put (put (put (put (put (put t 26 v25) 27 (t 25)) 3 (t 25)) 28 v26) 29 (t 25)) 30 q27.1) 31 v28) 32 v29) 25 v29, q27.2.1, q27.2.2 + 2⟩))
    (some ⟨(.exit 0), put t 26 v25, H, n + 1⟩)
noncomputable def S12 (C : Calling) (L : Body → Body) (t : Tm) (H : Hp) (n : Nat) : Option (Value × Hp × Nat) :=
  (vcells (t 0)).bind fun c2 =>
  let H1 := H.set (n) (some (.row c2 0 true))
  (fieldA 0 (ptr (n) 0)).bind fun v3 =>
  (ld true 1 v3 H1).bind fun v4 =>
  (C 18 [v4] H1 (n + 18)).bind fun q5 =>
  (un .not q5.1).bind fun v6 =>
  let t8 : Tm := put (put (put (put (put (put (put t 1 (ptr (n) 0)) 2 (.bool false)) 6 v3) 7 v4) 8 q5.1) 9 v6) 10 v6
  (gsel v6 false
    ((fieldA 1 (ptr (n) 0)).bind fun v9 =>
     (ld false 1 v9 q5.2.1).bind fun v10 =>
     (lenV false v10).bind fun v11 =>
     (binK .plain .gtr v11 (.int .i64 400)).bind fun v12 =>
     some (put (put (put (put t8 11 v9) 12 v10) 13 v11) 14 v12, q5.2.1, q5.2.2))
    (some (put (put (put (put t8 11 (.tuple #[])) 12 (.tuple #[])) 13 (.tuple #[])) 14 (.tuple #[]), q5.2.1, q5.2.2))
  ).bind fun (q7 : R3) =>
  (pickV (q7.1 10) (.bool true) (q7.1 14)).bind fun v13 =>
  let t15 : Tm := put (put q7.1 15 v13) 16 v13
  (gsel v13 false
    ((fieldA 2 (t15 1)).bind fun v16 =>
     (ld false 1 v16 q7.2.1).bind fun v17 =>
     (lenV false v17).bind fun v18 =>
     (binK .plain .gtr v18 (.int .i64 20)).bind fun v19 =>
     some (put (put (put (put t15 17 v16) 18 v17) 19 v18) 20 v19, q7.2.1, q7.2.2))
    (some (put (put (put (put t15 17 (.tuple #[])) 18 (.tuple #[])) 19 (.tuple #[])) 20 (.tuple #[]), q7.2.1, q7.2.2))
  ).bind fun (q14 : R3) =>
  (pickV (q14.1 16) (.bool true) (q14.1 20)).bind fun v20 =>
  csel v20
    (some (.bool false, q14.2.1, q14.2.2 + 1))
    ((fieldA 1 (q14.1 1)).bind fun v21 =>
     (ld false 1 v21 q14.2.1).bind fun v22 =>
     (lenV false v22).bind fun v23 =>
     (L (S12L0 C L) (put (put (put (put (put q14.1 21 v20) 22 v21) 23 v22) 24 v23) 25 (.int .i64 0)) q14.2.1 (q14.2.2 + 4)).bind fun (o24 : Out) =>
     let o30 := outOf 0 o24
     thenK o30
       ((fieldA 2 (o30.t 1)).bind fun v31 =>
        (ld false 1 v31 o30.H).bind fun v32 =>
        (lenV false v32).bind fun v33 =>
        (L (S12L1 C L) (put (put (put (put o30.t 33 v31) 34 v32) 35 v33) 36 (.int .i64 0)) o30.H (o30.n + 4)).bind fun (o34 : Out) =>
        let o71 := outOf 2 o34
        thenK o71
          (some (.bool true, o71.H, o71.n + 1))
          (finE o71.e
             (some (o71.t 2, o71.H, o71.n))))
       (finE o30.e
          (some (o30.t 2, o30.H, o30.n))))
theorem s12 (C : Calling) (L : Body → Body) (t : Tm) (H : Hp) (n : Nat) : bodyK Try.prog C L Try.f12 t H n = S12 C L t H n := by kernel_rfl
theorem c12 (args : List Value) (H : Hp) (n : Nat) : Call Try.prog 12 args H n = S12 (Call Try.prog) Loop (argsT args) H n := (Call_body Try.func12 args H n).trans (s12 ..)
/-! 13: laws.eqCode -/
noncomputable def S13 (C : Calling) (L : Body → Body) (t : Tm) (H : Hp) (n : Nat) : Option (Value × Hp × Nat) :=
  (vcells (t 0)).bind fun c2 =>
  let H1 := H.set (n) (some (.row c2 0 true))
  (vcells (t 1)).bind fun c4 =>
  let H3 := H1.set (n + 1) (some (.row c4 0 true))
  (fieldA 0 (ptr (n) 0)).bind fun v5 =>
  (ld true 1 v5 H3).bind fun v6 =>
  (fieldA 0 (ptr (n + 1) 0)).bind fun v7 =>
  (ld true 1 v7 H3).bind fun v8 =>
  (C 29 [v6, v8] H3 (n + 9)).bind fun q9 =>
  (un .not q9.1).bind fun v10 =>
  csel v10
    (some (.bool false, q9.2.1, q9.2.2 + 1))
    ((fieldA 1 (ptr (n) 0)).bind fun v11 =>
     (ld false 1 v11 q9.2.1).bind fun v12 =>
     (fieldA 1 (ptr (n + 1) 0)).bind fun v13 =>
     (ld false 1 v13 q9.2.1).bind fun v14 =>
     (C 52 [v12, v14] q9.2.1 (q9.2.2 + 6)).bind fun q15 =>
     (un .not q15.1).bind fun v16 =>
     csel v16
       (some (.bool false, q15.2.1, q15.2.2 + 1))
       ((fieldA 2 (ptr (n) 0)).bind fun v17 =>
        (ld false 1 v17 q15.2.1).bind fun v18 =>
        (fieldA 2 (ptr (n + 1) 0)).bind fun v19 =>
        (ld false 1 v19 q15.2.1).bind fun v20 =>
        (C 53 [v18, v20] q15.2.1 (q15.2.2 + 6)).bind fun q21 =>
        (un .not q21.1).bind fun v22 =>
        csel v22
          (some (.bool false, q21.2.1, q21.2.2 + 1))
          (some (.bool true, q21.2.1, q21.2.2 + 1))))
theorem s13 (C : Calling) (L : Body → Body) (t : Tm) (H : Hp) (n : Nat) : bodyK Try.prog C L Try.f13 t H n = S13 C L t H n := by kernel_rfl
theorem c13 (args : List Value) (H : Hp) (n : Nat) : Call Try.prog 13 args H n = S13 (Call Try.prog) Loop (argsT args) H n := (Call_body Try.func13 args H n).trans (s13 ..)
/-! 14: laws.big -/
noncomputable def S14 (C : Calling) (L : Body → Body) (t : Tm) (H : Hp) (n : Nat) : Option (Value × Hp × Nat) :=
  (lenV false (t 0)).bind fun v1 =>
  (binK .plain .gtr v1 (.int .i64 1048576)).bind fun v2 =>
  some (v2, H, n + 5)
theorem s14 (C : Calling) (L : Body → Body) (t : Tm) (H : Hp) (n : Nat) : bodyK Try.prog C L Try.f14 t H n = S14 C L t H n := by kernel_rfl
theorem c14 (args : List Value) (H : Hp) (n : Nat) : Call Try.prog 14 args H n = S14 (Call Try.prog) Loop (argsT args) H n := (Call_body Try.func14 args H n).trans (s14 ..)
/-! 15: spec.DrawPrimDo -/
noncomputable def S15L1 (C : Calling) (L : Body → Body) : Body := fun t H n =>
  (C 60 [t 7] H (n + 8)).bind fun q39 =>
  (C 56 [t 5, .int .i64 20] q39.2.1 (q39.2.2)).bind fun q40 =>
  (binK .plain .quo q40.1 (.int .i64 19)).bind fun v41 =>
  (binK .plain .add q39.1 v41).bind fun v42 =>
  (binK .plain .lss (t 10) v42).bind fun v43 =>
  csel v43
    ((ld true 1 (t 6) q40.2.1).bind fun v44 =>
     (C 61 [t 5, v44] q40.2.1 (q40.2.2 + 7)).bind fun q45 =>
     (bsl (q40.2.2 + 4) 1 1 [.int .i64 0] [(0, 1, q45.1)] q45.2.1).bind fun p46 =>
     (app (q40.2.2 + 5) 1 8 (t 9) p46.1 p46.2).bind fun p47 =>
     (binK .plain .add (t 10) (.int .i64 1)).bind fun v48 =>
     some ⟨.normal, put (put (put (put (put (put (put (put (put (put (put (put (put (put (put (put (put (put t 47 (t 10)) 48 (t 7)) 49 q39.1) 50 (t 5)) 51 q40.1) 52 v41) 53 v42) 54 v43) 57 (t 9)) 58 (t 5)) 59 v44) 60 q45.1) 61 p46.1) 62 p47.1) 9 p47.1) 55 (t 10)) 56 v48) 10 v48, p47.2, q45.2.2 + 3⟩)
    (some ⟨(.exit 2), put (put (put (put (put (put (put (put t 47 (t 10)) 48 (t 7)) 49 q39.1) 50 (t 5)) 51 q40.1) 52 v41) 53 v42) 54 v43, q40.2.1, q40.2.2⟩)
noncomputable def S15L0 (C : Calling) (L : Body → Body) : Body := fun t H n =>
  (binK .plain .lss (t 8) (.int .i64 2)).bind fun v31 =>
  csel v31
    ((bsl (n + 3) 1 6 [.int .i64 0] [(0, 1, .int .i64 1), (1, 1, .int .i64 (-4)), (2, 1, .int .i64 7), (3, 1, .int .i64 1000000000), (4, 1, .int .i64 (-1000000000)), (5, 1, .int .i64 40000)] H).bind fun p32 =>
     (C 59 [t 5, p32.1] p32.2 (n + 7)).bind fun q33 =>
     (bld [.int .i64 0, .int .i64 0, .string ⟨#[]⟩, .int .i64 0, .int .i64 0] [(0, 1, .int .i64 3), (1, 1, q33.1)]).bind fun v34 =>
     (C 58 [t 6, v34] q33.2.1 (q33.2.2)).bind fun q35 =>
     (binK .plain .add (t 8) (.int .i64 1)).bind fun v36 =>
     some ⟨.normal, put (put (put (put (put (put (put (put (put (put t 37 (t 8)) 38 v31) 41 (t 5)) 42 p32.1) 43 q33.1) 44 v34) 45 q35.1) 39 (t 8)) 40 v36) 8 v36, q35.2.1, q35.2.2 + 3⟩)
    (some ⟨(.exit 0), put (put t 37 (t 8)) 38 v31, H, n + 2⟩)
noncomputable def S15 (C : Calling) (L : Body → Body) (t : Tm) (H : Hp) (n : Nat) : Option (Value × Hp × Nat) :=
  let H1 := H.set (n) (some (.row [nilS] 0 true))
  (C 54 [t 0] H1 (n + 6)).bind fun q2 =>
  (C 55 [q2.1] q2.2.1 (q2.2.2 + 4)).bind fun q3 =>
  let H4 := q3.2.1.set (q2.2.2 + 2) (some (.row [nilS] 0 true))
  (st true 1 (ptr (q2.2.2 + 2) 0) q3.1 H4).bind fun H5 =>
  (C 56 [q2.1, .int .i64 12] H5 (q3.2.2 + 4)).bind fun q6 =>
  (binK .plain .add (.int .i64 1) q6.1).bind fun v7 =>
  (C 57 [q2.1, .int .i64 9] q6.2.1 (q6.2.2 + 2)).bind fun q8 =>
  let t10 : Tm := put (put (put (put (put (put (put (put (put (put (put (put (put (put (put t 2 (ptr (n) 0)) 3 (.int .i64 0)) 4 nilS) 11 (t 0)) 12 q2.1) 5 q2.1) 13 q2.1) 14 q3.1) 6 (ptr (q2.2.2 + 2) 0)) 15 q2.1) 16 q6.1) 17 v7) 7 v7) 18 q2.1) 19 q8.1
  (csel q8.1
    ((C 56 [q2.1, .int .i64 22] q8.2.1 (q8.2.2 + 4)).bind fun q11 =>
     (binK .plain .sub q11.1 (.int .i64 1)).bind fun v12 =>
     some ⟨.normal, put (put (put (put t10 20 q2.1) 21 q11.1) 22 v12) 7 v12, q11.2.1, q11.2.2⟩)
    (some ⟨.normal, t10, q8.2.1, q8.2.2⟩)
  ).bind fun (o9 : Out) =>
  (fieldA 0 (o9.t 6)).bind fun v13 =>
  (ld false 1 v13 o9.H).bind fun v14 =>
  (lenV false v14).bind fun v15 =>
  (binK .plain .gtr v15 (.int .i64 0)).bind fun v16 =>
  let t18 : Tm := put (put (put (put (put o9.t 23 v13) 24 v14) 25 v15) 26 v16) 27 v16
  (gsel v16 true
    ((fieldA 0 (t18 6)).bind fun v19 =>
     (ld false 1 v19 o9.H).bind fun v20 =>
     (lenV false v20).bind fun v21 =>
     (binK .plain .lss v21 (.int .i64 40)).bind fun v22 =>
     some (put (put (put (put t18 28 v19) 29 v20) 30 v21) 31 v22, o9.H, o9.n + 14))
    (some (put (put (put (put t18 28 (.tuple #[])) 29 (.tuple #[])) 30 (.tuple #[])) 31 (.tuple #[]), o9.H, o9.n + 14))
  ).bind fun (q17 : R3) =>
  (pickV (q17.1 27) (q17.1 31) (.bool false)).bind fun v23 =>
  let t25 : Tm := put (put q17.1 32 v23) 33 v23
  (gsel v23 true
    ((C 57 [t25 5, .int .i64 2] q17.2.1 (q17.2.2)).bind fun q26 =>
     some (put (put t25 34 (t25 5)) 35 q26.1, q26.2.1, q26.2.2))
    (some (put (put t25 34 (.tuple #[])) 35 (.tuple #[]), q17.2.1, q17.2.2))
  ).bind fun (q24 : R3) =>
  (pickV (q24.1 33) (q24.1 35) (.bool false)).bind fun v27 =>
  let t29 : Tm := put q24.1 36 v27
  (csel v27
    ((L (S15L0 C L) (put t29 8 (.int .i64 0)) q24.2.1 (q24.2.2 + 1)).bind fun (o30 : Out) =>
     some ⟨.normal, o30.t, o30.H, o30.n⟩)
    (some ⟨.normal, t29, q24.2.1, q24.2.2⟩)
  ).bind fun (o28 : Out) =>
  (bsl (o28.n) 1 0 [.int .i64 0] [] o28.H).bind fun p37 =>
  (L (S15L1 C L) (put (put (put o28.t 46 p37.1) 9 p37.1) 10 (.int .i64 0)) p37.2 (o28.n + 3)).bind fun (o38 : Out) =>
  (ld true 1 (o38.t 6) o38.H).bind fun v49 =>
  (st true 1 (o38.t 2) v49 o38.H).bind fun H50 =>
  (ld true 1 (o38.t 2) H50).bind fun v51 =>
  iteK ([v51, o38.t 7, o38.t 9].all notTup) <|
  some (.tuple ⟨[v51, o38.t 7, o38.t 9]⟩, H50, o38.n + 6)
theorem s15 (C : Calling) (L : Body → Body) (t : Tm) (H : Hp) (n : Nat) : bodyK Try.prog C L Try.f15 t H n = S15 C L t H n := by kernel_rfl
theorem c15 (args : List Value) (H : Hp) (n : Nat) : Call Try.prog 15 args H n = S15 (Call Try.prog) Loop (argsT args) H n := (Call_body Try.func15 args H n).trans (s15 ..)
/-! 16: impl.PrimDo -/
noncomputable def S16 (C : Calling) (L : Body → Body) (t : Tm) (H : Hp) (n : Nat) : Option (Value × Hp × Nat) :=
  (vcells (t 0)).bind fun c2 =>
  let H1 := H.set (n) (some (.row c2 0 true))
  let H3 := H1.set (n + 1) (some (.row [nilS] 0 true))
  (ld true 1 (ptr (n) 0) H3).bind fun v4 =>
  (C 18 [v4] H3 (n + 24)).bind fun q5 =>
  (un .not q5.1).bind fun v6 =>
  let t8 : Tm := put (put (put (put (put (put (put (put t 3 (ptr (n) 0)) 6 (ptr (n + 1) 0)) 7 (.int .i64 0)) 8 (.int .i64 0)) 12 v4) 13 q5.1) 14 v6) 15 v6
  (gsel v6 false
    ((C 51 [t8 1, .int .i64 1, .int .i64 19] q5.2.1 (q5.2.2)).bind fun q9 =>
     (un .not q9.1).bind fun v10 =>
     some (put (put (put t8 16 (t8 1)) 17 q9.1) 18 v10, q9.2.1, q9.2.2))
    (some (put (put (put t8 16 (.tuple #[])) 17 (.tuple #[])) 18 (.tuple #[]), q5.2.1, q5.2.2))
  ).bind fun (q7 : R3) =>
  (pickV (q7.1 15) (.bool true) (q7.1 18)).bind fun v11 =>
  let t13 : Tm := put (put q7.1 19 v11) 20 v11
  (gsel v11 false
    ((lenV false (t13 2)).bind fun v14 =>
     (C 62 [t13 1] q7.2.1 (q7.2.2)).bind fun q15 =>
     (binK .plain .neq v14 q15.1).bind fun v16 =>
     some (put (put (put (put (put t13 21 (t13 2)) 22 v14) 23 (t13 1)) 24 q15.1) 25 v16, q15.2.1, q15.2.2))
    (some (put (put (put (put (put t13 21 (.tuple #[])) 22 (.tuple #[])) 23 (.tuple #[])) 24 (.tuple #[])) 25 (.tuple #[]), q7.2.1, q7.2.2))
  ).bind fun (q12 : R3) =>
  (pickV (q12.1 20) (.bool true) (q12.1 25)).bind fun v17 =>
  let t19 : Tm := put (put q12.1 26 v17) 27 v17
  (gsel v17 false
    (iteK ([t19 3].all ptrV) <|
     (C 63 [t19 2, .func (.func 64) #[] ⟨[t19 3]⟩] q12.2.1 (q12.2.2)).bind fun q20 =>
     some (put (put (put t19 28 (t19 2)) 29 (.func (.func 64) #[] ⟨[t19 3]⟩)) 30 q20.1, q20.2.1, q20.2.2))
    (some (put (put (put t19 28 (.tuple #[])) 29 (.tuple #[])) 30 (.tuple #[]), q12.2.1, q12.2.2))
  ).bind fun (q18 : R3) =>
  (pickV (q18.1 27) (.bool true) (q18.1 30)).bind fun v21 =>
  csel v21
    ((bld [nilS] []).bind fun v22 =>
     (st true 1 (q18.1 6) v22 q18.2.1).bind fun H23 =>
     (ld true 1 (q18.1 6) H23).bind fun v24 =>
     iteK ([v24, .int .i64 (-1), .int .i64 1].all notTup) <|
     some (.tuple ⟨[v24, .int .i64 (-1), .int .i64 1]⟩, H23, q18.2.2 + 4))
    ((ld true 1 (q18.1 3) q18.2.1).bind fun v25 =>
     (C 66 [v25] q18.2.1 (q18.2.2 + 4)).bind fun q26 =>
     let H27 := q26.2.1.set (q18.2.2 + 2) (some (.row [nilS] 0 true))
     (st true 1 (ptr (q18.2.2 + 2) 0) q26.1 H27).bind fun H28 =>
     (binK .plain .gtr (q18.1 1) (.int .i64 12)).bind fun v29 =>
     csel v29
       ((ld true 1 (ptr (q18.2.2 + 2) 0) H28).bind fun v30 =>
        (st true 1 (q18.1 6) v30 H28).bind fun H31 =>
        (ld true 1 (q18.1 6) H31).bind fun v32 =>
        iteK ([v32, .int .i64 (-1), .int .i64 2].all notTup) <|
        some (.tuple ⟨[v32, .int .i64 (-1), .int .i64 2]⟩, H31, q26.2.2 + 6))
       ((C 67 [ptr (q18.2.2 + 2) 0, q18.1 1, q18.1 2] H28 (q26.2.2 + 10)).bind fun q33 =>
        (ext 0 q33.1).bind fun v34 =>
        (ext 1 q33.1).bind fun v35 =>
        (binK .plain .neq v35 (.int .i64 0)).bind fun v36 =>
        csel v36
          ((ld true 1 (ptr (q18.2.2 + 2) 0) q33.2.1).bind fun v37 =>
           (st true 1 (q18.1 6) v37 q33.2.1).bind fun H38 =>
           (ld true 1 (q18.1 6) H38).bind fun v39 =>
           iteK ([v39, .int .i64 (-1), v35].all notTup) <|
           some (.tuple ⟨[v39, .int .i64 (-1), v35]⟩, H38, q33.2.2 + 8))
          ((fieldA 0 (ptr (q18.2.2 + 2) 0)).bind fun v40 =>
           (ld false 1 v40 q33.2.1).bind fun v41 =>
           (lenV false v41).bind fun v42 =>
           (binK .plain .gtr v42 (.int .i64 3000)).bind fun v43 =>
           csel v43
             ((ld true 1 (q18.1 3) q33.2.1).bind fun v44 =>
              (C 66 [v44] q33.2.1 (q33.2.2 + 13)).bind fun q45 =>
              (st true 1 (q18.1 6) q45.1 q45.2.1).bind fun H46 =>
              (ld true 1 (q18.1 6) H46).bind fun v47 =>
              iteK ([v47, .int .i64 (-1), .int .i64 5].all notTup) <|
              some (.tuple ⟨[v47, .int .i64 (-1), .int .i64 5]⟩, H46, q45.2.2))
             ((ld true 1 (ptr (q18.2.2 + 2) 0) q33.2.1).bind fun v48 =>
              (st true 1 (q18.1 6) v48 q33.2.1).bind fun H49 =>
              (ld true 1 (q18.1 6) H49).bind fun v50 =>
              iteK ([v50, v34, .int .i64 0].all notTup) <|
              some (.tuple ⟨[v50, v34, .int .i64 0]⟩, H49, q33.2.2 + 13)))))
theorem s16 (C : Calling) (L : Body → Body) (t : Tm) (H : Hp) (n : Nat) : bodyK Try.prog C L Try.f16 t H n = S16 C L t H n := by kernel_rfl
theorem c16 (args : List Value) (H : Hp) (n : Nat) : Call Try.prog 16 args H n = S16 (Call Try.prog) Loop (argsT args) H n := (Call_body Try.func16 args H n).trans (s16 ..)
/-! 17: spec.PrimDo -/
noncomputable def S17L0 (C : Calling) (L : Body → Body) : Body := fun t H n =>
  (lenV false (t 2)).bind fun v17 =>
  (binK .plain .lss (t 9) v17).bind fun v18 =>
  csel v18
    ((ld true 1 (t 3) H).bind fun v19 =>
     (idxA 1 (t 2) (t 9)).bind fun v20 =>
     (ld false 1 v20 H).bind fun v21 =>
     (C 68 [v19, v21] H (n + 11)).bind fun q22 =>
     (un .not q22.1).bind fun v23 =>
     csel v23
       ((bld [nilS] []).bind fun v24 =>
        (st true 1 (t 6) v24 q22.2.1).bind fun H25 =>
        some ⟨.ret, put (put (put (put (put (put (put (put (put (put (put (put (put (put t 24 (t 9)) 25 (t 2)) 26 v17) 27 v18) 30 v19) 31 (t 2)) 32 (t 9)) 33 v20) 34 v21) 35 q22.1) 36 v23) 37 v24) 7 (.int .i64 (-1))) 8 (.int .i64 1), H25, q22.2.2 + 4⟩)
       ((binK .plain .add (t 9) (.int .i64 1)).bind fun v26 =>
        some ⟨.normal, put (put (put (put (put (put (put (put (put (put (put (put (put (put t 24 (t 9)) 25 (t 2)) 26 v17) 27 v18) 30 v19) 31 (t 2)) 32 (t 9)) 33 v20) 34 v21) 35 q22.1) 36 v23) 28 (t 9)) 29 v26) 9 v26, q22.2.1, q22.2.2 + 3⟩))
    (some ⟨(.exit 0), put (put (put (put t 24 (t 9)) 25 (t 2)) 26 v17) 27 v18, H, n + 4⟩)
noncomputable def S17 (C : Calling) (L : Body → Body) (t : Tm) (H : Hp) (n : Nat) : Option (Value × Hp × Nat) :=
  (vcells (t 0)).bind fun c2 =>
  let H1 := H.set (n) (some (.row c2 0 true))
  let H3 := H1.set (n + 1) (some (.row [nilS] 0 true))
  (ld true 1 (ptr (n) 0) H3).bind fun v4 =>
  (C 41 [v4] H3 (n + 14)).bind fun q5 =>
  (un .not q5.1).bind fun v6 =>
  let t8 : Tm := put (put (put (put (put (put (put (put t 3 (ptr (n) 0)) 6 (ptr (n + 1) 0)) 7 (.int .i64 0)) 8 (.int .i64 0)) 13 v4) 14 q5.1) 15 v6) 16 v6
  (gsel v6 false
    ((lenV false (t8 2)).bind fun v9 =>
     (C 60 [t8 1] q5.2.1 (q5.2.2)).bind fun q10 =>
     (binK .plain .neq v9 q10.1).bind fun v11 =>
     some (put (put (put (put (put t8 17 (t8 2)) 18 v9) 19 (t8 1)) 20 q10.1) 21 v11, q10.2.1, q10.2.2))
    (some (put (put (put (put (put t8 17 (.tuple #[])) 18 (.tuple #[])) 19 (.tuple #[])) 20 (.tuple #[])) 21 (.tuple #[]), q5.2.1, q5.2.2))
  ).bind fun (q7 : R3) =>
  (pickV (q7.1 16) (.bool true) (q7.1 21)).bind fun v12 =>
  csel v12
    ((bld [nilS] []).bind fun v13 =>
     (st true 1 (q7.1 6) v13 q7.2.1).bind fun H14 =>
     (ld true 1 (q7.1 6) H14).bind fun v15 =>
     iteK ([v15, .int .i64 (-1), .int .i64 1].all notTup) <|
     some (.tuple ⟨[v15, .int .i64 (-1), .int .i64 1]⟩, H14, q7.2.2 + 4))
    ((L (S17L0 C L) (put (put q7.1 22 v12) 9 (.int .i64 0)) q7.2.1 (q7.2.2 + 1)).bind fun (o16 : Out) =>
     let o27 := outOf 0 o16
     thenK o27
       ((binK .plain .gtr (o27.t 1) (.int .i64 12)).bind fun v28 =>
        csel v28
          ((ld true 1 (o27.t 3) o27.H).bind fun v29 =>
           (C 69 [v29] o27.H (o27.n + 7)).bind fun q30 =>
           (st true 1 (o27.t 6) q30.1 q30.2.1).bind fun H31 =>
           (ld true 1 (o27.t 6) H31).bind fun v32 =>
           iteK ([v32, .int .i64 (-1), .int .i64 2].all notTup) <|
           some (.tuple ⟨[v32, .int .i64 (-1), .int .i64 2]⟩, H31, q30.2.2))
          ((ld true 1 (o27.t 3) o27.H).bind fun v33 =>
           (C 69 [v33] o27.H (o27.n + 6)).bind fun q34 =>
           let H35 := q34.2.1.set (o27.n + 4) (some (.row [nilS] 0 true))
           (st true 1 (ptr (o27.n + 4) 0) q34.1 H35).bind fun H36 =>
           (C 70 [ptr (o27.n + 4) 0, o27.t 1, o27.t 2] H36 (q34.2.2 + 8)).bind fun q37 =>
           (ext 0 q37.1).bind fun v38 =>
           (ext 1 q37.1).bind fun v39 =>
           (binK .plain .neq v39 (.int .i64 0)).bind fun v40 =>
           csel v40
             ((ld true 1 (o27.t 3) q37.2.1).bind fun v41 =>
              (C 69 [v41] q37.2.1 (q37.2.2 + 8)).bind fun q42 =>
              (st true 1 (o27.t 6) q42.1 q42.2.1).bind fun H43 =>
              (ld true 1 (o27.t 6) H43).bind fun v44 =>
              iteK ([v44, .int .i64 (-1), v39].all notTup) <|
              some (.tuple ⟨[v44, .int .i64 (-1), v39]⟩, H43, q42.2.2))
             ((fieldA 0 (ptr (o27.n + 4) 0)).bind fun v45 =>
              (ld false 1 v45 q37.2.1).bind fun v46 =>
              (lenV false v46).bind fun v47 =>
              (binK .plain .gtr v47 (.int .i64 3000)).bind fun v48 =>
              csel v48
                ((ld true 1 (o27.t 3) q37.2.1).bind fun v49 =>
                 (C 69 [v49] q37.2.1 (q37.2.2 + 11)).bind fun q50 =>
                 (st true 1 (o27.t 6) q50.1 q50.2.1).bind fun H51 =>
                 (ld true 1 (o27.t 6) H51).bind fun v52 =>
                 iteK ([v52, .int .i64 (-1), .int .i64 5].all notTup) <|
                 some (.tuple ⟨[v52, .int .i64 (-1), .int .i64 5]⟩, H51, q50.2.2))
                ((ld true 1 (ptr (o27.n + 4) 0) q37.2.1).bind fun v53 =>
                 (st true 1 (o27.t 6) v53 q37.2.1).bind fun H54 =>
                 (ld true 1 (o27.t 6) H54).bind fun v55 =>
                 iteK ([v55, v38, v39].all notTup) <|
                 some (.tuple ⟨[v55, v38, v39]⟩, H54, q37.2.2 + 12)))))
       (finE o27.e
          ((ld true 1 (o27.t 6) o27.H).bind fun v56 =>
           iteK ([v56, o27.t 7, o27.t 8].all notTup) <|
           some (.tuple ⟨[v56, o27.t 7, o27.t 8]⟩, o27.H, o27.n))))
theorem s17 (C : Calling) (L : Body → Body) (t : Tm) (H : Hp) (n : Nat) : bodyK Try.prog C L Try.f17 t H n = S17 C L t H n := by kernel_rfl
theorem c17 (args : List Value) (H : Hp) (n : Nat) : Call Try.prog 17 args H n = S17 (Call Try.prog) Loop (argsT args) H n := (Call_body Try.func17 args H n).trans (s17 ..)
/-! 18: impl.PoolOk -/
noncomputable def S18L0 (C : Calling) (L : Body → Body) : Body := fun t H n =>
  (binK .plain .lss (t 8) (t 7)).bind fun v7 =>
  csel v7
    ((idxA 5 (t 6) (t 8)).bind fun v8 =>
     (ld true 5 v8 H).bind fun v9 =>
     let H10 := H.set (n + 4) (some (.row [.int .i64 0, .int .i64 0, .string ⟨#[]⟩, .int .i64 0, .int .i64 0] 0 true))
     (st true 5 (ptr (n + 4) 0) v9 H10).bind fun H11 =>
     (ld true 5 (ptr (n + 4) 0) H11).bind fun v12 =>
     (C 71 [v12, t 8] H11 (n + 11)).bind fun q13 =>
     (un .not q13.1).bind fun v14 =>
     csel v14
       (some ⟨.ret, put (put (put (put (put (put (put (put (put (put (put t 9 v7) 10 (t 8)) 11 v8) 12 v9) 4 (ptr (n + 4) 0)) 3 (t 8)) 13 v12) 14 (t 8)) 15 q13.1) 16 v14) 2 (.bool false), q13.2.1, q13.2.2 + 1⟩)
       ((binK .plain .add (t 8) (.int .i64 1)).bind fun v15 =>
        some ⟨.normal, put (put (put (put (put (put (put (put (put (put (put (put t 9 v7) 10 (t 8)) 11 v8) 12 v9) 4 (ptr (n + 4) 0)) 3 (t 8)) 13 v12) 14 (t 8)) 15 q13.1) 16 v14) 17 v15) 8 v15, q13.2.1, q13.2.2 + 2⟩))
    (some ⟨(.exit 0), put t 9 v7, H, n + 1⟩)
noncomputable def S18 (C : Calling) (L : Body → Body) (t : Tm) (H : Hp) (n : Nat) : Option (Value × Hp × Nat) :=
  (vcells (t 0)).bind fun c2 =>
  let H1 := H.set (n) (some (.row c2 0 true))
  (fieldA 0 (ptr (n) 0)).bind fun v3 =>
  (ld false 1 v3 H1).bind fun v4 =>
  (lenV false v4).bind fun v5 =>
  (L (S18L0 C L) (put (put (put (put (put (put t 1 (ptr (n) 0)) 2 (.bool false)) 5 v3) 6 v4) 7 v5) 8 (.int .i64 0)) H1 (n + 6)).bind fun (o6 : Out) =>
  let o16 := outOf 0 o6
  thenK o16
    ((fieldA 0 (o16.t 1)).bind fun v17 =>
     (ld false 1 v17 o16.H).bind fun v18 =>
     (lenV false v18).bind fun v19 =>
     (binK .plain .leq v19 (.int .i64 3000)).bind fun v20 =>
     some (v20, o16.H, o16.n + 5))
    (finE o16.e
       (some (o16.t 2, o16.H, o16.n)))
theorem s18 (C : Calling) (L : Body → Body) (t : Tm) (H : Hp) (n : Nat) : bodyK Try.prog C L Try.f18 t H n = S18 C L t H n := by kernel_rfl
theorem c18 (args : List Value) (H : Hp) (n : Nat) : Call Try.prog 18 args H n = S18 (Call Try.prog) Loop (argsT args) H n := (Call_body Try.func18 args H n).trans (s18 ..)
/-! 19: laws.szMachine -/
noncomputable def S19 (C : Calling) (L : Body → Body) (t : Tm) (H : Hp) (n : Nat) : Option (Value × Hp × Nat) :=
  (vcells (t 0)).bind fun c2 =>
  let H1 := H.set (n) (some (.row c2 0 true))
  (fieldA 0 (ptr (n) 0)).bind fun v3 =>
  (ld true 1 v3 H1).bind fun v4 =>
  (C 26 [v4, t 1] H1 (n + 7)).bind fun q5 =>
  (binK .plain .lss q5.1 (.int .i64 0)).bind fun v6 =>
  csel v6
    (some (.int .i64 (-1), q5.2.1, q5.2.2 + 3))
    (some (q5.1, q5.2.1, q5.2.2 + 4))
theorem s19 (C : Calling) (L : Body → Body) (t : Tm) (H : Hp) (n : Nat) : bodyK Try.prog C L Try.f19 t H n = S19 C L t H n := by kernel_rfl
theorem c19 (args : List Value) (H : Hp) (n : Nat) : Call Try.prog 19 args H n = S19 (Call Try.prog) Loop (argsT args) H n := (Call_body Try.func19 args H n).trans (s19 ..)
/-! 20: spec.Tidy -/
noncomputable def S20 (C : Calling) (L : Body → Body) (t : Tm) (H : Hp) (n : Nat) : Option (Value × Hp × Nat) :=
  (vcells (t 0)).bind fun c2 =>
  let H1 := H.set (n) (some (.row c2 0 true))
  let H3 := H1.set (n + 1) (some (.row [nilS, .int .i64 0, .int .i64 0, .int .i64 0, .int .i64 0, .int .i64 0, .int .i64 0, .int .i64 0] 0 true))
  (fieldA 2 (ptr (n) 0)).bind fun v4 =>
  (ld false 1 v4 H3).bind fun v5 =>
  (fieldA 3 (ptr (n) 0)).bind fun v6 =>
  (ld false 1 v6 H3).bind fun v7 =>
  (fieldA 4 (ptr (n) 0)).bind fun v8 =>
  (ld false 1 v8 H3).bind fun v9 =>
  (bsl (n + 8) 1 3 [.int .i64 0] [(0, 1, v5), (1, 1, v7), (2, 1, v9)] H3).bind fun p10 =>
  (fieldA 5 (ptr (n) 0)).bind fun v11 =>
  (ld false 1 v11 p10.2).bind fun v12 =>
  (binK .plain .eql v12 (.int .i64 1)).bind fun v13 =>
  let t15 : Tm := put (put (put (put (put (put (put (put (put (put (put (put (put (put t 1 (ptr (n) 0)) 2 (ptr (n + 1) 0)) 8 v4) 9 v5) 10 v6) 11 v7) 12 v8) 13 v9) 14 p10.1) 3 p10.1) 15 v11) 16 v12) 17 v13) 18 v13
  (gsel v13 false
    ((fieldA 5 (ptr (n) 0)).bind fun v16 =>
     (ld false 1 v16 p10.2).bind fun v17 =>
     (binK .plain .eql v17 (.int .i64 2)).bind fun v18 =>
     some (put (put (put t15 19 v16) 20 v17) 21 v18, p10.2, n + 19))
    (some (put (put (put t15 19 (.tuple #[])) 20 (.tuple #[])) 21 (.tuple #[]), p10.2, n + 19))
  ).bind fun (q14 : R3) =>
  (pickV (q14.1 18) (.bool true) (q14.1 21)).bind fun v19 =>
  let t21 : Tm := put (put (put q14.1 22 v19) 4 v19) 23 v19
  (csel v19
    ((fieldA 7 (t21 1)).bind fun v22 =>
     (ld false 1 v22 q14.2.1).bind fun v23 =>
     (bsl (q14.2.2 + 4) 1 1 [.int .i64 0] [(0, 1, v23)] q14.2.1).bind fun p24 =>
     (app (q14.2.2 + 5) 1 8 (t21 3) p24.1 p24.2).bind fun p25 =>
     some ⟨.normal, put (put (put (put (put (put t21 24 (t21 3)) 25 v22) 26 v23) 27 p24.1) 28 p25.1) 3 p25.1, p25.2, q14.2.2 + 7⟩)
    (some ⟨.normal, t21, q14.2.1, q14.2.2 + 1⟩)
  ).bind fun (o20 : Out) =>
  (fieldA 0 (o20.t 1)).bind fun v26 =>
  (ld true 1 v26 o20.H).bind fun v27 =>
  (C 72 [v27, o20.t 3] o20.H (o20.n + 5)).bind fun q28 =>
  (un .not q28.1).bind fun v29 =>
  csel v29
    ((ld true 8 (o20.t 1) q28.2.1).bind fun v30 =>
     (C 73 [v30] q28.2.1 (q28.2.2 + 3)).bind fun q31 =>
     (st true 8 (o20.t 2) q31.1 q31.2.1).bind fun H32 =>
     (ld true 8 (o20.t 2) H32).bind fun v33 =>
     some (v33, H32, q31.2.2))
    ((ld true 8 (o20.t 1) q28.2.1).bind fun v34 =>
     let H35 := q28.2.1.set (q28.2.2 + 1) (some (.row [nilS, .int .i64 0, .int .i64 0, .int .i64 0, .int .i64 0, .int .i64 0, .int .i64 0, .int .i64 0] 0 true))
     (st true 8 (ptr (q28.2.2 + 1) 0) v34 H35).bind fun H36 =>
     (fieldA 0 (o20.t 1)).bind fun v37 =>
     (ld true 1 v37 H36).bind fun v38 =>
     (C 74 [v38, o20.t 3] H36 (q28.2.2 + 13)).bind fun q39 =>
     (ext 0 q39.1).bind fun v40 =>
     (ext 1 q39.1).bind fun v41 =>
     let H42 := q39.2.1.set (q28.2.2 + 10) (some (.row [nilS] 0 true))
     (st true 1 (ptr (q28.2.2 + 10) 0) v40 H42).bind fun H43 =>
     (ld true 1 (ptr (q28.2.2 + 10) 0) H43).bind fun v44 =>
     (fieldA 0 (ptr (q28.2.2 + 1) 0)).bind fun v45 =>
     (st true 1 v45 v44 H43).bind fun H46 =>
     (idxA 1 v41 (.int .i64 0)).bind fun v47 =>
     (ld false 1 v47 H46).bind fun v48 =>
     (fieldA 2 (ptr (q28.2.2 + 1) 0)).bind fun v49 =>
     (st false 1 v49 v48 H46).bind fun H50 =>
     (idxA 1 v41 (.int .i64 1)).bind fun v51 =>
     (ld false 1 v51 H50).bind fun v52 =>
     (fieldA 3 (ptr (q28.2.2 + 1) 0)).bind fun v53 =>
     (st false 1 v53 v52 H50).bind fun H54 =>
     (idxA 1 v41 (.int .i64 2)).bind fun v55 =>
     (ld false 1 v55 H54).bind fun v56 =>
     (fieldA 4 (ptr (q28.2.2 + 1) 0)).bind fun v57 =>
     (st false 1 v57 v56 H54).bind fun H58 =>
     let t60 : Tm := put (put (put (put (put (put (put (put (put (put (put (put (put (put (put (put (put (put (put (put (put (put (put (put (put (put (put (put (put (put (put o20.t 29 v26) 30 v27) 31 (o20.t 3)) 32 q28.1) 33 v29) 36 v34) 5 (ptr (q28.2.2 + 1) 0)) 38 v37) 39 v38) 40 (o20.t 3)) 41 q39.1) 37 q39.1) 42 v40) 43 v41) 6 (ptr (q28.2.2 + 10) 0)) 7 v41) 44 v44) 45 v45) 46 v41) 47 v47) 48 v48) 49 v49) 50 v41) 51 v51) 52 v52) 53 v53) 54 v41) 55 v55) 56 v56) 57 v57) 58 (o20.t 4)
     (csel (o20.t 4)
       ((idxA 1 v41 (.int .i64 3)).bind fun v61 =>
        (ld false 1 v61 H58).bind fun v62 =>
        (fieldA 7 (ptr (q28.2.2 + 1) 0)).bind fun v63 =>
        (st false 1 v63 v62 H58).bind fun H64 =>
        some ⟨.normal, put (put (put (put t60 59 v41) 60 v61) 61 v62) 62 v63, H64, q39.2.2 + 24⟩)
       (some ⟨.normal, t60, H58, q39.2.2 + 19⟩)
     ).bind fun (o59 : Out) =>
     (ld true 8 (o59.t 5) o59.H).bind fun v65 =>
     (st true 8 (o59.t 2) v65 o59.H).bind fun H66 =>
     (ld true 8 (o59.t 2) H66).bind fun v67 =>
     some (v67, H66, o59.n + 2))
theorem s20 (C : Calling) (L : Body → Body) (t : Tm) (H : Hp) (n : Nat) : bodyK Try.prog C L Try.f20 t H n = S20 C L t H n := by kernel_rfl
theorem c20 (args : List Value) (H : Hp) (n : Nat) : Call Try.prog 20 args H n = S20 (Call Try.prog) Loop (argsT args) H n := (Call_body Try.func20 args H n).trans (s20 ..)
/-! 21: laws.toMachine -/
noncomputable def S21 (C : Calling) (L : Body → Body) (t : Tm) (H : Hp) (n : Nat) : Option (Value × Hp × Nat) :=
  (vcells (t 0)).bind fun c2 =>
  let H1 := H.set (n) (some (.row c2 0 true))
  let H3 := H1.set (n + 1) (some (.row [nilS, .int .i64 0, .int .i64 0, .int .i64 0, .int .i64 0, .int .i64 0, .int .i64 0, .int .i64 0] 0 true))
  let H4 := H3.set (n + 2) (some (.row [nilS, .int .i64 0, .int .i64 0, .int .i64 0, .int .i64 0, .int .i64 0, .int .i64 0, .int .i64 0] 0 true))
  (fieldA 0 (ptr (n) 0)).bind fun v5 =>
  (ld true 1 v5 H4).bind fun v6 =>
  (C 27 [v6] H4 (n + 8)).bind fun q7 =>
  (fieldA 0 (ptr (n + 2) 0)).bind fun v8 =>
  (st true 1 v8 q7.1 q7.2.1).bind fun H9 =>
  (fieldA 1 (ptr (n) 0)).bind fun v10 =>
  (ld false 1 v10 H9).bind fun v11 =>
  (fieldA 1 (ptr (n + 2) 0)).bind fun v12 =>
  (st false 1 v12 v11 H9).bind fun H13 =>
  (fieldA 2 (ptr (n) 0)).bind fun v14 =>
  (ld false 1 v14 H13).bind fun v15 =>
  (fieldA 2 (ptr (n + 2) 0)).bind fun v16 =>
  (st false 1 v16 v15 H13).bind fun H17 =>
  (fieldA 3 (ptr (n) 0)).bind fun v18 =>
  (ld false 1 v18 H17).bind fun v19 =>
  (fieldA 3 (ptr (n + 2) 0)).bind fun v20 =>
  (st false 1 v20 v19 H17).bind fun H21 =>
  (fieldA 4 (ptr (n) 0)).bind fun v22 =>
  (ld false 1 v22 H21).bind fun v23 =>
  (fieldA 4 (ptr (n + 2) 0)).bind fun v24 =>
  (st false 1 v24 v23 H21).bind fun H25 =>
  (fieldA 5 (ptr (n) 0)).bind fun v26 =>
  (ld false 1 v26 H25).bind fun v27 =>
  (fieldA 5 (ptr (n + 2) 0)).bind fun v28 =>
  (st false 1 v28 v27 H25).bind fun H29 =>
  (fieldA 6 (ptr (n) 0)).bind fun v30 =>
  (ld false 1 v30 H29).bind fun v31 =>
  (fieldA 6 (ptr (n + 2) 0)).bind fun v32 =>
  (st false 1 v32 v31 H29).bind fun H33 =>
  (fieldA 7 (ptr (n) 0)).bind fun v34 =>
  (ld false 1 v34 H33).bind fun v35 =>
  (fieldA 7 (ptr (n + 2) 0)).bind fun v36 =>
  (st false 1 v36 v35 H33).bind fun H37 =>
  (ld true 8 (ptr (n + 2) 0) H37).bind fun v38 =>
  (st true 8 (ptr (n + 1) 0) v38 H37).bind fun H39 =>
  (ld true 8 (ptr (n + 1) 0) H39).bind fun v40 =>
  some (v40, H39, q7.2.2 + 30)
theorem s21 (C : Calling) (L : Body → Body) (t : Tm) (H : Hp) (n : Nat) : bodyK Try.prog C L Try.f21 t H n = S21 C L t H n := by kernel_rfl
theorem c21 (args : List Value) (H : Hp) (n : Nat) : Call Try.prog 21 args H n = S21 (Call Try.prog) Loop (argsT args) H n := (Call_body Try.func21 args H n).trans (s21 ..)
/-! 22: impl.Tidy -/
noncomputable def S22 (C : Calling) (L : Body → Body) (t : Tm) (H : Hp) (n : Nat) : Option (Value × Hp × Nat) :=
  (vcells (t 0)).bind fun c2 =>
  let H1 := H.set (n) (some (.row c2 0 true))
  let H3 := H1.set (n + 1) (some (.row [nilS, .int .i64 0, .int .i64 0, .int .i64 0, .int .i64 0, .int .i64 0, .int .i64 0, .int .i64 0] 0 true))
  (fieldA 2 (ptr (n) 0)).bind fun v4 =>
  (ld false 1 v4 H3).bind fun v5 =>
  (fieldA 3 (ptr (n) 0)).bind fun v6 =>
  (ld false 1 v6 H3).bind fun v7 =>
  (fieldA 4 (ptr (n) 0)).bind fun v8 =>
  (ld false 1 v8 H3).bind fun v9 =>
  (bsl (n + 8) 1 3 [.int .i64 0] [(0, 1, v5), (1, 1, v7), (2, 1, v9)] H3).bind fun p10 =>
  (fieldA 5 (ptr (n) 0)).bind fun v11 =>
  (ld false 1 v11 p10.2).bind fun v12 =>
  (binK .plain .eql v12 (.int .i64 1)).bind fun v13 =>
  let t15 : Tm := put (put (put (put (put (put (put (put (put (put (put (put (put (put t 1 (ptr (n) 0)) 2 (ptr (n + 1) 0)) 7 v4) 8 v5) 9 v6) 10 v7) 11 v8) 12 v9) 13 p10.1) 3 p10.1) 14 v11) 15 v12) 16 v13) 17 v13
  (gsel v13 false
    ((fieldA 5 (ptr (n) 0)).bind fun v16 =>
     (ld false 1 v16 p10.2).bind fun v17 =>
     (binK .plain .eql v17 (.int .i64 2)).bind fun v18 =>
     some (put (put (put t15 18 v16) 19 v17) 20 v18, p10.2, n + 19))
    (some (put (put (put t15 18 (.tuple #[])) 19 (.tuple #[])) 20 (.tuple #[]), p10.2, n + 19))
  ).bind fun (q14 : R3) =>
  (pickV (q14.1 17) (.bool true) (q14.1 20)).bind fun v19 =>
  let t21 : Tm := put (put (put q14.1 21 v19) 4 v19) 22 v19
  (csel v19
    ((fieldA 7 (t21 1)).bind fun v22 =>
     (ld false 1 v22 q14.2.1).bind fun v23 =>
     (bsl (q14.2.2 + 4) 1 1 [.int .i64 0] [(0, 1, v23)] q14.2.1).bind fun p24 =>
     (app (q14.2.2 + 5) 1 8 (t21 3) p24.1 p24.2).bind fun p25 =>
     some ⟨.normal, put (put (put (put (put (put t21 23 (t21 3)) 24 v22) 25 v23) 26 p24.1) 27 p25.1) 3 p25.1, p25.2, q14.2.2 + 7⟩)
    (some ⟨.normal, t21, q14.2.1, q14.2.2 + 1⟩)
  ).bind fun (o20 : Out) =>
  (fieldA 0 (o20.t 1)).bind fun v26 =>
  (ld true 1 v26 o20.H).bind fun v27 =>
  (C 75 [v27, o20.t 3] o20.H (o20.n + 5)).bind fun q28 =>
  (un .not q28.1).bind fun v29 =>
  csel v29
    ((ld true 8 (o20.t 1) q28.2.1).bind fun v30 =>
     (C 76 [v30] q28.2.1 (q28.2.2 + 3)).bind fun q31 =>
     (st true 8 (o20.t 2) q31.1 q31.2.1).bind fun H32 =>
     (ld true 8 (o20.t 2) H32).bind fun v33 =>
     some (v33, H32, q31.2.2))
    ((fieldA 0 (o20.t 1)).bind fun v34 =>
     (ld true 1 v34 q28.2.1).bind fun v35 =>
     (C 77 [v35, o20.t 3] q28.2.1 (q28.2.2 + 10)).bind fun q36 =>
     (ext 0 q36.1).bind fun v37 =>
     (ext 1 q36.1).bind fun v38 =>
     let H39 := q36.2.1.set (q28.2.2 + 7) (some (.row [nilS] 0 true))
     (st true 1 (ptr (q28.2.2 + 7) 0) v37 H39).bind fun H40 =>
     (ld true 1 (ptr (q28.2.2 + 7) 0) H40).bind fun v41 =>
     (fieldA 0 (o20.t 1)).bind fun v42 =>
     (st true 1 v42 v41 H40).bind fun H43 =>
     (idxA 1 v38 (.int .i64 0)).bind fun v44 =>
     (ld false 1 v44 H43).bind fun v45 =>
     (idxA 1 v38 (.int .i64 1)).bind fun v46 =>
     (ld false 1 v46 H43).bind fun v47 =>
     (idxA 1 v38 (.int .i64 2)).bind fun v48 =>
     (ld false 1 v48 H43).bind fun v49 =>
     (fieldA 2 (o20.t 1)).bind fun v50 =>
     (st false 1 v50 v45 H43).bind fun H51 =>
     ask (ld false 1 v48 H51 = some v49) <|
     ask (ld false 1 v46 H51 = some v47) <|
     (fieldA 3 (o20.t 1)).bind fun v52 =>
     (st false 1 v52 v47 H51).bind fun H53 =>
     ask (ld false 1 v48 H53 = some v49) <|
     (fieldA 4 (o20.t 1)).bind fun v54 =>
     (st false 1 v54 v49 H53).bind fun H55 =>
     let t57 : Tm := put (put (put (put (put (put (put (put (put (put (put (put (put (put (put (put (put (put (put (put (put (put (put (put (put (put (put (put (put o20.t 28 v26) 29 v27) 30 (o20.t 3)) 31 q28.1) 32 v29) 36 v34) 37 v35) 38 (o20.t 3)) 39 q36.1) 35 q36.1) 40 v37) 41 v38) 5 (ptr (q28.2.2 + 7) 0)) 6 v38) 42 v41) 43 v42) 44 v38) 45 v44) 46 v45) 47 v38) 48 v46) 49 v47) 50 v38) 51 v48) 52 v49) 53 v50) 54 v52) 55 v54) 56 (o20.t 4)
     (csel (o20.t 4)
       ((idxA 1 v38 (.int .i64 3)).bind fun v58 =>
        (ld false 1 v58 H55).bind fun v59 =>
        (fieldA 7 (t57 1)).bind fun v60 =>
        (st false 1 v60 v59 H55).bind fun H61 =>
        some ⟨.normal, put (put (put (put t57 57 v38) 58 v58) 59 v59) 60 v60, H61, q36.2.2 + 24⟩)
       (some ⟨.normal, t57, H55, q36.2.2 + 19⟩)
     ).bind fun (o56 : Out) =>
     (ld true 8 (o56.t 1) o56.H).bind fun v62 =>
     (st true 8 (o56.t 2) v62 o56.H).bind fun H63 =>
     (ld true 8 (o56.t 2) H63).bind fun v64 =>
     some (v64, H63, o56.n + 2))
theorem s22 (C : Calling) (L : Body → Body) (t : Tm) (H : Hp) (n : Nat) : bodyK Try.prog C L Try.f22 t H n = S22 C L t H n := by kernel_rfl
theorem c22 (args : List Value) (H : Hp) (n : Nat) : Call Try.prog 22 args H n = S22 (Call Try.prog) Loop (argsT args) H n := (Call_body Try.func22 args H n).trans (s22 ..)
/-! 23: laws.eqMachine -/
noncomputable def S23 (C : Calling) (L : Body → Body) (t : Tm) (H : Hp) (n : Nat) : Option (Value × Hp × Nat) :=
  (vcells (t 0)).bind fun c2 =>
  let H1 := H.set (n) (some (.row c2 0 true))
  (vcells (t 1)).bind fun c4 =>
  let H3 := H1.set (n + 1) (some (.row c4 0 true))
  (fieldA 0 (ptr (n) 0)).bind fun v5 =>
  (ld true 1 v5 H3).bind fun v6 =>
  (fieldA 0 (ptr (n + 1) 0)).bind fun v7 =>
  (ld true 1 v7 H3).bind fun v8 =>
  (C 29 [v6, v8] H3 (n + 9)).bind fun q9 =>
  (un .not q9.1).bind fun v10 =>
  csel v10
    (some (.bool false, q9.2.1, q9.2.2 + 1))
    ((fieldA 1 (ptr (n) 0)).bind fun v11 =>
     (ld false 1 v11 q9.2.1).bind fun v12 =>
     (fieldA 1 (ptr (n + 1) 0)).bind fun v13 =>
     (ld false 1 v13 q9.2.1).bind fun v14 =>
     (binK .plain .neq v12 v14).bind fun v15 =>
     csel v15
       (some (.bool false, q9.2.1, q9.2.2 + 6))
       ((fieldA 2 (ptr (n) 0)).bind fun v16 =>
        (ld false 1 v16 q9.2.1).bind fun v17 =>
        (fieldA 2 (ptr (n + 1) 0)).bind fun v18 =>
        (ld false 1 v18 q9.2.1).bind fun v19 =>
        (binK .plain .neq v17 v19).bind fun v20 =>
        csel v20
          (some (.bool false, q9.2.1, q9.2.2 + 11))
          ((fieldA 3 (ptr (n) 0)).bind fun v21 =>
           (ld false 1 v21 q9.2.1).bind fun v22 =>
           (fieldA 3 (ptr (n + 1) 0)).bind fun v23 =>
           (ld false 1 v23 q9.2.1).bind fun v24 =>
           (binK .plain .neq v22 v24).bind fun v25 =>
           csel v25
             (some (.bool false, q9.2.1, q9.2.2 + 16))
             ((fieldA 4 (ptr (n) 0)).bind fun v26 =>
              (ld false 1 v26 q9.2.1).bind fun v27 =>
              (fieldA 4 (ptr (n + 1) 0)).bind fun v28 =>
              (ld false 1 v28 q9.2.1).bind fun v29 =>
              (binK .plain .neq v27 v29).bind fun v30 =>
              csel v30
                (some (.bool false, q9.2.1, q9.2.2 + 21))
                ((fieldA 5 (ptr (n) 0)).bind fun v31 =>
                 (ld false 1 v31 q9.2.1).bind fun v32 =>
                 (fieldA 5 (ptr (n + 1) 0)).bind fun v33 =>
                 (ld false 1 v33 q9.2.1).bind fun v34 =>
                 (binK .plain .neq v32 v34).bind fun v35 =>
                 csel v35
                   (some (.bool false, q9.2.1, q9.2.2 + 26))
                   ((fieldA 6 (ptr (n) 0)).bind fun v36 =>
                    (ld false 1 v36 q9.2.1).bind fun v37 =>
                    (fieldA 6 (ptr (n + 1) 0)).bind fun v38 =>
                    (ld false 1 v38 q9.2.1).bind fun v39 =>
                    (binK .plain .neq v37 v39).bind fun v40 =>
                    csel v40
                      (some (.bool false, q9.2.1, q9.2.2 + 31))
                      ((fieldA 7 (ptr (n) 0)).bind fun v41 =>
                       (ld false 1 v41 q9.2.1).bind fun v42 =>
                       (fieldA 7 (ptr (n + 1) 0)).bind fun v43 =>
                       (ld false 1 v43 q9.2.1).bind fun v44 =>
                       (binK .plain .neq v42 v44).bind fun v45 =>
                       csel v45
                         (some (.bool false, q9.2.1, q9.2.2 + 36))
                         (some (.bool true, q9.2.1, q9.2.2 + 36)))))))))
theorem s23 (C : Calling) (L : Body → Body) (t : Tm) (H : Hp) (n : Nat) : bodyK Try.prog C L Try.f23 t H n = S23 C L t H n := by kernel_rfl
theorem c23 (args : List Value) (H : Hp) (n : Nat) : Call Try.prog 23 args H n = S23 (Call Try.prog) Loop (argsT args) H n := (Call_body Try.func23 args H n).trans (s23 ..)
/-! 24: laws.markMachine -/
noncomputable def S24 (C : Calling) (L : Body → Body) (t : Tm) (H : Hp) (n : Nat) : Option (Value × Hp × Nat) :=
  (vcells (t 0)).bind fun c2 =>
  let H1 := H.set (n) (some (.row c2 0 true))
  (fieldA 0 (ptr (n) 0)).bind fun v3 =>
  (ld true 1 v3 H1).bind fun v4 =>
  (C 31 [v4, t 1] H1 (n + 7)).bind fun q5 =>
  some (q5.1, q5.2.1, q5.2.2 + 2)
theorem s24 (C : Calling) (L : Body → Body) (t : Tm) (H : Hp) (n : Nat) : bodyK Try.prog C L Try.f24 t H n = S24 C L t H n := by kernel_rfl
theorem c24 (args : List Value) (H : Hp) (n : Nat) : Call Try.prog 24 args H n = S24 (Call Try.prog) Loop (argsT args) H n := (Call_body Try.func24 args H n).trans (s24 ..)
/-! 25: laws.heldMachine -/
noncomputable def S25 (C : Calling) (L : Body → Body) (t : Tm) (H : Hp) (n : Nat) : Option (Value × Hp × Nat) :=
  (vcells (t 0)).bind fun c2 =>
  let H1 := H.set (n) (some (.row c2 0 true))
  (fieldA 0 (ptr (n) 0)).bind fun v3 =>
  (ld true 1 v3 H1).bind fun v4 =>
  (C 33 [v4, t 1] H1 (n + 7)).bind fun q5 =>
  (binK .plain .lss q5.1 (.int .i64 0)).bind fun v6 =>
  csel v6
    (some (.int .i64 (-1), q5.2.1, q5.2.2 + 3))
    (some (q5.1, q5.2.1, q5.2.2 + 4))
theorem s25 (C : Calling) (L : Body → Body) (t : Tm) (H : Hp) (n : Nat) : bodyK Try.prog C L Try.f25 t H n = S25 C L t H n := by kernel_rfl
theorem c25 (args : List Value) (H : Hp) (n : Nat) : Call Try.prog 25 args H n = S25 (Call Try.prog) Loop (argsT args) H n := (Call_body Try.func25 args H n).trans (s25 ..)
/-! 26: laws.szPool -/
noncomputable def S26 (C : Calling) (L : Body → Body) (t : Tm) (H : Hp) (n : Nat) : Option (Value × Hp × Nat) :=
  (vcells (t 0)).bind fun c2 =>
  let H1 := H.set (n) (some (.row c2 0 true))
  (fieldA 0 (ptr (n) 0)).bind fun v3 =>
  (ld false 1 v3 H1).bind fun v4 =>
  (C 78 [v4, t 1] H1 (n + 7)).bind fun q5 =>
  (binK .plain .lss q5.1 (.int .i64 0)).bind fun v6 =>
  csel v6
    (some (.int .i64 (-1), q5.2.1, q5.2.2 + 3))
    (some (q5.1, q5.2.1, q5.2.2 + 4))
theorem s26 (C : Calling) (L : Body → Body) (t : Tm) (H : Hp) (n : Nat) : bodyK Try.prog C L Try.f26 t H n = S26 C L t H n := by kernel_rfl
theorem c26 (args : List Value) (H : Hp) (n : Nat) : Call Try.prog 26 args H n = S26 (Call Try.prog) Loop (argsT args) H n := (Call_body Try.func26 args H n).trans (s26 ..)
/-! 27: laws.toPool -/
noncomputable def S27 (C : Calling) (L : Body → Body) (t : Tm) (H : Hp) (n : Nat) : Option (Value × Hp × Nat) :=
  (vcells (t 0)).bind fun c2 =>
  let H1 := H.set (n) (some (.row c2 0 true))
  let H3 := H1.set (n + 1) (some (.row [nilS] 0 true))
  let H4 := H3.set (n + 2) (some (.row [nilS] 0 true))
  (fieldA 0 (ptr (n) 0)).bind fun v5 =>
  (ld false 1 v5 H4).bind fun v6 =>
  (C 79 [v6] H4 (n + 8)).bind fun q7 =>
  (fieldA 0 (ptr (n + 2) 0)).bind fun v8 =>
  (st false 1 v8 q7.1 q7.2.1).bind fun H9 =>
  (ld true 1 (ptr (n + 2) 0) H9).bind fun v10 =>
  (st true 1 (ptr (n + 1) 0) v10 H9).bind fun H11 =>
  (ld true 1 (ptr (n + 1) 0) H11).bind fun v12 =>
  some (v12, H11, q7.2.2 + 2)
theorem s27 (C : Calling) (L : Body → Body) (t : Tm) (H : Hp) (n : Nat) : bodyK Try.prog C L Try.f27 t H n = S27 C L t H n := by kernel_rfl
theorem c27 (args : List Value) (H : Hp) (n : Nat) : Call Try.prog 27 args H n = S27 (Call Try.prog) Loop (argsT args) H n := (Call_body Try.func27 args H n).trans (s27 ..)
/-! 28: laws.toIntS -/
noncomputable def S28L0 (C : Calling) (L : Body → Body) : Body := fun t H n =>
  (lenV false (t 0)).bind fun v4 =>
  (binK .plain .lss (t 4) v4).bind fun v5 =>
  csel v5
    ((idxA 1 (t 0) (t 4)).bind fun v6 =>
     (ld false 1 v6 H).bind fun v7 =>
     (idxA 1 (t 3) (t 4)).bind fun v8 =>
     (st false 1 v8 v7 H).bind fun H9 =>
     (binK .plain .add (t 4) (.int .i64 1)).bind fun v10 =>
     some ⟨.normal, put (put (put (put (put (put (put (put (put (put (put (put (put (put t 8 (t 4)) 9 (t 0)) 10 v4) 11 v5) 14 (t 3)) 15 (t 4)) 16 (t 0)) 17 (t 4)) 18 v6) 19 v7) 20 v8) 12 (t 4)) 13 v10) 4 v10, H9, n + 15⟩)
    (some ⟨(.exit 0), put (put (put (put t 8 (t 4)) 9 (t 0)) 10 v4) 11 v5, H, n + 4⟩)
noncomputable def S28 (C : Calling) (L : Body → Body) (t : Tm) (H : Hp) (n : Nat) : Option (Value × Hp × Nat) :=
  (lenV false (t 0)).bind fun v1 =>
  (mks (n + 3) 1 8 [.int .i64 0] v1 v1 H).bind fun p2 =>
  (L (S28L0 C L) (put (put (put (put (put (put t 2 nilS) 5 (t 0)) 6 v1) 7 p2.1) 3 p2.1) 4 (.int .i64 0)) p2.2 (n + 6)).bind fun (o3 : Out) =>
  some (o3.t 3, o3.H, o3.n + 2)
theorem s28 (C : Calling) (L : Body → Body) (t : Tm) (H : Hp) (n : Nat) : bodyK Try.prog C L Try.f28 t H n = S28 C L t H n := by kernel_rfl
theorem c28 (args : List Value) (H : Hp) (n : Nat) : Call Try.prog 28 args H n = S28 (Call Try.prog) Loop (argsT args) H n := (Call_body Try.func28 args H n).trans (s28 ..)
/-! 29: laws.eqPool -/
noncomputable def S29 (C : Calling) (L : Body → Body) (t : Tm) (H : Hp) (n : Nat) : Option (Value × Hp × Nat) :=
  (vcells (t 0)).bind fun c2 =>
  let H1 := H.set (n) (some (.row c2 0 true))
  (vcells (t 1)).bind fun c4 =>
  let H3 := H1.set (n + 1) (some (.row c4 0 true))
  (fieldA 0 (ptr (n) 0)).bind fun v5 =>
  (ld false 1 v5 H3).bind fun v6 =>
  (fieldA 0 (ptr (n + 1) 0)).bind fun v7 =>
  (ld false 1 v7 H3).bind fun v8 =>
  (C 80 [v6, v8] H3 (n + 9)).bind fun q9 =>
  (un .not q9.1).bind fun v10 =>
  csel v10
    (some (.bool false, q9.2.1, q9.2.2 + 1))
    (some (.bool true, q9.2.1, q9.2.2 + 1))
theorem s29 (C : Calling) (L : Body → Body) (t : Tm) (H : Hp) (n : Nat) : bodyK Try.prog C L Try.f29 t H n = S29 C L t H n := by kernel_rfl
theorem c29 (args : List Value) (H : Hp) (n : Nat) : Call Try.prog 29 args H n = S29 (Call Try.prog) Loop (argsT args) H n := (Call_body Try.func29 args H n).trans (s29 ..)
/-! 30: laws.eqIntS -/
noncomputable def S30L0 (C : Calling) (L : Body → Body) : Body := fun t H n =>
  (lenV false (t 0)).bind fun v5 =>
  (binK .plain .lss (t 5) v5).bind fun v6 =>
  csel v6
    ((idxA 1 (t 0) (t 5)).bind fun v7 =>
     (ld false 1 v7 H).bind fun v8 =>
     (idxA 1 (t 1) (t 5)).bind fun v9 =>
     (ld false 1 v9 H).bind fun v10 =>
     (binK .plain .neq v8 v10).bind fun v11 =>
     csel v11
       (some ⟨.ret, put (put (put (put (put (put (put (put (put (put (put (put (put (put t 11 (t 5)) 12 (t 0)) 13 v5) 14 v6) 17 (t 0)) 18 (t 5)) 19 v7) 20 v8) 21 (t 1)) 22 (t 5)) 23 v9) 24 v10) 25 v11) 4 (.bool false), H, n + 14⟩)
       ((binK .plain .add (t 5) (.int .i64 1)).bind fun v12 =>
        some ⟨.normal, put (put (put (put (put (put (put (put (put (put (put (put (put (put (put (put t 11 (t 5)) 12 (t 0)) 13 v5) 14 v6) 17 (t 0)) 18 (t 5)) 19 v7) 20 v8) 21 (t 1)) 22 (t 5)) 23 v9) 24 v10) 25 v11) 15 (t 5)) 16 v12) 5 v12, H, n + 16⟩))
    (some ⟨(.exit 0), put (put (put (put t 11 (t 5)) 12 (t 0)) 13 v5) 14 v6, H, n + 4⟩)
noncomputable def S30 (C : Calling) (L : Body → Body) (t : Tm) (H : Hp) (n : Nat) : Option (Value × Hp × Nat) :=
  (lenV false (t 0)).bind fun v1 =>
  (lenV false (t 1)).bind fun v2 =>
  (binK .plain .neq v1 v2).bind fun v3 =>
  csel v3
    (some (.bool false, H, n + 7))
    ((L (S30L0 C L) (put (put (put (put (put (put (put t 4 (.bool false)) 6 (t 0)) 7 v1) 8 (t 1)) 9 v2) 10 v3) 5 (.int .i64 0)) H (n + 7)).bind fun (o4 : Out) =>
     let o13 := outOf 0 o4
     thenK o13
       (some (.bool true, o13.H, o13.n + 1))
       (finE o13.e
          (some (o13.t 4, o13.H, o13.n))))
theorem s30 (C : Calling) (L : Body → Body) (t : Tm) (H : Hp) (n : Nat) : bodyK Try.prog C L Try.f30 t H n = S30 C L t H n := by kernel_rfl
theorem c30 (args : List Value) (H : Hp) (n : Nat) : Call Try.prog 30 args H n = S30 (Call Try.prog) Loop (argsT args) H n := (Call_body Try.func30 args H n).trans (s30 ..)
/-! 31: laws.markPool -/
noncomputable def S31 (C : Calling) (L : Body → Body) (t : Tm) (H : Hp) (n : Nat) : Option (Value × Hp × Nat) :=
  (vcells (t 0)).bind fun c2 =>
  let H1 := H.set (n) (some (.row c2 0 true))
  (fieldA 0 (ptr (n) 0)).bind fun v3 =>
  (ld false 1 v3 H1).bind fun v4 =>
  (C 81 [v4, t 1] H1 (n + 7)).bind fun q5 =>
  some (q5.1, q5.2.1, q5.2.2 + 2)
theorem s31 (C : Calling) (L : Body → Body) (t : Tm) (H : Hp) (n : Nat) : bodyK Try.prog C L Try.f31 t H n = S31 C L t H n := by kernel_rfl
theorem c31 (args : List Value) (H : Hp) (n : Nat) : Call Try.prog 31 args H n = S31 (Call Try.prog) Loop (argsT args) H n := (Call_body Try.func31 args H n).trans (s31 ..)
/-! 32: laws.markIntS -/
noncomputable def S32L0 (C : Calling) (L : Body → Body) : Body := fun t H n =>
  (lenV false (t 0)).bind fun v2 =>
  (binK .plain .lss (t 5) v2).bind fun v3 =>
  csel v3
    ((idxA 1 (t 0) (t 5)).bind fun v4 =>
     (st false 1 v4 (t 1) H).bind fun H5 =>
     (binK .plain .add (t 1) (.int .i64 1)).bind fun v6 =>
     (binK .plain .add (t 5) (.int .i64 1)).bind fun v7 =>
     some ⟨.normal, put (put (put (put (put (put (put (put (put (put (put (put (put (put t 6 (t 5)) 7 (t 0)) 8 v2) 9 v3) 12 (t 0)) 13 (t 5)) 14 (t 1)) 15 v4) 16 (t 1)) 17 v6) 1 v6) 10 (t 5)) 11 v7) 5 v7, H5, n + 15⟩)
    (some ⟨(.exit 0), put (put (put (put t 6 (t 5)) 7 (t 0)) 8 v2) 9 v3, H, n + 4⟩)
noncomputable def S32 (C : Calling) (L : Body → Body) (t : Tm) (H : Hp) (n : Nat) : Option (Value × Hp × Nat) :=
  (L (S32L0 C L) (put (put t 4 (.int .i64 0)) 5 (.int .i64 0)) H (n + 2)).bind fun (o1 : Out) =>
  some (o1.t 1, o1.H, o1.n + 2)
theorem s32 (C : Calling) (L : Body → Body) (t : Tm) (H : Hp) (n : Nat) : bodyK Try.prog C L Try.f32 t H n = S32 C L t H n := by kernel_rfl
theorem c32 (args : List Value) (H : Hp) (n : Nat) : Call Try.prog 32 args H n = S32 (Call Try.prog) Loop (argsT args) H n := (Call_body Try.func32 args H n).trans (s32 ..)
end Go.Proofs.Ytpiicpcofjhakaa.Ax
