/- What the bodies of some functions of the program come to in the abstract machine. -/
import Derived.Test.YtpiicpcofjhakaaProg
import Derived.Test.YtpiicpcofjhakaaAx3
set_option linter.unusedVariables false
namespace Go.Proofs.Ytpiicpcofjhakaa.Ax
open Go
set_option maxRecDepth 100000
/-! 4: laws.FnPrims -/
noncomputable def S4 (C : Calling) (L : Body → Body) (t : Tm) (H : Hp) (n : Nat) : Option (Value × Hp × Nat) :=
  (C 14 [t 0] H (n + 3)).bind fun q1 =>
  csel q1.1
    (some (.bool true, q1.2.1, q1.2.2 + 1))
    ((C 15 [t 0] q1.2.1 (q1.2.2 + 10)).bind fun q2 =>
     (ext 0 q2.1).bind fun v3 =>
     (ext 1 q2.1).bind fun v4 =>
     (ext 2 q2.1).bind fun v5 =>
     let H6 := q2.2.1.set (q1.2.2 + 6) (some (.row [nilS] 0 true))
     (st true 1 (ptr (q1.2.2 + 6) 0) v3 H6).bind fun H7 =>
     (ld true 1 (ptr (q1.2.2 + 6) 0) H7).bind fun v8 =>
     (C 16 [v8, v4, v5] H7 (q2.2.2 + 12)).bind fun q9 =>
     (ext 0 q9.1).bind fun v10 =>
     (ext 1 q9.1).bind fun v11 =>
     (ext 2 q9.1).bind fun v12 =>
     let H13 := q9.2.1.set (q2.2.2 + 8) (some (.row [nilS] 0 true))
     (st true 1 (ptr (q2.2.2 + 8) 0) v10 H13).bind fun H14 =>
     (ld true 1 (ptr (q1.2.2 + 6) 0) H14).bind fun v15 =>
     (C 17 [v15, v4, v5] H14 (q9.2.2 + 12)).bind fun q16 =>
     (ext 0 q16.1).bind fun v17 =>
     (ext 1 q16.1).bind fun v18 =>
     (ext 2 q16.1).bind fun v19 =>
     let H20 := q16.2.1.set (q9.2.2 + 8) (some (.row [nilS] 0 true))
     (st true 1 (ptr (q9.2.2 + 8) 0) v17 H20).bind fun H21 =>
     (binK .plain .neq v12 v19).bind fun v22 =>
     let t24 : Tm := put (put (put (put (put (put (put (put (put (put (put (put (put (put (put (put (put (put (put (put (put (put (put (put (put (put (put (put (put (put (put (put (put (put (put (put (put (put t 2 (.bool false)) 24 (t 0)) 25 q1.1) 27 (t 0)) 28 q2.1) 26 q2.1) 29 v3) 30 v4) 31 v5) 3 (ptr (q1.2.2 + 6) 0)) 4 v4) 5 v5) 33 v8) 34 v4) 35 v5) 36 q9.1) 32 q9.1) 37 v10) 38 v11) 39 v12) 6 (ptr (q2.2.2 + 8) 0)) 7 v11) 8 v12) 41 v15) 42 v4) 43 v5) 44 q16.1) 40 q16.1) 45 v17) 46 v18) 47 v19) 9 (ptr (q9.2.2 + 8) 0)) 10 v18) 11 v19) 48 v12) 49 v19) 50 v22) 51 v22
     (gsel v22 false
       ((binK .plain .neq v11 v18).bind fun v25 =>
        some (put (put (put t24 52 v11) 53 v18) 54 v25, H21, q16.2.2 + 8))
       (some (put (put (put t24 52 (.tuple #[])) 53 (.tuple #[])) 54 (.tuple #[]), H21, q16.2.2 + 8))
     ).bind fun (q23 : R3) =>
     (pickV (q23.1 51) (.bool true) (q23.1 54)).bind fun v26 =>
     csel v26
       (some (.bool false, q23.2.1, q23.2.2 + 1))
       ((binK .plain .neq (q23.1 8) (.int .i64 0)).bind fun v27 =>
        csel v27
          ((binK .plain .eql (q23.1 7) (.int .i64 (-1))).bind fun v28 =>
           let t30 : Tm := put (put (put (put (put (put q23.1 55 v26) 56 (q23.1 8)) 57 v27) 58 (q23.1 7)) 59 v28) 60 v28
           (gsel v28 true
             ((fieldA 0 (t30 6)).bind fun v31 =>
              (ld false 1 v31 q23.2.1).bind fun v32 =>
              (lenV false v32).bind fun v33 =>
              (fieldA 0 (t30 3)).bind fun v34 =>
              (ld false 1 v34 q23.2.1).bind fun v35 =>
              (lenV false v35).bind fun v36 =>
              (binK .plain .eql v33 v36).bind fun v37 =>
              some (put (put (put (put (put (put (put (put t30 61 v31) 62 v32) 63 v33) 64 v34) 65 v35) 66 v36) 67 v37) 68 v37, q23.2.1, q23.2.2 + 20))
             (some (put (put (put (put (put (put (put (put t30 61 (.tuple #[])) 62 (.tuple #[])) 63 (.tuple #[])) 64 (.tuple #[])) 65 (.tuple #[])) 66 (.tuple #[])) 67 (.tuple #[])) 68 (.tuple #[]), q23.2.1, q23.2.2 + 20))
           ).bind fun (q29 : R3) =>
           let t39 : Tm := q29.1
           (gsel (q29.1 68) false
             ((fieldA 0 (t39 6)).bind fun v40 =>
              (ld false 1 v40 q29.2.1).bind fun v41 =>
              (lenV false v41).bind fun v42 =>
              (binK .plain .eql v42 (.int .i64 0)).bind fun v43 =>
              some (put (put (put (put t39 69 v40) 70 v41) 71 v42) 72 v43, q29.2.1, q29.2.2))
             (some (put (put (put (put t39 69 (.tuple #[])) 70 (.tuple #[])) 71 (.tuple #[])) 72 (.tuple #[]), q29.2.1, q29.2.2))
           ).bind fun (q38 : R3) =>
           let t45 : Tm := q38.1
           (gsel (q38.1 60) true
             ((pickV (t45 68) (.bool true) (t45 72)).bind fun v46 =>
              some (put t45 73 v46, q38.2.1, q38.2.2))
             (some (put t45 73 (.tuple #[]), q38.2.1, q38.2.2))
           ).bind fun (q44 : R3) =>
           (pickV (q44.1 60) (q44.1 73) (.bool false)).bind fun v47 =>
           some (v47, q44.2.1, q44.2.2))
          ((binK .plain .lss (q23.1 7) (.int .i64 0)).bind fun v48 =>
           let t50 : Tm := put (put (put (put (put (put q23.1 55 v26) 56 (q23.1 8)) 57 v27) 75 (q23.1 7)) 76 v48) 77 v48
           (gsel v48 false
             ((fieldA 0 (t50 6)).bind fun v51 =>
              (ld false 1 v51 q23.2.1).bind fun v52 =>
              (lenV false v52).bind fun v53 =>
              (binK .plain .geq (t50 7) v53).bind fun v54 =>
              some (put (put (put (put (put t50 78 (t50 7)) 79 v51) 80 v52) 81 v53) 82 v54, q23.2.1, q23.2.2 + 16))
             (some (put (put (put (put (put t50 78 (.tuple #[])) 79 (.tuple #[])) 80 (.tuple #[])) 81 (.tuple #[])) 82 (.tuple #[]), q23.2.1, q23.2.2 + 16))
           ).bind fun (q49 : R3) =>
           (pickV (q49.1 77) (.bool true) (q49.1 82)).bind fun v55 =>
           let t57 : Tm := put (put q49.1 83 v55) 84 v55
           (gsel v55 false
             ((ld true 1 (t57 6) q49.2.1).bind fun v58 =>
              (C 18 [v58] q49.2.1 (q49.2.2)).bind fun q59 =>
              (un .not q59.1).bind fun v60 =>
              some (put (put (put t57 85 v58) 86 q59.1) 87 v60, q59.2.1, q59.2.2))
             (some (put (put (put t57 85 (.tuple #[])) 86 (.tuple #[])) 87 (.tuple #[]), q49.2.1, q49.2.2))
           ).bind fun (q56 : R3) =>
           (pickV (q56.1 84) (.bool true) (q56.1 87)).bind fun v61 =>
           csel v61
             (some (.bool false, q56.2.1, q56.2.2 + 1))
             ((binK .plain .eql (q56.1 4) (.int .i64 6)).bind fun v62 =>
              csel v62
                ((ld true 1 (q56.1 6) q56.2.1).bind fun v63 =>
                 (bsl (q56.2.2 + 5) 1 1 [.int .i64 0] [(0, 1, q56.1 7)] q56.2.1).bind fun p64 =>
                 (C 16 [v63, .int .i64 7, p64.1] p64.2 (q56.2.2 + 15)).bind fun q65 =>
                 (ext 0 q65.1).bind fun v66 =>
                 (ext 1 q65.1).bind fun v67 =>
                 (ext 2 q65.1).bind fun v68 =>
                 let H69 := q65.2.1.set (q56.2.2 + 11) (some (.row [nilS] 0 true))
                 (st true 1 (ptr (q56.2.2 + 11) 0) v66 H69).bind fun H70 =>
                 (ld true 1 (q56.1 6) H70).bind fun v71 =>
                 (bsl (q65.2.2 + 2) 1 1 [.int .i64 0] [(0, 1, q56.1 7)] H70).bind fun p72 =>
                 (C 16 [v71, .int .i64 8, p72.1] p72.2 (q65.2.2 + 12)).bind fun q73 =>
                 (ext 0 q73.1).bind fun v74 =>
                 (ext 1 q73.1).bind fun v75 =>
                 (ext 2 q73.1).bind fun v76 =>
                 let H77 := q73.2.1.set (q65.2.2 + 8) (some (.row [nilS] 0 true))
                 (st true 1 (ptr (q65.2.2 + 8) 0) v74 H77).bind fun H78 =>
                 (binK .plain .eql v68 (.int .i64 0)).bind fun v79 =>
                 let t81 : Tm := put (put (put (put (put (put (put (put (put (put (put (put (put (put (put (put (put (put (put (put (put (put (put (put (put (put (put (put (put q56.1 88 v61) 89 (q56.1 4)) 91 v62) 90 v62) 93 v63) 94 (q56.1 7)) 95 p64.1) 96 q65.1) 92 q65.1) 97 v66) 98 v67) 99 v68) 12 (ptr (q56.2.2 + 11) 0)) 13 v67) 14 v68) 101 v71) 102 (q56.1 7)) 103 p72.1) 104 q73.1) 100 q73.1) 105 v74) 106 v75) 107 v76) 15 (ptr (q65.2.2 + 8) 0)) 16 v75) 17 v76) 108 v68) 109 v79) 110 v79
                 (gsel v79 true
                   ((binK .plain .eql v76 (.int .i64 0)).bind fun v82 =>
                    some (put (put t81 111 v76) 112 v82, H78, q73.2.2 + 21))
                   (some (put (put t81 111 (.tuple #[])) 112 (.tuple #[]), H78, q73.2.2 + 21))
                 ).bind fun (q80 : R3) =>
                 (pickV (q80.1 110) (q80.1 112) (.bool false)).bind fun v83 =>
                 let t85 : Tm := put (put q80.1 113 v83) 114 v83
                 (gsel v83 true
                   ((idxA 1 (t85 5) (.int .i64 0)).bind fun v86 =>
                    (ld false 1 v86 q80.2.1).bind fun v87 =>
                    (binK .plain .eql (t85 13) v87).bind fun v88 =>
                    some (put (put (put (put (put t85 115 (t85 13)) 116 (t85 5)) 117 v86) 118 v87) 119 v88, q80.2.1, q80.2.2))
                   (some (put (put (put (put (put t85 115 (.tuple #[])) 116 (.tuple #[])) 117 (.tuple #[])) 118 (.tuple #[])) 119 (.tuple #[]), q80.2.1, q80.2.2))
                 ).bind fun (q84 : R3) =>
                 (pickV (q84.1 114) (q84.1 119) (.bool false)).bind fun v89 =>
                 let t91 : Tm := put (put q84.1 120 v89) 121 v89
                 (gsel v89 true
                   ((idxA 1 (t91 5) (.int .i64 1)).bind fun v92 =>
                    (ld false 1 v92 q84.2.1).bind fun v93 =>
                    (binK .plain .eql (t91 16) v93).bind fun v94 =>
                    some (put (put (put (put (put t91 122 (t91 16)) 123 (t91 5)) 124 v92) 125 v93) 126 v94, q84.2.1, q84.2.2))
                   (some (put (put (put (put (put t91 122 (.tuple #[])) 123 (.tuple #[])) 124 (.tuple #[])) 125 (.tuple #[])) 126 (.tuple #[]), q84.2.1, q84.2.2))
                 ).bind fun (q90 : R3) =>
                 (pickV (q90.1 121) (q90.1 126) (.bool false)).bind fun v95 =>
                 some (v95, q90.2.1, q90.2.2))
                ((binK .plain .eql (q56.1 4) (.int .i64 1)).bind fun v96 =>
                 csel v96
                   ((ld true 1 (q56.1 6) q56.2.1).bind fun v97 =>
                    (idxA 1 (q56.1 5) (.int .i64 0)).bind fun v98 =>
                    (ld false 1 v98 q56.2.1).bind fun v99 =>
                    (bsl (q56.2.2 + 10) 1 2 [.int .i64 0] [(0, 1, q56.1 7), (1, 1, v99)] q56.2.1).bind fun p100 =>
                    (C 16 [v97, .int .i64 2, p100.1] p100.2 (q56.2.2 + 20)).bind fun q101 =>
                    (ext 0 q101.1).bind fun v102 =>
                    (ext 1 q101.1).bind fun v103 =>
                    (ext 2 q101.1).bind fun v104 =>
                    let H105 := q101.2.1.set (q56.2.2 + 16) (some (.row [nilS] 0 true))
                    (st true 1 (ptr (q56.2.2 + 16) 0) v102 H105).bind fun H106 =>
                    (binK .plain .eql v104 (.int .i64 5)).bind fun v107 =>
                    let t109 : Tm := put (put (put (put (put (put (put (put (put (put (put (put (put (put (put (put (put (put (put (put (put (put (put q56.1 88 v61) 89 (q56.1 4)) 91 v62) 90 v62) 129 v96) 128 v96) 131 v97) 132 (q56.1 7)) 133 (q56.1 5)) 134 v98) 135 v99) 136 p100.1) 137 q101.1) 130 q101.1) 138 v102) 139 v103) 140 v104) 18 (ptr (q56.2.2 + 16) 0)) 19 v103) 20 v104) 141 v104) 142 v107) 143 v107
                    (gsel v107 false
                      ((binK .plain .eql v104 (.int .i64 0)).bind fun v110 =>
                       some ⟨put (put (put t109 144 v104) 145 v110) 146 v110, H106, q101.2.2 + 24, [], []⟩)
                      (some ⟨put (put (put t109 144 (.tuple #[])) 145 (.tuple #[])) 146 (.tuple #[]), H106, q101.2.2 + 24, [], []⟩)
                    ).bind fun (q108 : R5) =>
                    let t112 : Tm := q108.t
                    (gsel (q108.t 146) true
                      ((fieldA 0 (t112 18)).bind fun v113 =>
                       (ld false 1 v113 q108.H).bind fun v114 =>
                       askB 127 false 1 v113 v114 q108.hs <|
                       (idxA 5 v114 (t112 19)).bind fun v115 =>
                       (fieldA 1 v115).bind fun v116 =>
                       (ld false 1 v116 q108.H).bind fun v117 =>
                       askB 2047 false 1 v116 v117 q108.hs <|
                       (fieldA 0 (t112 6)).bind fun v118 =>
                       (ld false 1 v118 q108.H).bind fun v119 =>
                       askB 4159 false 1 v118 v119 q108.hs <|
                       (idxA 1 (t112 5) (.int .i64 1)).bind fun v120 =>
                       (ld false 1 v120 q108.H).bind fun v121 =>
                       askB 49215 false 1 v120 v121 q108.hs <|
                       (idxA 5 v119 v121).bind fun v122 =>
                       (fieldA 1 v122).bind fun v123 =>
                       (ld false 1 v123 q108.H).bind fun v124 =>
                       askB 520255 false 1 v123 v124 q108.hs <|
                       (binK .plain .eql v117 v124).bind fun v125 =>
                       some ⟨put (put (put (put (put (put (put (put (put (put (put (put (put (put (put t112 147 v113) 148 v114) 149 (t112 19)) 150 v115) 151 v116) 152 v117) 153 v118) 154 v119) 155 (t112 5)) 156 v120) 157 v121) 158 v122) 159 v123) 160 v124) 161 v125, q108.H, q108.n, (⟨19, false, 1, v123, v124⟩ :: ⟨16, false, 1, v120, v121⟩ :: ⟨13, false, 1, v118, v119⟩ :: ⟨11, false, 1, v116, v117⟩ :: ⟨7, false, 1, v113, v114⟩ :: q108.rs), q108.hs⟩)
                      (some ⟨put (put (put (put (put (put (put (put (put (put (put (put (put (put (put t112 147 (.tuple #[])) 148 (.tuple #[])) 149 (.tuple #[])) 150 (.tuple #[])) 151 (.tuple #[])) 152 (.tuple #[])) 153 (.tuple #[])) 154 (.tuple #[])) 155 (.tuple #[])) 156 (.tuple #[])) 157 (.tuple #[])) 158 (.tuple #[])) 159 (.tuple #[])) 160 (.tuple #[])) 161 (.tuple #[]), q108.H, q108.n, q108.rs, q108.hs⟩)
                    ).bind fun (q111 : R5) =>
                    let t127 : Tm := q111.t
                    (gsel (q111.t 143) false
                      ((pickV (t127 146) (t127 161) (.bool false)).bind fun v128 =>
                       some ⟨put t127 162 v128, q111.H, q111.n, q111.rs, q111.hs⟩)
                      (some ⟨put t127 162 (.tuple #[]), q111.H, q111.n, q111.rs, q111.hs⟩)
                    ).bind fun (q126 : R5) =>
                    (pickV (q126.t 143) (.bool true) (q126.t 162)).bind fun v129 =>
                    some (v129, q126.H, q126.n))
                   ((binK .plain .eql (q56.1 4) (.int .i64 12)).bind fun v130 =>
                    csel v130
                      ((ld true 1 (q56.1 6) q56.2.1).bind fun v131 =>
                       (bsl (q56.2.2 + 9) 1 1 [.int .i64 0] [(0, 1, q56.1 7)] q56.2.1).bind fun p132 =>
                       (C 16 [v131, .int .i64 12, p132.1] p132.2 (q56.2.2 + 19)).bind fun q133 =>
                       (ext 0 q133.1).bind fun v134 =>
                       (ext 1 q133.1).bind fun v135 =>
                       (ext 2 q133.1).bind fun v136 =>
                       let H137 := q133.2.1.set (q56.2.2 + 15) (some (.row [nilS] 0 true))
                       (st true 1 (ptr (q56.2.2 + 15) 0) v134 H137).bind fun H138 =>
                       (binK .plain .eql v136 (.int .i64 5)).bind fun v139 =>
                       let t141 : Tm := put (put (put (put (put (put (put (put (put (put (put (put (put (put (put (put (put (put (put (put (put (put q56.1 88 v61) 89 (q56.1 4)) 91 v62) 90 v62) 129 v96) 128 v96) 165 v130) 164 v130) 167 v131) 168 (q56.1 7)) 169 p132.1) 170 q133.1) 166 q133.1) 171 v134) 172 v135) 173 v136) 21 (ptr (q56.2.2 + 15) 0)) 22 v135) 23 v136) 174 v136) 175 v139) 176 v139
                       (gsel v139 false
                         ((binK .plain .eql v136 (.int .i64 0)).bind fun v142 =>
                          some ⟨put (put (put t141 177 v136) 178 v142) 179 v142, H138, q133.2.2 + 23, [], []⟩)
                         (some ⟨put (put (put t141 177 (.tuple #[])) 178 (.tuple #[])) 179 (.tuple #[]), H138, q133.2.2 + 23, [], []⟩)
                       ).bind fun (q140 : R5) =>
                       let t144 : Tm := q140.t
                       (gsel (q140.t 179) true
                         ((fieldA 0 (t144 21)).bind fun v145 =>
                          (ld false 1 v145 q140.H).bind fun v146 =>
                          askB 127 false 1 v145 v146 q140.hs <|
                          (idxA 5 v146 (t144 22)).bind fun v147 =>
                          (fieldA 1 v147).bind fun v148 =>
                          (ld false 1 v148 q140.H).bind fun v149 =>
                          askB 2047 false 1 v148 v149 q140.hs <|
                          (fieldA 0 (t144 6)).bind fun v150 =>
                          (ld false 1 v150 q140.H).bind fun v151 =>
                          askB 4159 false 1 v150 v151 q140.hs <|
                          (idxA 5 v151 (t144 7)).bind fun v152 =>
                          (fieldA 1 v152).bind fun v153 =>
                          (ld false 1 v153 q140.H).bind fun v154 =>
                          askB 127039 false 1 v153 v154 q140.hs <|
                          (binK .plain .sub (.int .i64 1) v154).bind fun v155 =>
                          (binK .plain .eql v149 v155).bind fun v156 =>
                          some ⟨put (put (put (put (put (put (put (put (put (put (put (put (put (put t144 180 v145) 181 v146) 182 (t144 22)) 183 v147) 184 v148) 185 v149) 186 v150) 187 v151) 188 (t144 7)) 189 v152) 190 v153) 191 v154) 192 v155) 193 v156, q140.H, q140.n, (⟨17, false, 1, v153, v154⟩ :: ⟨13, false, 1, v150, v151⟩ :: ⟨11, false, 1, v148, v149⟩ :: ⟨7, false, 1, v145, v146⟩ :: q140.rs), q140.hs⟩)
                         (some ⟨put (put (put (put (put (put (put (put (put (put (put (put (put (put t144 180 (.tuple #[])) 181 (.tuple #[])) 182 (.tuple #[])) 183 (.tuple #[])) 184 (.tuple #[])) 185 (.tuple #[])) 186 (.tuple #[])) 187 (.tuple #[])) 188 (.tuple #[])) 189 (.tuple #[])) 190 (.tuple #[])) 191 (.tuple #[])) 192 (.tuple #[])) 193 (.tuple #[]), q140.H, q140.n, q140.rs, q140.hs⟩)
                       ).bind fun (q143 : R5) =>
                       let t158 : Tm := q143.t
                       (gsel (q143.t 176) false
                         ((pickV (t158 179) (t158 193) (.bool false)).bind fun v159 =>
                          some ⟨put t158 194 v159, q143.H, q143.n, q143.rs, q143.hs⟩)
                         (some ⟨put t158 194 (.tuple #[]), q143.H, q143.n, q143.rs, q143.hs⟩)
                       ).bind fun (q157 : R5) =>
                       (pickV (q157.t 176) (.bool true) (q157.t 194)).bind fun v160 =>
                       some (v160, q157.H, q157.n))
                      (some (.bool true, q56.2.1, q56.2.2 + 8))))))))
theorem s4 (C : Calling) (L : Body → Body) (t : Tm) (H : Hp) (n : Nat) : bodyK Try.prog C L Try.f4 t H n = S4 C L t H n := by kernel_rfl
theorem c4 (args : List Value) (H : Hp) (n : Nat) : Call Try.prog 4 args H n = S4 (Call Try.prog) Loop (argsT args) H n := (Call_body Try.func4 args H n).trans (s4 ..)
/-! 14: laws.big -/
noncomputable def S14 (C : Calling) (L : Body → Body) (t : Tm) (H : Hp) (n : Nat) : Option (Value × Hp × Nat) :=
  (lenV false (t 0)).bind fun v1 =>
  (binK .plain .gtr v1 (.int .i64 1048576)).bind fun v2 =>
  some (v2, H, n + 5)
theorem s14 (C : Calling) (L : Body → Body) (t : Tm) (H : Hp) (n : Nat) : bodyK Try.prog C L Try.f14 t H n = S14 C L t H n := by kernel_rfl
theorem c14 (args : List Value) (H : Hp) (n : Nat) : Call Try.prog 14 args H n = S14 (Call Try.prog) Loop (argsT args) H n := (Call_body Try.func14 args H n).trans (s14 ..)
/-! 15: spec.DrawPrimDo -/
noncomputable def S15L1 (C : Calling) (L : Body → Body) : Body := fun t H n =>
  (C 60 [t 7] H (n + 8)).bind fun q39 =>
  (C 56 [t 5, .int .i64 20] q39.2.1 (q39.2.2)).bind fun q40 =>
  (binK .plain .quo q40.1 (.int .i64 19)).bind fun v41 =>
  (binK .plain .add q39.1 v41).bind fun v42 =>
  (binK .plain .lss (t 10) v42).bind fun v43 =>
  csel v43
    ((ld true 1 (t 6) q40.2.1).bind fun v44 =>
     (C 61 [t 5, v44] q40.2.1 (q40.2.2 + 7)).bind fun q45 =>
     (bsl (q40.2.2 + 4) 1 1 [.int .i64 0] [(0, 1, q45.1)] q45.2.1).bind fun p46 =>
     (app (q40.2.2 + 5) 1 8 (t 9) p46.1 p46.2).bind fun p47 =>
     (binK .plain .add (t 10) (.int .i64 1)).bind fun v48 =>
     some ⟨.normal, put (put (put (put (put (put (put (put (put (put (put (put (put (put (put (put (put (put t 47 (t 10)) 48 (t 7)) 49 q39.1) 50 (t 5)) 51 q40.1) 52 v41) 53 v42) 54 v43) 57 (t 9)) 58 (t 5)) 59 v44) 60 q45.1) 61 p46.1) 62 p47.1) 9 p47.1) 55 (t 10)) 56 v48) 10 v48, p47.2, q45.2.2 + 3⟩)
    (some ⟨(.exit 2), put (put (put (put (put (put (put (put t 47 (t 10)) 48 (t 7)) 49 q39.1) 50 (t 5)) 51 q40.1) 52 v41) 53 v42) 54 v43, q40.2.1, q40.2.2⟩)
noncomputable def S15L0 (C : Calling) (L : Body → Body) : Body := fun t H n =>
  (binK .plain .lss (t 8) (.int .i64 2)).bind fun v31 =>
  csel v31
    ((bsl (n + 3) 1 6 [.int .i64 0] [(0, 1, .int .i64 1), (1, 1, .int .i64 (-4)), (2, 1, .int .i64 7), (3, 1, .int .i64 1000000000), (4, 1, .int .i64 (-1000000000)), (5, 1, .int .i64 40000)] H).bind fun p32 =>
     (C 59 [t 5, p32.1] p32.2 (n + 7)).bind fun q33 =>
     (bld [.int .i64 0, .int .i64 0, .string ⟨#[]⟩, .int .i64 0, .int .i64 0] [(0, 1, .int .i64 3), (1, 1, q33.1)]).bind fun v34 =>
     (C 58 [t 6, v34] q33.2.1 (q33.2.2)).bind fun q35 =>
     (binK .plain .add (t 8) (.int .i64 1)).bind fun v36 =>
     some ⟨.normal, put (put (put (put (put (put (put (put (put (put t 37 (t 8)) 38 v31) 41 (t 5)) 42 p32.1) 43 q33.1) 44 v34) 45 q35.1) 39 (t 8)) 40 v36) 8 v36, q35.2.1, q35.2.2 + 3⟩)
    (some ⟨(.exit 0), put (put t 37 (t 8)) 38 v31, H, n + 2⟩)
noncomputable def S15 (C : Calling) (L : Body → Body) (t : Tm) (H : Hp) (n : Nat) : Option (Value × Hp × Nat) :=
  let H1 := H.set (n) (some (.row [nilS] 0 true))
  (C 54 [t 0] H1 (n + 6)).bind fun q2 =>
  (C 55 [q2.1] q2.2.1 (q2.2.2 + 4)).bind fun q3 =>
  let H4 := q3.2.1.set (q2.2.2 + 2) (some (.row [nilS] 0 true))
  (st true 1 (ptr (q2.2.2 + 2) 0) q3.1 H4).bind fun H5 =>
  (C 56 [q2.1, .int .i64 12] H5 (q3.2.2 + 4)).bind fun q6 =>
  (binK .plain .add (.int .i64 1) q6.1).bind fun v7 =>
  (C 57 [q2.1, .int .i64 9] q6.2.1 (q6.2.2 + 2)).bind fun q8 =>
  let t10 : Tm := put (put (put (put (put (put (put (put (put (put (put (put (put (put (put t 2 (ptr (n) 0)) 3 (.int .i64 0)) 4 nilS) 11 (t 0)) 12 q2.1) 5 q2.1) 13 q2.1) 14 q3.1) 6 (ptr (q2.2.2 + 2) 0)) 15 q2.1) 16 q6.1) 17 v7) 7 v7) 18 q2.1) 19 q8.1
  (csel q8.1
    ((C 56 [q2.1, .int .i64 22] q8.2.1 (q8.2.2 + 4)).bind fun q11 =>
     (binK .plain .sub q11.1 (.int .i64 1)).bind fun v12 =>
     some ⟨.normal, put (put (put (put t10 20 q2.1) 21 q11.1) 22 v12) 7 v12, q11.2.1, q11.2.2⟩)
    (some ⟨.normal, t10, q8.2.1, q8.2.2⟩)
  ).bind fun (o9 : Out) =>
  (fieldA 0 (o9.t 6)).bind fun v13 =>
  (ld false 1 v13 o9.H).bind fun v14 =>
  (lenV false v14).bind fun v15 =>
  (binK .plain .gtr v15 (.int .i64 0)).bind fun v16 =>
  let t18 : Tm := put (put (put (put (put o9.t 23 v13) 24 v14) 25 v15) 26 v16) 27 v16
  (gsel v16 true
    ((fieldA 0 (t18 6)).bind fun v19 =>
     (ld false 1 v19 o9.H).bind fun v20 =>
     (lenV false v20).bind fun v21 =>
     (binK .plain .lss v21 (.int .i64 40)).bind fun v22 =>
     some (put (put (put (put t18 28 v19) 29 v20) 30 v21) 31 v22, o9.H, o9.n + 14))
    (some (put (put (put (put t18 28 (.tuple #[])) 29 (.tuple #[])) 30 (.tuple #[])) 31 (.tuple #[]), o9.H, o9.n + 14))
  ).bind fun (q17 : R3) =>
  (pickV (q17.1 27) (q17.1 31) (.bool false)).bind fun v23 =>
  let t25 : Tm := put (put q17.1 32 v23) 33 v23
  (gsel v23 true
    ((C 57 [t25 5, .int .i64 2] q17.2.1 (q17.2.2)).bind fun q26 =>
     some (put (put t25 34 (t25 5)) 35 q26.1, q26.2.1, q26.2.2))
    (some (put (put t25 34 (.tuple #[])) 35 (.tuple #[]), q17.2.1, q17.2.2))
  ).bind fun (q24 : R3) =>
  (pickV (q24.1 33) (q24.1 35) (.bool false)).bind fun v27 =>
  let t29 : Tm := put q24.1 36 v27
  (csel v27
    ((L (S15L0 C L) (put t29 8 (.int .i64 0)) q24.2.1 (q24.2.2 + 1)).bind fun (o30 : Out) =>
     some ⟨.normal, o30.t, o30.H, o30.n⟩)
    (some ⟨.normal, t29, q24.2.1, q24.2.2⟩)
  ).bind fun (o28 : Out) =>
  (bsl (o28.n) 1 0 [.int .i64 0] [] o28.H).bind fun p37 =>
  (L (S15L1 C L) (put (put (put o28.t 46 p37.1) 9 p37.1) 10 (.int .i64 0)) p37.2 (o28.n + 3)).bind fun (o38 : Out) =>
  (ld true 1 (o38.t 6) o38.H).bind fun v49 =>
  (st true 1 (o38.t 2) v49 o38.H).bind fun H50 =>
  (ld true 1 (o38.t 2) H50).bind fun v51 =>
  iteK ([v51, o38.t 7, o38.t 9].all notTup) <|
  some (.tuple ⟨[v51, o38.t 7, o38.t 9]⟩, H50, o38.n + 6)
theorem s15 (C : Calling) (L : Body → Body) (t : Tm) (H : Hp) (n : Nat) : bodyK Try.prog C L Try.f15 t H n = S15 C L t H n := by kernel_rfl
theorem c15 (args : List Value) (H : Hp) (n : Nat) : Call Try.prog 15 args H n = S15 (Call Try.prog) Loop (argsT args) H n := (Call_body Try.func15 args H n).trans (s15 ..)
/-! 16: impl.PrimDo -/
noncomputable def S16 (C : Calling) (L : Body → Body) (t : Tm) (H : Hp) (n : Nat) : Option (Value × Hp × Nat) :=
  (vcells (t 0)).bind fun c2 =>
  let H1 := H.set (n) (some (.row c2 0 true))
  let H3 := H1.set (n + 1) (some (.row [nilS] 0 true))
  (ld true 1 (ptr (n) 0) H3).bind fun v4 =>
  (C 18 [v4] H3 (n + 24)).bind fun q5 =>
  (un .not q5.1).bind fun v6 =>
  let t8 : Tm := put (put (put (put (put (put (put (put t 3 (ptr (n) 0)) 6 (ptr (n + 1) 0)) 7 (.int .i64 0)) 8 (.int .i64 0)) 12 v4) 13 q5.1) 14 v6) 15 v6
  (gsel v6 false
    ((C 51 [t8 1, .int .i64 1, .int .i64 19] q5.2.1 (q5.2.2)).bind fun q9 =>
     (un .not q9.1).bind fun v10 =>
     some (put (put (put t8 16 (t8 1)) 17 q9.1) 18 v10, q9.2.1, q9.2.2))
    (some (put (put (put t8 16 (.tuple #[])) 17 (.tuple #[])) 18 (.tuple #[]), q5.2.1, q5.2.2))
  ).bind fun (q7 : R3) =>
  (pickV (q7.1 15) (.bool true) (q7.1 18)).bind fun v11 =>
  let t13 : Tm := put (put q7.1 19 v11) 20 v11
  (gsel v11 false
    ((lenV false (t13 2)).bind fun v14 =>
     (C 62 [t13 1] q7.2.1 (q7.2.2)).bind fun q15 =>
     (binK .plain .neq v14 q15.1).bind fun v16 =>
     some (put (put (put (put (put t13 21 (t13 2)) 22 v14) 23 (t13 1)) 24 q15.1) 25 v16, q15.2.1, q15.2.2))
    (some (put (put (put (put (put t13 21 (.tuple #[])) 22 (.tuple #[])) 23 (.tuple #[])) 24 (.tuple #[])) 25 (.tuple #[]), q7.2.1, q7.2.2))
  ).bind fun (q12 : R3) =>
  (pickV (q12.1 20) (.bool true) (q12.1 25)).bind fun v17 =>
  let t19 : Tm := put (put q12.1 26 v17) 27 v17
  (gsel v17 false
    (iteK ([t19 3].all ptrV) <|
     (C 63 [t19 2, .func (.func 64) #[] ⟨[t19 3]⟩] q12.2.1 (q12.2.2)).bind fun q20 =>
     some (put (put (put t19 28 (t19 2)) 29 (.func (.func 64) #[] ⟨[t19 3]⟩)) 30 q20.1, q20.2.1, q20.2.2))
    (some (put (put (put t19 28 (.tuple #[])) 29 (.tuple #[])) 30 (.tuple #[]), q12.2.1, q12.2.2))
  ).bind fun (q18 : R3) =>
  (pickV (q18.1 27) (.bool true) (q18.1 30)).bind fun v21 =>
  csel v21
    ((bld [nilS] []).bind fun v22 =>
     (st true 1 (q18.1 6) v22 q18.2.1).bind fun H23 =>
     (ld true 1 (q18.1 6) H23).bind fun v24 =>
     iteK ([v24, .int .i64 (-1), .int .i64 1].all notTup) <|
     some (.tuple ⟨[v24, .int .i64 (-1), .int .i64 1]⟩, H23, q18.2.2 + 4))
    ((ld true 1 (q18.1 3) q18.2.1).bind fun v25 =>
     (C 66 [v25] q18.2.1 (q18.2.2 + 4)).bind fun q26 =>
     let H27 := q26.2.1.set (q18.2.2 + 2) (some (.row [nilS] 0 true))
     (st true 1 (ptr (q18.2.2 + 2) 0) q26.1 H27).bind fun H28 =>
     (binK .plain .gtr (q18.1 1) (.int .i64 12)).bind fun v29 =>
     csel v29
       ((ld true 1 (ptr (q18.2.2 + 2) 0) H28).bind fun v30 =>
        (st true 1 (q18.1 6) v30 H28).bind fun H31 =>
        (ld true 1 (q18.1 6) H31).bind fun v32 =>
        iteK ([v32, .int .i64 (-1), .int .i64 2].all notTup) <|
        some (.tuple ⟨[v32, .int .i64 (-1), .int .i64 2]⟩, H31, q26.2.2 + 6))
       ((C 67 [ptr (q18.2.2 + 2) 0, q18.1 1, q18.1 2] H28 (q26.2.2 + 10)).bind fun q33 =>
        (ext 0 q33.1).bind fun v34 =>
        (ext 1 q33.1).bind fun v35 =>
        (binK .plain .neq v35 (.int .i64 0)).bind fun v36 =>
        csel v36
          ((ld true 1 (ptr (q18.2.2 + 2) 0) q33.2.1).bind fun v37 =>
           (st true 1 (q18.1 6) v37 q33.2.1).bind fun H38 =>
           (ld true 1 (q18.1 6) H38).bind fun v39 =>
           iteK ([v39, .int .i64 (-1), v35].all notTup) <|
           some (.tuple ⟨[v39, .int .i64 (-1), v35]⟩, H38, q33.2.2 + 8))
          ((fieldA 0 (ptr (q18.2.2 + 2) 0)).bind fun v40 =>
           (ld false 1 v40 q33.2.1).bind fun v41 =>
           (lenV false v41).bind fun v42 =>
           (binK .plain .gtr v42 (.int .i64 3000)).bind fun v43 =>
           csel v43
             ((ld true 1 (q18.1 3) q33.2.1).bind fun v44 =>
              (C 66 [v44] q33.2.1 (q33.2.2 + 13)).bind fun q45 =>
              (st true 1 (q18.1 6) q45.1 q45.2.1).bind fun H46 =>
              (ld true 1 (q18.1 6) H46).bind fun v47 =>
              iteK ([v47, .int .i64 (-1), .int .i64 5].all notTup) <|
              some (.tuple ⟨[v47, .int .i64 (-1), .int .i64 5]⟩, H46, q45.2.2))
             ((ld true 1 (ptr (q18.2.2 + 2) 0) q33.2.1).bind fun v48 =>
              (st true 1 (q18.1 6) v48 q33.2.1).bind fun H49 =>
              (ld true 1 (q18.1 6) H49).bind fun v50 =>
              iteK ([v50, v34, .int .i64 0].all notTup) <|
              some (.tuple ⟨[v50, v34, .int .i64 0]⟩, H49, q33.2.2 + 13)))))
theorem s16 (C : Calling) (L : Body → Body) (t : Tm) (H : Hp) (n : Nat) : bodyK Try.prog C L Try.f16 t H n = S16 C L t H n := by kernel_rfl
theorem c16 (args : List Value) (H : Hp) (n : Nat) : Call Try.prog 16 args H n = S16 (Call Try.prog) Loop (argsT args) H n := (Call_body Try.func16 args H n).trans (s16 ..)
/-! 17: spec.PrimDo -/
noncomputable def S17L0 (C : Calling) (L : Body → Body) : Body := fun t H n =>
  (lenV false (t 2)).bind fun v17 =>
  (binK .plain .lss (t 9) v17).bind fun v18 =>
  csel v18
    ((ld true 1 (t 3) H).bind fun v19 =>
     (idxA 1 (t 2) (t 9)).bind fun v20 =>
     (ld false 1 v20 H).bind fun v21 =>
     (C 68 [v19, v21] H (n + 11)).bind fun q22 =>
     (un .not q22.1).bind fun v23 =>
     csel v23
       ((bld [nilS] []).bind fun v24 =>
        (st true 1 (t 6) v24 q22.2.1).bind fun H25 =>
        some ⟨.ret, put (put (put (put (put (put (put (put (put (put (put (put (put (put t 24 (t 9)) 25 (t 2)) 26 v17) 27 v18) 30 v19) 31 (t 2)) 32 (t 9)) 33 v20) 34 v21) 35 q22.1) 36 v23) 37 v24) 7 (.int .i64 (-1))) 8 (.int .i64 1), H25, q22.2.2 + 4⟩)
       ((binK .plain .add (t 9) (.int .i64 1)).bind fun v26 =>
        some ⟨.normal, put (put (put (put (put (put (put (put (put (put (put (put (put (put t 24 (t 9)) 25 (t 2)) 26 v17) 27 v18) 30 v19) 31 (t 2)) 32 (t 9)) 33 v20) 34 v21) 35 q22.1) 36 v23) 28 (t 9)) 29 v26) 9 v26, q22.2.1, q22.2.2 + 3⟩))
    (some ⟨(.exit 0), put (put (put (put t 24 (t 9)) 25 (t 2)) 26 v17) 27 v18, H, n + 4⟩)
noncomputable def S17 (C : Calling) (L : Body → Body) (t : Tm) (H : Hp) (n : Nat) : Option (Value × Hp × Nat) :=
  (vcells (t 0)).bind fun c2 =>
  let H1 := H.set (n) (some (.row c2 0 true))
  let H3 := H1.set (n + 1) (some (.row [nilS] 0 true))
  (ld true 1 (ptr (n) 0) H3).bind fun v4 =>
  (C 41 [v4] H3 (n + 14)).bind fun q5 =>
  (un .not q5.1).bind fun v6 =>
  let t8 : Tm := put (put (put (put (put (put (put (put t 3 (ptr (n) 0)) 6 (ptr (n + 1) 0)) 7 (.int .i64 0)) 8 (.int .i64 0)) 13 v4) 14 q5.1) 15 v6) 16 v6
  (gsel v6 false
    ((lenV false (t8 2)).bind fun v9 =>
     (C 60 [t8 1] q5.2.1 (q5.2.2)).bind fun q10 =>
     (binK .plain .neq v9 q10.1).bind fun v11 =>
     some (put (put (put (put (put t8 17 (t8 2)) 18 v9) 19 (t8 1)) 20 q10.1) 21 v11, q10.2.1, q10.2.2))
    (some (put (put (put (put (put t8 17 (.tuple #[])) 18 (.tuple #[])) 19 (.tuple #[])) 20 (.tuple #[])) 21 (.tuple #[]), q5.2.1, q5.2.2))
  ).bind fun (q7 : R3) =>
  (pickV (q7.1 16) (.bool true) (q7.1 21)).bind fun v12 =>
  csel v12
    ((bld [nilS] []).bind fun v13 =>
     (st true 1 (q7.1 6) v13 q7.2.1).bind fun H14 =>
     (ld true 1 (q7.1 6) H14).bind fun v15 =>
     iteK ([v15, .int .i64 (-1), .int .i64 1].all notTup) <|
     some (.tuple ⟨[v15, .int .i64 (-1), .int .i64 1]⟩, H14, q7.2.2 + 4))
    ((L (S17L0 C L) (put (put q7.1 22 v12) 9 (.int .i64 0)) q7.2.1 (q7.2.2 + 1)).bind fun (o16 : Out) =>
     let o27 := outOf 0 o16
     thenK o27
       ((binK .plain .gtr (o27.t 1) (.int .i64 12)).bind fun v28 =>
        csel v28
          ((ld true 1 (o27.t 3) o27.H).bind fun v29 =>
           (C 69 [v29] o27.H (o27.n + 7)).bind fun q30 =>
           (st true 1 (o27.t 6) q30.1 q30.2.1).bind fun H31 =>
           (ld true 1 (o27.t 6) H31).bind fun v32 =>
           iteK ([v32, .int .i64 (-1), .int .i64 2].all notTup) <|
           some (.tuple ⟨[v32, .int .i64 (-1), .int .i64 2]⟩, H31, q30.2.2))
          ((ld true 1 (o27.t 3) o27.H).bind fun v33 =>
           (C 69 [v33] o27.H (o27.n + 6)).bind fun q34 =>
           let H35 := q34.2.1.set (o27.n + 4) (some (.row [nilS] 0 true))
           (st true 1 (ptr (o27.n + 4) 0) q34.1 H35).bind fun H36 =>
           (C 70 [ptr (o27.n + 4) 0, o27.t 1, o27.t 2] H36 (q34.2.2 + 8)).bind fun q37 =>
           (ext 0 q37.1).bind fun v38 =>
           (ext 1 q37.1).bind fun v39 =>
           (binK .plain .neq v39 (.int .i64 0)).bind fun v40 =>
           csel v40
             ((ld true 1 (o27.t 3) q37.2.1).bind fun v41 =>
              (C 69 [v41] q37.2.1 (q37.2.2 + 8)).bind fun q42 =>
              (st true 1 (o27.t 6) q42.1 q42.2.1).bind fun H43 =>
              (ld true 1 (o27.t 6) H43).bind fun v44 =>
              iteK ([v44, .int .i64 (-1), v39].all notTup) <|
              some (.tuple ⟨[v44, .int .i64 (-1), v39]⟩, H43, q42.2.2))
             ((fieldA 0 (ptr (o27.n + 4) 0)).bind fun v45 =>
              (ld false 1 v45 q37.2.1).bind fun v46 =>
              (lenV false v46).bind fun v47 =>
              (binK .plain .gtr v47 (.int .i64 3000)).bind fun v48 =>
              csel v48
                ((ld true 1 (o27.t 3) q37.2.1).bind fun v49 =>
                 (C 69 [v49] q37.2.1 (q37.2.2 + 11)).bind fun q50 =>
                 (st true 1 (o27.t 6) q50.1 q50.2.1).bind fun H51 =>
                 (ld true 1 (o27.t 6) H51).bind fun v52 =>
                 iteK ([v52, .int .i64 (-1), .int .i64 5].all notTup) <|
                 some (.tuple ⟨[v52, .int .i64 (-1), .int .i64 5]⟩, H51, q50.2.2))
                ((ld true 1 (ptr (o27.n + 4) 0) q37.2.1).bind fun v53 =>
                 (st true 1 (o27.t 6) v53 q37.2.1).bind fun H54 =>
                 (ld true 1 (o27.t 6) H54).bind fun v55 =>
                 iteK ([v55, v38, v39].all notTup) <|
                 some (.tuple ⟨[v55, v38, v39]⟩, H54, q37.2.2 + 12)))))
       (finE o27.e
          ((ld true 1 (o27.t 6) o27.H).bind fun v56 =>
           iteK ([v56, o27.t 7, o27.t 8].all notTup) <|
           some (.tuple ⟨[v56, o27.t 7, o27.t 8]⟩, o27.H, o27.n))))
theorem s17 (C : Calling) (L : Body → Body) (t : Tm) (H : Hp) (n : Nat) : bodyK Try.prog C L Try.f17 t H n = S17 C L t H n := by kernel_rfl
theorem c17 (args : List Value) (H : Hp) (n : Nat) : Call Try.prog 17 args H n = S17 (Call Try.prog) Loop (argsT args) H n := (Call_body Try.func17 args H n).trans (s17 ..)
/-! 18: impl.PoolOk -/
noncomputable def S18L0 (C : Calling) (L : Body → Body) : Body := fun t H n =>
  (binK .plain .lss (t 8) (t 7)).bind fun v7 =>
  csel v7
    ((idxA 5 (t 6) (t 8)).bind fun v8 =>
     (ld true 5 v8 H).bind fun v9 =>
     let H10 := H.set (n + 4) (some (.row [.int .i64 0, .int .i64 0, .string ⟨#[]⟩, .int .i64 0, .int .i64 0] 0 true))
     (st true 5 (ptr (n + 4) 0) v9 H10).bind fun H11 =>
     (ld true 5 (ptr (n + 4) 0) H11).bind fun v12 =>
     (C 71 [v12, t 8] H11 (n + 11)).bind fun q13 =>
     (un .not q13.1).bind fun v14 =>
     csel v14
       (some ⟨.ret, put (put (put (put (put (put (put (put (put (put (put t 9 v7) 10 (t 8)) 11 v8) 12 v9) 4 (ptr (n + 4) 0)) 3 (t 8)) 13 v12) 14 (t 8)) 15 q13.1) 16 v14) 2 (.bool false), q13.2.1, q13.2.2 + 1⟩)
       ((binK .plain .add (t 8) (.int .i64 1)).bind fun v15 =>
        some ⟨.normal, put (put (put (put (put (put (put (put (put (put (put (put t 9 v7) 10 (t 8)) 11 v8) 12 v9) 4 (ptr (n + 4) 0)) 3 (t 8)) 13 v12) 14 (t 8)) 15 q13.1) 16 v14) 17 v15) 8 v15, q13.2.1, q13.2.2 + 2⟩))
    (some ⟨(.exit 0), put t 9 v7, H, n + 1⟩)
noncomputable def S18 (C : Calling) (L : Body → Body) (t : Tm) (H : Hp) (n : Nat) : Option (Value × Hp × Nat) :=
  (vcells (t 0)).bind fun c2 =>
  let H1 := H.set (n) (some (.row c2 0 true))
  (fieldA 0 (ptr (n) 0)).bind fun v3 =>
  (ld false 1 v3 H1).bind fun v4 =>
  (lenV false v4).bind fun v5 =>
  (L (S18L0 C L) (put (put (put (put (put (put t 1 (ptr (n) 0)) 2 (.bool false)) 5 v3) 6 v4) 7 v5) 8 (.int .i64 0)) H1 (n + 6)).bind fun (o6 : Out) =>
  let o16 := outOf 0 o6
  thenK o16
    ((fieldA 0 (o16.t 1)).bind fun v17 =>
     (ld false 1 v17 o16.H).bind fun v18 =>
     (lenV false v18).bind fun v19 =>
     (binK .plain .leq v19 (.int .i64 3000)).bind fun v20 =>
     some (v20, o16.H, o16.n + 5))
    (finE o16.e
       (some (o16.t 2, o16.H, o16.n)))
theorem s18 (C : Calling) (L : Body → Body) (t : Tm) (H : Hp) (n : Nat) : bodyK Try.prog C L Try.f18 t H n = S18 C L t H n := by kernel_rfl
theorem c18 (args : List Value) (H : Hp) (n : Nat) : Call Try.prog 18 args H n = S18 (Call Try.prog) Loop (argsT args) H n := (Call_body Try.func18 args H n).trans (s18 ..)
/-! 41: spec.PoolOk -/
noncomputable def S41L0 (C : Calling) (L : Body → Body) : Body := fun t H n =>
  (fieldA 0 (t 1)).bind fun v4 =>
  (ld false 1 v4 H).bind fun v5 =>
  (lenV false v5).bind fun v6 =>
  (binK .plain .lss (t 3) v6).bind fun v7 =>
  csel v7
    ((fieldA 0 (t 1)).bind fun v8 =>
     (ld false 1 v8 H).bind fun v9 =>
     (idxA 5 v9 (t 3)).bind fun v10 =>
     (ld true 5 v10 H).bind fun v11 =>
     (C 88 [v11, t 3] H (n + 13)).bind fun q12 =>
     (un .not q12.1).bind fun v13 =>
     csel v13
       (some ⟨.ret, put (put (put (put (put (put (put (put (put (put (put (put (put (put t 4 (t 3)) 5 v4) 6 v5) 7 v6) 8 v7) 11 v8) 12 v9) 13 (t 3)) 14 v10) 15 v11) 16 (t 3)) 17 q12.1) 18 v13) 2 (.bool false), q12.2.1, q12.2.2 + 1⟩)
       ((binK .plain .add (t 3) (.int .i64 1)).bind fun v14 =>
        some ⟨.normal, put (put (put (put (put (put (put (put (put (put (put (put (put (put (put (put t 4 (t 3)) 5 v4) 6 v5) 7 v6) 8 v7) 11 v8) 12 v9) 13 (t 3)) 14 v10) 15 v11) 16 (t 3)) 17 q12.1) 18 v13) 9 (t 3)) 10 v14) 3 v14, q12.2.1, q12.2.2 + 3⟩))
    (some ⟨(.exit 0), put (put (put (put (put t 4 (t 3)) 5 v4) 6 v5) 7 v6) 8 v7, H, n + 5⟩)
noncomputable def S41 (C : Calling) (L : Body → Body) (t : Tm) (H : Hp) (n : Nat) : Option (Value × Hp × Nat) :=
  (vcells (t 0)).bind fun c2 =>
  let H1 := H.set (n) (some (.row c2 0 true))
  (L (S41L0 C L) (put (put (put t 1 (ptr (n) 0)) 2 (.bool false)) 3 (.int .i64 0)) H1 (n + 3)).bind fun (o3 : Out) =>
  let o15 := outOf 0 o3
  thenK o15
    ((fieldA 0 (o15.t 1)).bind fun v16 =>
     (ld false 1 v16 o15.H).bind fun v17 =>
     (lenV false v17).bind fun v18 =>
     (binK .plain .leq v18 (.int .i64 3000)).bind fun v19 =>
     some (v19, o15.H, o15.n + 5))
    (finE o15.e
       (some (o15.t 2, o15.H, o15.n)))
theorem s41 (C : Calling) (L : Body → Body) (t : Tm) (H : Hp) (n : Nat) : bodyK Try.prog C L Try.f41 t H n = S41 C L t H n := by kernel_rfl
theorem c41 (args : List Value) (H : Hp) (n : Nat) : Call Try.prog 41 args H n = S41 (Call Try.prog) Loop (argsT args) H n := (Call_body Try.func41 args H n).trans (s41 ..)
/-! 43: spec.NameOk -/
noncomputable def S43L0 (C : Calling) (L : Body → Body) : Body := fun t H n =>
  (lenV true (t 0)).bind fun v2 =>
  (binK .plain .lss (t 3) v2).bind fun v3 =>
  csel v3
    ((idxS (t 0) (t 3)).bind fun v4 =>
     (C 89 [v4] H (n + 9)).bind fun q5 =>
     (un .not q5.1).bind fun v6 =>
     csel v6
       (some ⟨.ret, put (put (put (put (put (put (put (put (put (put t 4 (t 3)) 5 (t 0)) 6 v2) 7 v3) 10 (t 0)) 11 (t 3)) 12 v4) 13 q5.1) 14 v6) 2 (.bool false), q5.2.1, q5.2.2 + 1⟩)
       ((binK .plain .add (t 3) (.int .i64 1)).bind fun v7 =>
        some ⟨.normal, put (put (put (put (put (put (put (put (put (put (put (put t 4 (t 3)) 5 (t 0)) 6 v2) 7 v3) 10 (t 0)) 11 (t 3)) 12 v4) 13 q5.1) 14 v6) 8 (t 3)) 9 v7) 3 v7, q5.2.1, q5.2.2 + 3⟩))
    (some ⟨(.exit 0), put (put (put (put t 4 (t 3)) 5 (t 0)) 6 v2) 7 v3, H, n + 4⟩)
noncomputable def S43 (C : Calling) (L : Body → Body) (t : Tm) (H : Hp) (n : Nat) : Option (Value × Hp × Nat) :=
  (L (S43L0 C L) (put (put t 2 (.bool false)) 3 (.int .i64 0)) H (n + 2)).bind fun (o1 : Out) =>
  let o8 := outOf 0 o1
  thenK o8
    ((lenV true (o8.t 0)).bind fun v9 =>
     (C 45 [v9, .int .i64 1, .int .i64 12] o8.H (o8.n + 4)).bind fun q10 =>
     some (q10.1, q10.2.1, q10.2.2))
    (finE o8.e
       (some (o8.t 2, o8.H, o8.n)))
theorem s43 (C : Calling) (L : Body → Body) (t : Tm) (H : Hp) (n : Nat) : bodyK Try.prog C L Try.f43 t H n = S43 C L t H n := by kernel_rfl
theorem c43 (args : List Value) (H : Hp) (n : Nat) : Call Try.prog 43 args H n = S43 (Call Try.prog) Loop (argsT args) H n := (Call_body Try.func43 args H n).trans (s43 ..)
/-! 45: spec.l1In -/
noncomputable def S45 (C : Calling) (L : Body → Body) (t : Tm) (H : Hp) (n : Nat) : Option (Value × Hp × Nat) :=
  (binK .plain .geq (t 0) (t 1)).bind fun v1 =>
  let t3 : Tm := put (put (put (put (put t 6 (.bool false)) 7 (t 0)) 8 (t 1)) 9 v1) 10 v1
  (gsel v1 true
    ((binK .plain .leq (t3 0) (t3 2)).bind fun v4 =>
     some (put (put (put t3 11 (t3 0)) 12 (t3 2)) 13 v4, H, n + 10))
    (some (put (put (put t3 11 (.tuple #[])) 12 (.tuple #[])) 13 (.tuple #[]), H, n + 10))
  ).bind fun (q2 : R3) =>
  (pickV (q2.1 10) (q2.1 13) (.bool false)).bind fun v5 =>
  some (v5, q2.2.1, q2.2.2)
theorem s45 (C : Calling) (L : Body → Body) (t : Tm) (H : Hp) (n : Nat) : bodyK Try.prog C L Try.f45 t H n = S45 C L t H n := by kernel_rfl
theorem c45 (args : List Value) (H : Hp) (n : Nat) : Call Try.prog 45 args H n = S45 (Call Try.prog) Loop (argsT args) H n := (Call_body Try.func45 args H n).trans (s45 ..)
/-! 49: impl.NameOk -/
noncomputable def S49L0 (C : Calling) (L : Body → Body) : Body := fun t H n =>
  (binK .plain .lss (t 10) (t 9)).bind fun v6 =>
  csel v6
    ((idxS (t 0) (t 10)).bind fun v7 =>
     (C 92 [v7] H (n + 8)).bind fun q8 =>
     (un .not q8.1).bind fun v9 =>
     csel v9
       (some ⟨.ret, put (put (put (put (put (put (put (put (put t 11 v6) 12 (t 10)) 3 (t 10)) 13 (t 0)) 14 (t 10)) 15 v7) 16 q8.1) 17 v9) 2 (.bool false), q8.2.1, q8.2.2 + 1⟩)
       ((binK .plain .add (t 10) (.int .i64 1)).bind fun v10 =>
        some ⟨.normal, put (put (put (put (put (put (put (put (put (put t 11 v6) 12 (t 10)) 3 (t 10)) 13 (t 0)) 14 (t 10)) 15 v7) 16 q8.1) 17 v9) 18 v10) 10 v10, q8.2.1, q8.2.2 + 2⟩))
    (some ⟨(.exit 0), put t 11 v6, H, n + 1⟩)
noncomputable def S49 (C : Calling) (L : Body → Body) (t : Tm) (H : Hp) (n : Nat) : Option (Value × Hp × Nat) :=
  (lenV true (t 0)).bind fun v1 =>
  (C 51 [v1, .int .i64 1, .int .i64 12] H (n + 5)).bind fun q2 =>
  (un .not q2.1).bind fun v3 =>
  csel v3
    (some (.bool false, q2.2.1, q2.2.2 + 1))
    ((lenV true (t 0)).bind fun v4 =>
     (L (S49L0 C L) (put (put (put (put (put (put (put (put t 2 (.bool false)) 4 (t 0)) 5 v1) 6 q2.1) 7 v3) 8 (t 0)) 9 v4) 10 (.int .i64 0)) q2.2.1 (q2.2.2 + 3)).bind fun (o5 : Out) =>
     let o11 := outOf 0 o5
     thenK o11
       (some (.bool true, o11.H, o11.n + 1))
       (finE o11.e
          (some (o11.t 2, o11.H, o11.n))))
theorem s49 (C : Calling) (L : Body → Body) (t : Tm) (H : Hp) (n : Nat) : bodyK Try.prog C L Try.f49 t H n = S49 C L t H n := by kernel_rfl
theorem c49 (args : List Value) (H : Hp) (n : Nat) : Call Try.prog 49 args H n = S49 (Call Try.prog) Loop (argsT args) H n := (Call_body Try.func49 args H n).trans (s49 ..)
/-! 51: impl.within -/
noncomputable def S51 (C : Calling) (L : Body → Body) (t : Tm) (H : Hp) (n : Nat) : Option (Value × Hp × Nat) :=
  (binK .plain .geq (t 0) (t 1)).bind fun v1 =>
  let t3 : Tm := put (put (put (put (put t 6 (.bool false)) 7 (t 0)) 8 (t 1)) 9 v1) 10 v1
  (gsel v1 true
    ((binK .plain .leq (t3 0) (t3 2)).bind fun v4 =>
     some (put (put (put t3 11 (t3 0)) 12 (t3 2)) 13 v4, H, n + 10))
    (some (put (put (put t3 11 (.tuple #[])) 12 (.tuple #[])) 13 (.tuple #[]), H, n + 10))
  ).bind fun (q2 : R3) =>
  (pickV (q2.1 10) (q2.1 13) (.bool false)).bind fun v5 =>
  some (v5, q2.2.1, q2.2.2)
theorem s51 (C : Calling) (L : Body → Body) (t : Tm) (H : Hp) (n : Nat) : bodyK Try.prog C L Try.f51 t H n = S51 C L t H n := by kernel_rfl
theorem c51 (args : List Value) (H : Hp) (n : Nat) : Call Try.prog 51 args H n = S51 (Call Try.prog) Loop (argsT args) H n := (Call_body Try.func51 args H n).trans (s51 ..)
/-! 54: spec.l1New -/
noncomputable def S54L0 (C : Calling) (L : Body → Body) : Body := fun t H n =>
  (lenV false (t 0)).bind fun v4 =>
  (binK .plain .lss (t 4) v4).bind fun v5 =>
  let t7 : Tm := put (put (put (put (put t 8 (t 4)) 9 (t 0)) 10 v4) 11 v5) 12 v5
  (gsel v5 true
    ((binK .plain .lss (t7 4) (.int .i64 4000)).bind fun v8 =>
     some (put (put t7 13 (t7 4)) 14 v8, H, n + 8))
    (some (put (put t7 13 (.tuple #[])) 14 (.tuple #[]), H, n + 8))
  ).bind fun (q6 : R3) =>
  (pickV (q6.1 12) (q6.1 14) (.bool false)).bind fun v9 =>
  csel v9
    ((binK .plain .mul (q6.1 3) (.int .i64 131)).bind fun v10 =>
     (idxA 1 (q6.1 0) (q6.1 4)).bind fun v11 =>
     (ld false 1 v11 q6.2.1).bind fun v12 =>
     (conv (.toInt .i64) (q6.2.2 + 6) v12 q6.2.1).bind fun p13 =>
     (binK .plain .add v10 p13.1).bind fun v14 =>
     (binK .plain .add v14 (.int .i64 7)).bind fun v15 =>
     (binK .plain .and v15 (.int .i64 1073741823)).bind fun v16 =>
     (binK .plain .add (q6.1 4) (.int .i64 1)).bind fun v17 =>
     some ⟨.normal, put (put (put (put (put (put (put (put (put (put (put (put (put (put (put q6.1 15 v9) 18 (q6.1 3)) 19 v10) 20 (q6.1 0)) 21 (q6.1 4)) 22 v11) 23 v12) 24 p13.1) 25 v14) 26 v15) 27 v16) 3 v16) 16 (q6.1 4)) 17 v17) 4 v17, p13.2, q6.2.2 + 14⟩)
    (some ⟨(.exit 0), put q6.1 15 v9, q6.2.1, q6.2.2⟩)
noncomputable def S54 (C : Calling) (L : Body → Body) (t : Tm) (H : Hp) (n : Nat) : Option (Value × Hp × Nat) :=
  (lenV false (t 0)).bind fun v1 =>
  (binK .plain .add (.int .i64 17000) v1).bind fun v2 =>
  (L (S54L0 C L) (put (put (put (put (put (put t 2 (.pointer none)) 5 (t 0)) 6 v1) 7 v2) 3 v2) 4 (.int .i64 0)) H (n + 6)).bind fun (o3 : Out) =>
  (bld [nilS, .int .i64 0, .int .i64 0] [(0, 1, o3.t 0), (2, 1, o3.t 3)]).bind fun v18 =>
  (vcells v18).bind fun c20 =>
  let H19 := o3.H.set (o3.n + 3) (some (.row c20 0 true))
  some (ptr (o3.n + 3) 0, H19, o3.n + 5)
theorem s54 (C : Calling) (L : Body → Body) (t : Tm) (H : Hp) (n : Nat) : bodyK Try.prog C L Try.f54 t H n = S54 C L t H n := by kernel_rfl
theorem c54 (args : List Value) (H : Hp) (n : Nat) : Call Try.prog 54 args H n = S54 (Call Try.prog) Loop (argsT args) H n := (Call_body Try.func54 args H n).trans (s54 ..)
/-! 55: spec.l2Draw -/
noncomputable def S55L0 (C : Calling) (L : Body → Body) : Body := fun t H n =>
  (fieldA 0 (t 3)).bind fun v37 =>
  (ld false 1 v37 H).bind fun v38 =>
  (lenV false v38).bind fun v39 =>
  (binK .plain .lss (t 5) v39).bind fun v40 =>
  csel v40
    ((fieldA 0 (t 3)).bind fun v41 =>
     (ld false 1 v41 H).bind fun v42 =>
     (idxA 5 v42 (t 5)).bind fun v43 =>
     (fieldA 0 v43).bind fun v44 =>
     (st false 1 v44 (.int .i64 1) H).bind fun H45 =>
     (binK .plain .add (t 5) (.int .i64 1)).bind fun v46 =>
     some ⟨.normal, put (put (put (put (put (put (put (put (put (put (put (put (put t 39 (t 5)) 40 v37) 41 v38) 42 v39) 43 v40) 46 v41) 47 v42) 48 (t 5)) 49 v43) 50 v44) 44 (t 5)) 45 v46) 5 v46, H45, n + 14⟩)
    (some ⟨(.exit 0), put (put (put (put (put t 39 (t 5)) 40 v37) 41 v38) 42 v39) 43 v40, H, n + 5⟩)
noncomputable def S55 (C : Calling) (L : Body → Body) (t : Tm) (H : Hp) (n : Nat) : Option (Value × Hp × Nat) :=
  let H1 := H.set (n) (some (.row [nilS] 0 true))
  (C 97 [t 0] H1 (n + 5)).bind fun q2 =>
  let H3 := q2.2.1.set (n + 3) (some (.row [nilS] 0 true))
  (st true 1 (ptr (n + 3) 0) q2.1 H3).bind fun H4 =>
  (fieldA 0 (ptr (n + 3) 0)).bind fun v5 =>
  (ld false 1 v5 H4).bind fun v6 =>
  (lenV false v6).bind fun v7 =>
  (binK .plain .gtr v7 (.int .i64 0)).bind fun v8 =>
  let t10 : Tm := put (put (put (put (put (put (put (put (put t 2 (ptr (n) 0)) 6 (t 0)) 7 q2.1) 3 (ptr (n + 3) 0)) 8 v5) 9 v6) 10 v7) 11 v8) 12 v8
  (gsel v8 true
    ((C 57 [t10 0, .int .i64 12] H4 (q2.2.2 + 8)).bind fun q11 =>
     some (put (put t10 13 (t10 0)) 14 q11.1, q11.2.1, q11.2.2))
    (some (put (put t10 13 (.tuple #[])) 14 (.tuple #[]), H4, q2.2.2 + 8))
  ).bind fun (q9 : R3) =>
  (pickV (q9.1 12) (q9.1 14) (.bool false)).bind fun v12 =>
  let t14 : Tm := put q9.1 15 v12
  (csel v12
    ((fieldA 0 (t14 3)).bind fun v15 =>
     (ld false 1 v15 q9.2.1).bind fun v16 =>
     (lenV false v16).bind fun v17 =>
     (C 56 [t14 0, v17] q9.2.1 (q9.2.2 + 6)).bind fun q18 =>
     (fieldA 0 (t14 3)).bind fun v19 =>
     (ld false 1 v19 q18.2.1).bind fun v20 =>
     (fieldA 0 (t14 3)).bind fun v21 =>
     (ld false 1 v21 q18.2.1).bind fun v22 =>
     (idxA 5 v22 q18.1).bind fun v23 =>
     (ld true 5 v23 q18.2.1).bind fun v24 =>
     (C 98 [t14 0, v24] q18.2.1 (q18.2.2 + 12)).bind fun q25 =>
     ask (ld false 1 v19 q25.2.1 = some v20) <|
     (idxA 5 v20 q18.1).bind fun v26 =>
     (st true 5 v26 q25.1 q25.2.1).bind fun H27 =>
     some ⟨.normal, put (put (put (put (put (put (put (put (put (put (put (put (put (put (put (put (put t14 16 (t14 0)) 17 v15) 18 v16) 19 v17) 20 q18.1) 4 q18.1) 21 v19) 22 v20) 23 q18.1) 24 (t14 0)) 25 v21) 26 v22) 27 q18.1) 28 v23) 29 v24) 30 q25.1) 31 v26, H27, q25.2.2⟩)
    (some ⟨.normal, t14, q9.2.1, q9.2.2⟩)
  ).bind fun (o13 : Out) =>
  (C 57 [o13.t 0, .int .i64 60] o13.H (o13.n + 2)).bind fun q28 =>
  let t30 : Tm := put (put o13.t 32 (o13.t 0)) 33 q28.1
  (csel q28.1
    ((C 56 [t30 0, .int .i64 2] q28.2.1 (q28.2.2 + 6)).bind fun q31 =>
     (binK .plain .add (.int .i64 3000) q31.1).bind fun v32 =>
     (mks (q28.2.2 + 3) 5 48 [.int .i64 0, .int .i64 0, .string ⟨#[]⟩, .int .i64 0, .int .i64 0] v32 v32 q31.2.1).bind fun p33 =>
     (fieldA 0 (t30 3)).bind fun v34 =>
     (st false 1 v34 p33.1 p33.2).bind fun H35 =>
     (L (S55L0 C L) (put (put (put (put (put (put t30 34 (t30 0)) 35 q31.1) 36 v32) 37 p33.1) 38 v34) 5 (.int .i64 0)) H35 (q31.2.2 + 1)).bind fun (o36 : Out) =>
     some ⟨.normal, o36.t, o36.H, o36.n⟩)
    (some ⟨.normal, t30, q28.2.1, q28.2.2⟩)
  ).bind fun (o29 : Out) =>
  (ld true 1 (o29.t 3) o29.H).bind fun v47 =>
  (st true 1 (o29.t 2) v47 o29.H).bind fun H48 =>
  (ld true 1 (o29.t 2) H48).bind fun v49 =>
  some (v49, H48, o29.n + 2)
theorem s55 (C : Calling) (L : Body → Body) (t : Tm) (H : Hp) (n : Nat) : bodyK Try.prog C L Try.f55 t H n = S55 C L t H n := by kernel_rfl
theorem c55 (args : List Value) (H : Hp) (n : Nat) : Call Try.prog 55 args H n = S55 (Call Try.prog) Loop (argsT args) H n := (Call_body Try.func55 args H n).trans (s55 ..)
/-! 56: spec.l1Below -/
noncomputable def S56 (C : Calling) (L : Body → Body) (t : Tm) (H : Hp) (n : Nat) : Option (Value × Hp × Nat) :=
  (binK .plain .leq (t 1) (.int .i64 0)).bind fun v1 =>
  csel v1
    (some (.int .i64 0, H, n + 4))
    ((binK .plain .leq (t 1) (.int .i64 256)).bind fun v2 =>
     csel v2
       ((C 99 [t 0] H (n + 10)).bind fun q3 =>
        (binK .plain .rem q3.1 (t 1)).bind fun v4 =>
        some (v4, q3.2.1, q3.2.2))
       ((C 99 [t 0] H (n + 8)).bind fun q5 =>
        (C 99 [t 0] q5.2.1 (q5.2.2 + 3)).bind fun q6 =>
        (C 99 [t 0] q6.2.1 (q6.2.2 + 3)).bind fun q7 =>
        (C 99 [t 0] q7.2.1 (q7.2.2 + 3)).bind fun q8 =>
        (binK .plain .mul q5.1 (.int .i64 16777216)).bind fun v9 =>
        (binK .plain .mul q6.1 (.int .i64 65536)).bind fun v10 =>
        (binK .plain .add v9 v10).bind fun v11 =>
        (binK .plain .mul q7.1 (.int .i64 256)).bind fun v12 =>
        (binK .plain .add v11 v12).bind fun v13 =>
        (binK .plain .add v13 q8.1).bind fun v14 =>
        (binK .plain .rem v14 (t 1)).bind fun v15 =>
        some (v15, q8.2.1, q8.2.2 + 13)))
theorem s56 (C : Calling) (L : Body → Body) (t : Tm) (H : Hp) (n : Nat) : bodyK Try.prog C L Try.f56 t H n = S56 C L t H n := by kernel_rfl
theorem c56 (args : List Value) (H : Hp) (n : Nat) : Call Try.prog 56 args H n = S56 (Call Try.prog) Loop (argsT args) H n := (Call_body Try.func56 args H n).trans (s56 ..)
/-! 57: spec.l1Once -/
noncomputable def S57 (C : Calling) (L : Body → Body) (t : Tm) (H : Hp) (n : Nat) : Option (Value × Hp × Nat) :=
  (C 56 [t 0, t 1] H (n + 6)).bind fun q1 =>
  (binK .plain .eql q1.1 (.int .i64 0)).bind fun v2 =>
  some (v2, q1.2.1, q1.2.2)
theorem s57 (C : Calling) (L : Body → Body) (t : Tm) (H : Hp) (n : Nat) : bodyK Try.prog C L Try.f57 t H n = S57 C L t H n := by kernel_rfl
theorem c57 (args : List Value) (H : Hp) (n : Nat) : Call Try.prog 57 args H n = S57 (Call Try.prog) Loop (argsT args) H n := (Call_body Try.func57 args H n).trans (s57 ..)
/-! 58: spec.l2Add -/
noncomputable def S58 (C : Calling) (L : Body → Body) (t : Tm) (H : Hp) (n : Nat) : Option (Value × Hp × Nat) :=
  (vcells (t 1)).bind fun c2 =>
  let H1 := H.set (n) (some (.row c2 0 true))
  (nilchk (t 0)).bind fun v3 =>
  (fieldA 0 v3).bind fun v4 =>
  (ld false 1 v4 H1).bind fun v5 =>
  (ld true 5 (ptr (n) 0) H1).bind fun v6 =>
  (bsl (n + 8) 5 1 [.int .i64 0, .int .i64 0, .string ⟨#[]⟩, .int .i64 0, .int .i64 0] [(0, 5, v6)] H1).bind fun p7 =>
  (app (n + 9) 5 48 v5 p7.1 p7.2).bind fun p8 =>
  (nilchk (t 0)).bind fun v9 =>
  (fieldA 0 v9).bind fun v10 =>
  (st false 1 v10 p8.1 p8.2).bind fun H11 =>
  (nilchk (t 0)).bind fun v12 =>
  (fieldA 0 v12).bind fun v13 =>
  (ld false 1 v13 H11).bind fun v14 =>
  (lenV false v14).bind fun v15 =>
  (binK .plain .sub v15 (.int .i64 1)).bind fun v16 =>
  some (v16, H11, n + 20)
theorem s58 (C : Calling) (L : Body → Body) (t : Tm) (H : Hp) (n : Nat) : bodyK Try.prog C L Try.f58 t H n = S58 C L t H n := by kernel_rfl
theorem c58 (args : List Value) (H : Hp) (n : Nat) : Call Try.prog 58 args H n = S58 (Call Try.prog) Loop (argsT args) H n := (Call_body Try.func58 args H n).trans (s58 ..)
/-! 59: spec.l1PickInt -/
noncomputable def S59 (C : Calling) (L : Body → Body) (t : Tm) (H : Hp) (n : Nat) : Option (Value × Hp × Nat) :=
  (lenV false (t 1)).bind fun v1 =>
  (C 56 [t 0, v1] H (n + 9)).bind fun q2 =>
  (idxA 1 (t 1) q2.1).bind fun v3 =>
  (ld false 1 v3 q2.2.1).bind fun v4 =>
  some (v4, q2.2.1, q2.2.2)
theorem s59 (C : Calling) (L : Body → Body) (t : Tm) (H : Hp) (n : Nat) : bodyK Try.prog C L Try.f59 t H n = S59 C L t H n := by kernel_rfl
theorem c59 (args : List Value) (H : Hp) (n : Nat) : Call Try.prog 59 args H n = S59 (Call Try.prog) Loop (argsT args) H n := (Call_body Try.func59 args H n).trans (s59 ..)
/-! 60: spec.PrimArgs -/
noncomputable def S60 (C : Calling) (L : Body → Body) (t : Tm) (H : Hp) (n : Nat) : Option (Value × Hp × Nat) :=
  (C 45 [t 0, .int .i64 1, .int .i64 19] H (n + 4)).bind fun q1 =>
  (un .not q1.1).bind fun v2 =>
  csel v2
    (some (.int .i64 (-1), q1.2.1, q1.2.2 + 1))
    ((bsl (q1.2.2) 1 20 [.int .i64 0] [(0, 1, .int .i64 0), (1, 1, .int .i64 2), (2, 1, .int .i64 2), (3, 1, .int .i64 2), (4, 1, .int .i64 2), (5, 1, .int .i64 2), (6, 1, .int .i64 2), (7, 1, .int .i64 1), (8, 1, .int .i64 1), (9, 1, .int .i64 1), (10, 1, .int .i64 1), (11, 1, .int .i64 2), (12, 1, .int .i64 1), (13, 1, .int .i64 1), (14, 1, .int .i64 0), (15, 1, .int .i64 2), (16, 1, .int .i64 0), (17, 1, .int .i64 1), (18, 1, .int .i64 1), (19, 1, .int .i64 1)] q1.2.1).bind fun p3 =>
     (idxA 1 p3.1 (t 0)).bind fun v4 =>
     (ld false 1 v4 p3.2).bind fun v5 =>
     some (v5, p3.2, q1.2.2 + 5))
theorem s60 (C : Calling) (L : Body → Body) (t : Tm) (H : Hp) (n : Nat) : bodyK Try.prog C L Try.f60 t H n = S60 C L t H n := by kernel_rfl
theorem c60 (args : List Value) (H : Hp) (n : Nat) : Call Try.prog 60 args H n = S60 (Call Try.prog) Loop (argsT args) H n := (Call_body Try.func60 args H n).trans (s60 ..)
/-! 61: spec.l2DrawAt -/
noncomputable def S61 (C : Calling) (L : Body → Body) (t : Tm) (H : Hp) (n : Nat) : Option (Value × Hp × Nat) :=
  (vcells (t 1)).bind fun c2 =>
  let H1 := H.set (n) (some (.row c2 0 true))
  (fieldA 0 (ptr (n) 0)).bind fun v3 =>
  (ld false 1 v3 H1).bind fun v4 =>
  (lenV false v4).bind fun v5 =>
  (binK .plain .eql v5 (.int .i64 0)).bind fun v6 =>
  let t8 : Tm := put (put (put (put (put (put (put t 3 (ptr (n) 0)) 4 (.int .i64 0)) 5 v3) 6 v4) 7 v5) 8 v6) 9 v6
  (gsel v6 false
    ((C 57 [t8 0, .int .i64 20] H1 (n + 10)).bind fun q9 =>
     some (put (put t8 10 (t8 0)) 11 q9.1, q9.2.1, q9.2.2))
    (some (put (put t8 10 (.tuple #[])) 11 (.tuple #[]), H1, n + 10))
  ).bind fun (q7 : R3) =>
  (pickV (q7.1 9) (.bool true) (q7.1 11)).bind fun v10 =>
  csel v10
    ((fieldA 0 (q7.1 3)).bind fun v11 =>
     (ld false 1 v11 q7.2.1).bind fun v12 =>
     (lenV false v12).bind fun v13 =>
     (bsl (q7.2.2 + 4) 1 3 [.int .i64 0] [(0, 1, .int .i64 (-1)), (1, 1, .int .i64 0), (2, 1, v13)] q7.2.1).bind fun p14 =>
     (C 59 [q7.1 0, p14.1] p14.2 (q7.2.2 + 7)).bind fun q15 =>
     some (q15.1, q15.2.1, q15.2.2))
    ((fieldA 0 (q7.1 3)).bind fun v16 =>
     (ld false 1 v16 q7.2.1).bind fun v17 =>
     (lenV false v17).bind fun v18 =>
     (binK .plain .sub v18 (.int .i64 1)).bind fun v19 =>
     (fieldA 0 (q7.1 3)).bind fun v20 =>
     (ld false 1 v20 q7.2.1).bind fun v21 =>
     (lenV false v21).bind fun v22 =>
     (C 100 [v22, .int .i64 9] q7.2.1 (q7.2.2 + 12)).bind fun q23 =>
     ask (ld false 1 v16 q23.2.1 = some v17) <|
     (C 56 [q7.1 0, q23.1] q23.2.1 (q23.2.2)).bind fun q24 =>
     ask (ld false 1 v16 q24.2.1 = some v17) <|
     (binK .plain .sub v19 q24.1).bind fun v25 =>
     some (v25, q24.2.1, q24.2.2))
theorem s61 (C : Calling) (L : Body → Body) (t : Tm) (H : Hp) (n : Nat) : bodyK Try.prog C L Try.f61 t H n = S61 C L t H n := by kernel_rfl
theorem c61 (args : List Value) (H : Hp) (n : Nat) : Call Try.prog 61 args H n = S61 (Call Try.prog) Loop (argsT args) H n := (Call_body Try.func61 args H n).trans (s61 ..)
/-! 62: impl.PrimArgs -/
noncomputable def S62 (C : Calling) (L : Body → Body) (t : Tm) (H : Hp) (n : Nat) : Option (Value × Hp × Nat) :=
  (C 51 [t 0, .int .i64 1, .int .i64 19] H (n + 4)).bind fun q1 =>
  (un .not q1.1).bind fun v2 =>
  csel v2
    (some (.int .i64 (-1), q1.2.1, q1.2.2 + 1))
    ((bsl (q1.2.2) 1 19 [.int .i64 0] [(0, 1, .int .i64 2), (1, 1, .int .i64 2), (2, 1, .int .i64 2), (3, 1, .int .i64 2), (4, 1, .int .i64 2), (5, 1, .int .i64 2), (6, 1, .int .i64 1), (7, 1, .int .i64 1), (8, 1, .int .i64 1), (9, 1, .int .i64 1), (10, 1, .int .i64 2), (11, 1, .int .i64 1), (12, 1, .int .i64 1), (13, 1, .int .i64 0), (14, 1, .int .i64 2), (15, 1, .int .i64 0), (16, 1, .int .i64 1), (17, 1, .int .i64 1), (18, 1, .int .i64 1)] q1.2.1).bind fun p3 =>
     (binK .plain .sub (t 0) (.int .i64 1)).bind fun v4 =>
     (idxA 1 p3.1 v4).bind fun v5 =>
     (ld false 1 v5 p3.2).bind fun v6 =>
     some (v6, p3.2, q1.2.2 + 6))
theorem s62 (C : Calling) (L : Body → Body) (t : Tm) (H : Hp) (n : Nat) : bodyK Try.prog C L Try.f62 t H n = S62 C L t H n := by kernel_rfl
theorem c62 (args : List Value) (H : Hp) (n : Nat) : Call Try.prog 62 args H n = S62 (Call Try.prog) Loop (argsT args) H n := (Call_body Try.func62 args H n).trans (s62 ..)
/-! 63: slices.ContainsFunc[[]int,int] -/
noncomputable def S63 (C : Calling) (L : Body → Body) (t : Tm) (H : Hp) (n : Nat) : Option (Value × Hp × Nat) :=
  (C 101 [t 0, t 1] H (n + 6)).bind fun q1 =>
  (binK .plain .geq q1.1 (.int .i64 0)).bind fun v2 =>
  some (v2, q1.2.1, q1.2.2)
theorem s63 (C : Calling) (L : Body → Body) (t : Tm) (H : Hp) (n : Nat) : bodyK Try.prog C L Try.f63 t H n = S63 C L t H n := by kernel_rfl
theorem c63 (args : List Value) (H : Hp) (n : Nat) : Call Try.prog 63 args H n = S63 (Call Try.prog) Loop (argsT args) H n := (Call_body Try.func63 args H n).trans (s63 ..)
/-! 64: impl.PrimDo$1 -/
noncomputable def S64 (C : Calling) (L : Body → Body) (t : Tm) (H : Hp) (n : Nat) : Option (Value × Hp × Nat) :=
  (ld true 1 (t 1) H).bind fun v1 =>
  (C 65 [v1, t 0] H (n + 6)).bind fun q2 =>
  (un .not q2.1).bind fun v3 =>
  some (v3, q2.2.1, q2.2.2)
theorem s64 (C : Calling) (L : Body → Body) (t : Tm) (H : Hp) (n : Nat) : bodyK Try.prog C L Try.f64 t H n = S64 C L t H n := by kernel_rfl
theorem c64 (args : List Value) (H : Hp) (n : Nat) : Call Try.prog 64 args H n = S64 (Call Try.prog) Loop (argsT args) H n := (Call_body Try.func64 args H n).trans (s64 ..)
/-! 65: impl.isNode -/
noncomputable def S65 (C : Calling) (L : Body → Body) (t : Tm) (H : Hp) (n : Nat) : Option (Value × Hp × Nat) :=
  (vcells (t 0)).bind fun c2 =>
  let H1 := H.set (n) (some (.row c2 0 true))
  (fieldA 0 (ptr (n) 0)).bind fun v3 =>
  (ld false 1 v3 H1).bind fun v4 =>
  (lenV false v4).bind fun v5 =>
  (binK .plain .sub v5 (.int .i64 1)).bind fun v6 =>
  (C 51 [t 1, .int .i64 0, v6] H1 (n + 9)).bind fun q7 =>
  some (q7.1, q7.2.1, q7.2.2)
theorem s65 (C : Calling) (L : Body → Body) (t : Tm) (H : Hp) (n : Nat) : bodyK Try.prog C L Try.f65 t H n = S65 C L t H n := by kernel_rfl
theorem c65 (args : List Value) (H : Hp) (n : Nat) : Call Try.prog 65 args H n = S65 (Call Try.prog) Loop (argsT args) H n := (Call_body Try.func65 args H n).trans (s65 ..)
/-! 66: impl.copyPool -/
noncomputable def S66 (C : Calling) (L : Body → Body) (t : Tm) (H : Hp) (n : Nat) : Option (Value × Hp × Nat) :=
  (vcells (t 0)).bind fun c2 =>
  let H1 := H.set (n) (some (.row c2 0 true))
  let H3 := H1.set (n + 1) (some (.row [nilS] 0 true))
  (fieldA 0 (ptr (n) 0)).bind fun v4 =>
  (ld false 1 v4 H3).bind fun v5 =>
  (C 102 [v5] H3 (n + 7)).bind fun q6 =>
  (bld [nilS] [(0, 1, q6.1)]).bind fun v7 =>
  (st true 1 (ptr (n + 1) 0) v7 q6.2.1).bind fun H8 =>
  (ld true 1 (ptr (n + 1) 0) H8).bind fun v9 =>
  some (v9, H8, q6.2.2)
theorem s66 (C : Calling) (L : Body → Body) (t : Tm) (H : Hp) (n : Nat) : bodyK Try.prog C L Try.f66 t H n = S66 C L t H n := by kernel_rfl
theorem c66 (args : List Value) (H : Hp) (n : Nat) : Call Try.prog 66 args H n = S66 (Call Try.prog) Loop (argsT args) H n := (Call_body Try.func66 args H n).trans (s66 ..)
/-! 67: impl.Pool).prim -/
noncomputable def S67L0 (C : Calling) (L : Body → Body) : Body := fun t H n =>
  (binK .plain .lss (t 13) (t 12)).bind fun v3 =>
  csel v3
    ((idxA 1 (t 11) (t 13)).bind fun v4 =>
     (ld false 1 v4 H).bind fun v5 =>
     (binK .plain .leq (t 1) (.int .i64 5)).bind fun v6 =>
     let t8 : Tm := put (put (put (put (put (put (put t 14 v3) 15 v4) 16 v5) 9 v5) 17 (t 1)) 18 v6) 19 v6
     (gsel v6 true
       ((nilchk (t8 0)).bind fun v9 =>
        (fieldA 0 v9).bind fun v10 =>
        (ld false 1 v10 H).bind fun v11 =>
        (idxA 5 v11 v5).bind fun v12 =>
        (fieldA 0 v12).bind fun v13 =>
        (ld false 1 v13 H).bind fun v14 =>
        (binK .plain .neq v14 (.int .i64 3)).bind fun v15 =>
        some (put (put (put (put (put (put (put (put (put t8 20 (t8 0)) 21 v9) 22 v10) 23 v11) 24 v5) 25 v12) 26 v13) 27 v14) 28 v15, H, n + 36))
       (some (put (put (put (put (put (put (put (put (put t8 20 (.tuple #[])) 21 (.tuple #[])) 22 (.tuple #[])) 23 (.tuple #[])) 24 (.tuple #[])) 25 (.tuple #[])) 26 (.tuple #[])) 27 (.tuple #[])) 28 (.tuple #[]), H, n + 36))
     ).bind fun (q7 : R3) =>
     (pickV (q7.1 19) (q7.1 28) (.bool false)).bind fun v16 =>
     let t18 : Tm := put (put q7.1 29 v16) 30 v16
     (gsel v16 false
       ((binK .plain .eql (t18 1) (.int .i64 7)).bind fun v19 =>
        some (put (put (put t18 31 (t18 1)) 32 v19) 33 v19, q7.2.1, q7.2.2))
       (some (put (put (put t18 31 (.tuple #[])) 32 (.tuple #[])) 33 (.tuple #[]), q7.2.1, q7.2.2))
     ).bind fun (q17 : R3) =>
     let t21 : Tm := q17.1
     (gsel (q17.1 33) false
       ((binK .plain .eql (t21 1) (.int .i64 8)).bind fun v22 =>
        some (put (put t21 34 (t21 1)) 35 v22, q17.2.1, q17.2.2))
       (some (put (put t21 34 (.tuple #[])) 35 (.tuple #[]), q17.2.1, q17.2.2))
     ).bind fun (q20 : R3) =>
     let t24 : Tm := q20.1
     (gsel (q20.1 30) false
       ((pickV (t24 33) (.bool true) (t24 35)).bind fun v25 =>
        some (put (put t24 36 v25) 37 v25, q20.2.1, q20.2.2))
       (some (put (put t24 36 (.tuple #[])) 37 (.tuple #[]), q20.2.1, q20.2.2))
     ).bind fun (q23 : R3) =>
     let t27 : Tm := q23.1
     (gsel (q23.1 37) true
       ((nilchk (t27 0)).bind fun v28 =>
        (fieldA 0 v28).bind fun v29 =>
        (ld false 1 v29 q23.2.1).bind fun v30 =>
        (idxA 5 v30 (t27 9)).bind fun v31 =>
        (fieldA 0 v31).bind fun v32 =>
        (ld false 1 v32 q23.2.1).bind fun v33 =>
        (binK .plain .neq v33 (.int .i64 5)).bind fun v34 =>
        some (put (put (put (put (put (put (put (put (put t27 38 (t27 0)) 39 v28) 40 v29) 41 v30) 42 (t27 9)) 43 v31) 44 v32) 45 v33) 46 v34, q23.2.1, q23.2.2))
       (some (put (put (put (put (put (put (put (put (put t27 38 (.tuple #[])) 39 (.tuple #[])) 40 (.tuple #[])) 41 (.tuple #[])) 42 (.tuple #[])) 43 (.tuple #[])) 44 (.tuple #[])) 45 (.tuple #[])) 46 (.tuple #[]), q23.2.1, q23.2.2))
     ).bind fun (q26 : R3) =>
     let t36 : Tm := q26.1
     (gsel (q26.1 30) false
       ((pickV (t36 37) (t36 46) (.bool false)).bind fun v37 =>
        some (put t36 47 v37, q26.2.1, q26.2.2))
       (some (put t36 47 (.tuple #[]), q26.2.1, q26.2.2))
     ).bind fun (q35 : R3) =>
     (pickV (q35.1 30) (.bool true) (q35.1 47)).bind fun v38 =>
     csel v38
       (some ⟨.ret, put (put (put q35.1 48 v38) 6 (.int .i64 (-1))) 7 (.int .i64 3), q35.2.1, q35.2.2 + 2⟩)
       ((binK .plain .add (q35.1 13) (.int .i64 1)).bind fun v39 =>
        some ⟨.normal, put (put (put q35.1 48 v38) 49 v39) 13 v39, q35.2.1, q35.2.2 + 2⟩))
    (some ⟨(.exit 0), put t 14 v3, H, n + 1⟩)
noncomputable def S67 (C : Calling) (L : Body → Body) (t : Tm) (H : Hp) (n : Nat) : Option (Value × Hp × Nat) :=
  (lenV false (t 2)).bind fun v1 =>
  (L (S67L0 C L) (put (put (put (put (put t 6 (.int .i64 0)) 7 (.int .i64 0)) 11 (t 2)) 12 v1) 13 (.int .i64 0)) H (n + 5)).bind fun (o2 : Out) =>
  let o40 := outOf 0 o2
  thenK o40
    ((binK .plain .eql (o40.t 1) (.int .i64 7)).bind fun v41 =>
     csel v41
       ((nilchk (o40.t 0)).bind fun v42 =>
        (fieldA 0 v42).bind fun v43 =>
        (ld false 1 v43 o40.H).bind fun v44 =>
        (idxA 1 (o40.t 2) (.int .i64 0)).bind fun v45 =>
        (ld false 1 v45 o40.H).bind fun v46 =>
        (idxA 5 v44 v46).bind fun v47 =>
        (fieldA 3 v47).bind fun v48 =>
        (ld false 1 v48 o40.H).bind fun v49 =>
        iteK ([v49, .int .i64 0].all notTup) <|
        some (.tuple ⟨[v49, .int .i64 0]⟩, o40.H, o40.n + 15))
       ((binK .plain .eql (o40.t 1) (.int .i64 8)).bind fun v50 =>
        csel v50
          ((nilchk (o40.t 0)).bind fun v51 =>
           (fieldA 0 v51).bind fun v52 =>
           (ld false 1 v52 o40.H).bind fun v53 =>
           (idxA 1 (o40.t 2) (.int .i64 0)).bind fun v54 =>
           (ld false 1 v54 o40.H).bind fun v55 =>
           (idxA 5 v53 v55).bind fun v56 =>
           (fieldA 4 v56).bind fun v57 =>
           (ld false 1 v57 o40.H).bind fun v58 =>
           iteK ([v58, .int .i64 0].all notTup) <|
           some (.tuple ⟨[v58, .int .i64 0]⟩, o40.H, o40.n + 17))
          ((nilchk (o40.t 0)).bind fun v59 =>
           (ld true 1 v59 o40.H).bind fun v60 =>
           (C 103 [v60, o40.t 1, o40.t 2] o40.H (o40.n + 13)).bind fun q61 =>
           let H62 := q61.2.1.set (o40.n + 11) (some (.row [.int .i64 0, .int .i64 0, .string ⟨#[]⟩, .int .i64 0, .int .i64 0] 0 true))
           (st true 5 (ptr (o40.n + 11) 0) q61.1 H62).bind fun H63 =>
           (fieldA 1 (ptr (o40.n + 11) 0)).bind fun v64 =>
           (ld false 1 v64 H63).bind fun v65 =>
           (C 51 [v65, .int .i64 (-1000000000), .int .i64 1000000000] H63 (q61.2.2 + 4)).bind fun q66 =>
           (un .not q66.1).bind fun v67 =>
           csel v67
             (iteK ([.int .i64 (-1), .int .i64 4].all notTup) <|
              some (.tuple ⟨[.int .i64 (-1), .int .i64 4]⟩, q66.2.1, q66.2.2 + 2))
             ((ld true 5 (ptr (o40.n + 11) 0) q66.2.1).bind fun v68 =>
              (C 104 [o40.t 0, v68] q66.2.1 (q66.2.2 + 5)).bind fun q69 =>
              iteK ([q69.1, .int .i64 0].all notTup) <|
              some (.tuple ⟨[q69.1, .int .i64 0]⟩, q69.2.1, q69.2.2)))))
    (finE o40.e
       (iteK ([o40.t 6, o40.t 7].all notTup) <|
        some (.tuple ⟨[o40.t 6, o40.t 7]⟩, o40.H, o40.n)))
theorem s67 (C : Calling) (L : Body → Body) (t : Tm) (H : Hp) (n : Nat) : bodyK Try.prog C L Try.f67 t H n = S67 C L t H n := by kernel_rfl
theorem c67 (args : List Value) (H : Hp) (n : Nat) : Call Try.prog 67 args H n = S67 (Call Try.prog) Loop (argsT args) H n := (Call_body Try.func67 args H n).trans (s67 ..)
/-! 68: spec.l2Has -/
noncomputable def S68 (C : Calling) (L : Body → Body) (t : Tm) (H : Hp) (n : Nat) : Option (Value × Hp × Nat) :=
  (vcells (t 0)).bind fun c2 =>
  let H1 := H.set (n) (some (.row c2 0 true))
  (fieldA 0 (ptr (n) 0)).bind fun v3 =>
  (ld false 1 v3 H1).bind fun v4 =>
  (lenV false v4).bind fun v5 =>
  (binK .plain .sub v5 (.int .i64 1)).bind fun v6 =>
  (C 45 [t 1, .int .i64 0, v6] H1 (n + 9)).bind fun q7 =>
  some (q7.1, q7.2.1, q7.2.2)
theorem s68 (C : Calling) (L : Body → Body) (t : Tm) (H : Hp) (n : Nat) : bodyK Try.prog C L Try.f68 t H n = S68 C L t H n := by kernel_rfl
theorem c68 (args : List Value) (H : Hp) (n : Nat) : Call Try.prog 68 args H n = S68 (Call Try.prog) Loop (argsT args) H n := (Call_body Try.func68 args H n).trans (s68 ..)
/-! 69: spec.l2Copy -/
noncomputable def S69 (C : Calling) (L : Body → Body) (t : Tm) (H : Hp) (n : Nat) : Option (Value × Hp × Nat) :=
  (vcells (t 0)).bind fun c2 =>
  let H1 := H.set (n) (some (.row c2 0 true))
  let H3 := H1.set (n + 1) (some (.row [nilS] 0 true))
  (bsl (n + 2) 5 0 [.int .i64 0, .int .i64 0, .string ⟨#[]⟩, .int .i64 0, .int .i64 0] [] H3).bind fun p4 =>
  (fieldA 0 (ptr (n) 0)).bind fun v5 =>
  (ld false 1 v5 p4.2).bind fun v6 =>
  (app (n + 5) 5 48 p4.1 v6 p4.2).bind fun p7 =>
  (bld [nilS] [(0, 1, p7.1)]).bind fun v8 =>
  (st true 1 (ptr (n + 1) 0) v8 p7.2).bind fun H9 =>
  (ld true 1 (ptr (n + 1) 0) H9).bind fun v10 =>
  some (v10, H9, n + 8)
theorem s69 (C : Calling) (L : Body → Body) (t : Tm) (H : Hp) (n : Nat) : bodyK Try.prog C L Try.f69 t H n = S69 C L t H n := by kernel_rfl
theorem c69 (args : List Value) (H : Hp) (n : Nat) : Call Try.prog 69 args H n = S69 (Call Try.prog) Loop (argsT args) H n := (Call_body Try.func69 args H n).trans (s69 ..)
/-! 70: spec.l5Do -/
noncomputable def S70 (C : Calling) (L : Body → Body) (t : Tm) (H : Hp) (n : Nat) : Option (Value × Hp × Nat) :=
  (nilchk (t 0)).bind fun v1 =>
  (fieldA 0 v1).bind fun v2 =>
  (ld false 1 v2 H).bind fun v3 =>
  (idxA 1 (t 2) (.int .i64 0)).bind fun v4 =>
  (ld false 1 v4 H).bind fun v5 =>
  (idxA 5 v3 v5).bind fun v6 =>
  (ld true 5 v6 H).bind fun v7 =>
  let H8 := H.set (n + 11) (some (.row [.int .i64 0, .int .i64 0, .string ⟨#[]⟩, .int .i64 0, .int .i64 0] 0 true))
  (st true 5 (ptr (n + 11) 0) v7 H8).bind fun H9 =>
  (binK .plain .leq (t 1) (.int .i64 5)).bind fun v10 =>
  csel v10
    ((ld true 5 (ptr (n + 11) 0) H9).bind fun v11 =>
     (nilchk (t 0)).bind fun v12 =>
     (fieldA 0 v12).bind fun v13 =>
     (ld false 1 v13 H9).bind fun v14 =>
     (idxA 1 (t 2) (.int .i64 1)).bind fun v15 =>
     (ld false 1 v15 H9).bind fun v16 =>
     (idxA 5 v14 v16).bind fun v17 =>
     (ld true 5 v17 H9).bind fun v18 =>
     (C 105 [t 1, v11, v18] H9 (n + 34)).bind fun q19 =>
     (ext 0 q19.1).bind fun v20 =>
     (ext 1 q19.1).bind fun v21 =>
     let H22 := q19.2.1.set (n + 31) (some (.row [.int .i64 0, .int .i64 0, .string ⟨#[]⟩, .int .i64 0, .int .i64 0] 0 true))
     (st true 5 (ptr (n + 31) 0) v20 H22).bind fun H23 =>
     (binK .plain .neq v21 (.int .i64 0)).bind fun v24 =>
     csel v24
       (iteK ([.int .i64 (-1), v21].all notTup) <|
        some (.tuple ⟨[.int .i64 (-1), v21]⟩, H23, q19.2.2 + 5))
       ((ld true 5 (ptr (n + 31) 0) H23).bind fun v25 =>
        (C 58 [t 0, v25] H23 (q19.2.2 + 8)).bind fun q26 =>
        iteK ([q26.1, v21].all notTup) <|
        some (.tuple ⟨[q26.1, v21]⟩, q26.2.1, q26.2.2)))
    ((binK .plain .eql (t 1) (.int .i64 6)).bind fun v27 =>
     csel v27
       ((idxA 1 (t 2) (.int .i64 0)).bind fun v28 =>
        (ld false 1 v28 H9).bind fun v29 =>
        (idxA 1 (t 2) (.int .i64 1)).bind fun v30 =>
        (ld false 1 v30 H9).bind fun v31 =>
        (bld [.int .i64 0, .int .i64 0, .string ⟨#[]⟩, .int .i64 0, .int .i64 0] [(0, 1, .int .i64 5), (3, 1, v29), (4, 1, v31)]).bind fun v32 =>
        (C 58 [t 0, v32] H9 (n + 30)).bind fun q33 =>
        iteK ([q33.1, .int .i64 0].all notTup) <|
        some (.tuple ⟨[q33.1, .int .i64 0]⟩, q33.2.1, q33.2.2))
       ((binK .plain .leq (t 1) (.int .i64 8)).bind fun v34 =>
        csel v34
          ((fieldA 0 (ptr (n + 11) 0)).bind fun v35 =>
           (ld false 1 v35 H9).bind fun v36 =>
           (binK .plain .neq v36 (.int .i64 5)).bind fun v37 =>
           csel v37
             (iteK ([.int .i64 (-1), .int .i64 3].all notTup) <|
              some (.tuple ⟨[.int .i64 (-1), .int .i64 3]⟩, H9, n + 27))
             ((binK .plain .eql (t 1) (.int .i64 7)).bind fun v38 =>
              csel v38
                ((fieldA 3 (ptr (n + 11) 0)).bind fun v39 =>
                 (ld false 1 v39 H9).bind fun v40 =>
                 iteK ([v40, .int .i64 0].all notTup) <|
                 some (.tuple ⟨[v40, .int .i64 0]⟩, H9, n + 31))
                ((fieldA 4 (ptr (n + 11) 0)).bind fun v41 =>
                 (ld false 1 v41 H9).bind fun v42 =>
                 iteK ([v42, .int .i64 0].all notTup) <|
                 some (.tuple ⟨[v42, .int .i64 0]⟩, H9, n + 31))))
          ((binK .plain .eql (t 1) (.int .i64 9)).bind fun v43 =>
           csel v43
             ((fieldA 0 (ptr (n + 11) 0)).bind fun v44 =>
              (ld false 1 v44 H9).bind fun v45 =>
              (binK .plain .eql v45 (.int .i64 1)).bind fun v46 =>
              (C 106 [v46] H9 (n + 33)).bind fun q47 =>
              (C 58 [t 0, q47.1] q47.2.1 (q47.2.2)).bind fun q48 =>
              iteK ([q48.1, .int .i64 0].all notTup) <|
              some (.tuple ⟨[q48.1, .int .i64 0]⟩, q48.2.1, q48.2.2))
             ((binK .plain .eql (t 1) (.int .i64 10)).bind fun v49 =>
              csel v49
                ((fieldA 0 (ptr (n + 11) 0)).bind fun v50 =>
                 (ld false 1 v50 H9).bind fun v51 =>
                 (binK .plain .eql v51 (.int .i64 5)).bind fun v52 =>
                 (C 106 [v52] H9 (n + 36)).bind fun q53 =>
                 (C 58 [t 0, q53.1] q53.2.1 (q53.2.2)).bind fun q54 =>
                 iteK ([q54.1, .int .i64 0].all notTup) <|
                 some (.tuple ⟨[q54.1, .int .i64 0]⟩, q54.2.1, q54.2.2))
                ((binK .plain .eql (t 1) (.int .i64 11)).bind fun v55 =>
                 csel v55
                   ((nilchk (t 0)).bind fun v56 =>
                    (ld true 1 v56 H9).bind fun v57 =>
                    (C 107 [v57] H9 (n + 36)).bind fun q58 =>
                    (idxA 1 (t 2) (.int .i64 0)).bind fun v59 =>
                    (ld false 1 v59 q58.2.1).bind fun v60 =>
                    (idxA 1 q58.1 v60).bind fun v61 =>
                    (ld false 1 v61 q58.2.1).bind fun v62 =>
                    (idxA 1 (t 2) (.int .i64 1)).bind fun v63 =>
                    (ld false 1 v63 q58.2.1).bind fun v64 =>
                    (idxA 1 q58.1 v64).bind fun v65 =>
                    (ld false 1 v65 q58.2.1).bind fun v66 =>
                    (binK .plain .eql v62 v66).bind fun v67 =>
                    (C 106 [v67] q58.2.1 (q58.2.2 + 18)).bind fun q68 =>
                    (C 58 [t 0, q68.1] q68.2.1 (q68.2.2)).bind fun q69 =>
                    iteK ([q69.1, .int .i64 0].all notTup) <|
                    some (.tuple ⟨[q69.1, .int .i64 0]⟩, q69.2.1, q69.2.2))
                   ((fieldA 0 (ptr (n + 11) 0)).bind fun v70 =>
                    (ld false 1 v70 H9).bind fun v71 =>
                    (binK .plain .eql v71 (.int .i64 2)).bind fun v72 =>
                    let t74 : Tm := put (put (put (put (put (put (put (put (put (put (put (put (put (put (put (put (put (put (put (put (put (put (put (put (put (put (put (put (put (put (put (put (put (put (put t 6 (.int .i64 0)) 7 (.int .i64 0)) 12 (t 0)) 13 v1) 14 v2) 15 v3) 16 (t 2)) 17 v4) 18 v5) 19 v6) 20 v7) 8 (ptr (n + 11) 0)) 22 (t 1)) 23 v10) 21 v10) 47 (t 1)) 48 v27) 46 v27) 59 (t 1)) 60 v34) 58 v34) 71 (t 1)) 72 v43) 70 v43) 80 (t 1)) 81 v49) 79 v49) 89 (t 1)) 90 v55) 88 v55) 111 (t 0)) 112 v70) 113 v71) 114 v72) 115 v72
                    (gsel v72 true
                      ((fieldA 1 (ptr (n + 11) 0)).bind fun v75 =>
                       (ld false 1 v75 H9).bind fun v76 =>
                       (binK .plain .eql v76 (.int .i64 0)).bind fun v77 =>
                       some (put (put (put t74 116 v75) 117 v76) 118 v77, H9, n + 44))
                      (some (put (put (put t74 116 (.tuple #[])) 117 (.tuple #[])) 118 (.tuple #[]), H9, n + 44))
                    ).bind fun (q73 : R3) =>
                    (pickV (q73.1 115) (q73.1 118) (.bool false)).bind fun v78 =>
                    (C 106 [v78] q73.2.1 (q73.2.2)).bind fun q79 =>
                    (C 58 [q73.1 111, q79.1] q79.2.1 (q79.2.2)).bind fun q80 =>
                    iteK ([q80.1, .int .i64 0].all notTup) <|
                    some (.tuple ⟨[q80.1, .int .i64 0]⟩, q80.2.1, q80.2.2)))))))
theorem s70 (C : Calling) (L : Body → Body) (t : Tm) (H : Hp) (n : Nat) : bodyK Try.prog C L Try.f70 t H n = S70 C L t H n := by kernel_rfl
theorem c70 (args : List Value) (H : Hp) (n : Nat) : Call Try.prog 70 args H n = S70 (Call Try.prog) Loop (argsT args) H n := (Call_body Try.func70 args H n).trans (s70 ..)
/-! 71: impl.nodeOk -/
noncomputable def S71 (C : Calling) (L : Body → Body) (t : Tm) (H : Hp) (n : Nat) : Option (Value × Hp × Nat) :=
  (vcells (t 0)).bind fun c2 =>
  let H1 := H.set (n) (some (.row c2 0 true))
  (fieldA 2 (ptr (n) 0)).bind fun v3 =>
  (ld false 1 v3 H1).bind fun v4 =>
  (binK .plain .eql v4 (.string ⟨#[]⟩)).bind fun v5 =>
  (fieldA 3 (ptr (n) 0)).bind fun v6 =>
  (ld false 1 v6 H1).bind fun v7 =>
  (binK .plain .eql v7 (.int .i64 0)).bind fun v8 =>
  (fieldA 4 (ptr (n) 0)).bind fun v9 =>
  (ld false 1 v9 H1).bind fun v10 =>
  (binK .plain .eql v10 (.int .i64 0)).bind fun v11 =>
  (fieldA 0 (ptr (n) 0)).bind fun v12 =>
  (ld false 1 v12 H1).bind fun v13 =>
  (binK .plain .eql v13 (.int .i64 1)).bind fun v14 =>
  let t16 : Tm := put (put (put (put (put (put (put (put (put (put (put (put (put (put (put (put (put (put (put (put t 2 (ptr (n) 0)) 4 (.bool false)) 10 v3) 11 v4) 12 v5) 5 (.int .i64 0)) 6 (.int .i64 0)) 7 v5) 13 v6) 14 v7) 15 v8) 16 v9) 17 v10) 18 v11) 8 v8) 9 v11) 19 v12) 20 v13) 22 v14) 21 v14
  (csel v14
    (some ⟨.normal, t16, H1, n + 20⟩)
    ((binK .plain .eql v13 (.int .i64 2)).bind fun v17 =>
     let t19 : Tm := put (put t16 24 v17) 23 v17
     (csel v17
       (some ⟨.normal, put t19 6 (.int .i64 1), H1, n + 23⟩)
       ((binK .plain .eql v13 (.int .i64 3)).bind fun v20 =>
        let t22 : Tm := put (put t19 26 v20) 25 v20
        (csel v20
          (some ⟨.normal, put (put t22 5 (.int .i64 (-1000000000))) 6 (.int .i64 1000000000), H1, n + 26⟩)
          ((binK .plain .eql v13 (.int .i64 4)).bind fun v23 =>
           let t25 : Tm := put (put t22 28 v23) 27 v23
           (csel v23
             ((fieldA 2 (ptr (n) 0)).bind fun v26 =>
              (ld false 1 v26 H1).bind fun v27 =>
              (C 49 [v27] H1 (n + 30)).bind fun q28 =>
              some ⟨.normal, put (put (put (put t25 29 v26) 30 v27) 31 q28.1) 7 q28.1, q28.2.1, q28.2.2⟩)
             ((binK .plain .eql v13 (.int .i64 5)).bind fun v29 =>
              let t31 : Tm := put (put t25 33 v29) 32 v29
              (csel v29
                ((fieldA 3 (ptr (n) 0)).bind fun v32 =>
                 (ld false 1 v32 H1).bind fun v33 =>
                 (binK .plain .sub (t31 1) (.int .i64 1)).bind fun v34 =>
                 (C 51 [v33, .int .i64 0, v34] H1 (n + 40)).bind fun q35 =>
                 (fieldA 4 (ptr (n) 0)).bind fun v36 =>
                 (ld false 1 v36 q35.2.1).bind fun v37 =>
                 ask (ld false 1 v36 H1 = some v37) <|
                 (binK .plain .sub (t31 1) (.int .i64 1)).bind fun v38 =>
                 (C 51 [v37, .int .i64 0, v38] q35.2.1 (q35.2.2)).bind fun q39 =>
                 some ⟨.normal, put (put (put (put (put (put (put (put (put (put (put (put t31 34 v32) 35 v33) 36 (t31 1)) 37 v34) 38 q35.1) 39 v36) 40 v37) 41 (t31 1)) 42 v38) 43 q39.1) 8 q35.1) 9 q39.1, q39.2.1, q39.2.2⟩)
                ((binK .plain .eql v13 (.int .i64 6)).bind fun v40 =>
                 let t42 : Tm := put (put t31 45 v40) 44 v40
                 (csel v40
                   ((fieldA 3 (ptr (n) 0)).bind fun v43 =>
                    (ld false 1 v43 H1).bind fun v44 =>
                    (binK .plain .sub (t42 1) (.int .i64 1)).bind fun v45 =>
                    (C 51 [v44, .int .i64 0, v45] H1 (n + 37)).bind fun q46 =>
                    some ⟨.normal, put (put (put (put (put (put (put t42 46 v43) 47 v44) 48 (t42 1)) 49 v45) 50 q46.1) 6 (.int .i64 1000000000)) 8 q46.1, q46.2.1, q46.2.2⟩)
                   ((binK .plain .eql v13 (.int .i64 7)).bind fun v47 =>
                    let t49 : Tm := put (put t42 52 v47) 51 v47
                    (csel v47
                      ((fieldA 3 (ptr (n) 0)).bind fun v50 =>
                       (ld false 1 v50 H1).bind fun v51 =>
                       (binK .plain .sub (t49 1) (.int .i64 1)).bind fun v52 =>
                       (C 51 [v51, .int .i64 0, v52] H1 (n + 38)).bind fun q53 =>
                       some ⟨.normal, put (put (put (put (put (put t49 53 v50) 54 v51) 55 (t49 1)) 56 v52) 57 q53.1) 8 q53.1, q53.2.1, q53.2.2⟩)
                      ((binK .plain .eql v13 (.int .i64 8)).bind fun v54 =>
                       let t56 : Tm := put (put t49 59 v54) 58 v54
                       (csel v54
                         (some ⟨.normal, put t56 6 (.int .i64 99), H1, n + 35⟩)
                         ((binK .plain .eql v13 (.int .i64 9)).bind fun v57 =>
                          csel v57
                            (some ⟨.normal, put (put (put t56 61 v57) 60 v57) 6 (.int .i64 1000000000), H1, n + 37⟩)
                            (some ⟨.ret, put (put (put t56 61 v57) 60 v57) 4 (.bool false), H1, n + 37⟩))
                       ).bind fun (o55 : Out) =>
                       some o55)
                    ).bind fun (o48 : Out) =>
                    some o48)
                 ).bind fun (o41 : Out) =>
                 some o41)
              ).bind fun (o30 : Out) =>
              some o30)
           ).bind fun (o24 : Out) =>
           some o24)
        ).bind fun (o21 : Out) =>
        some o21)
     ).bind fun (o18 : Out) =>
     some o18)
  ).bind fun (o15 : Out) =>
  let o58 := outOf 0 o15
  thenK o58
    ((fieldA 1 (o58.t 2)).bind fun v59 =>
     (ld false 1 v59 o58.H).bind fun v60 =>
     (C 51 [v60, o58.t 5, o58.t 6] o58.H (o58.n + 15)).bind fun q61 =>
     (pickV q61.1 (gsel q61.1 true (o58.t 7) (.tuple #[])) (.bool false)).bind fun v62 =>
     (pickV v62 (gsel v62 true (o58.t 8) (.tuple #[])) (.bool false)).bind fun v63 =>
     (pickV v63 (gsel v63 true (o58.t 9) (.tuple #[])) (.bool false)).bind fun v64 =>
     some (v64, q61.2.1, q61.2.2))
    (finE o58.e
       (some (o58.t 4, o58.H, o58.n)))
theorem s71 (C : Calling) (L : Body → Body) (t : Tm) (H : Hp) (n : Nat) : bodyK Try.prog C L Try.f71 t H n = S71 C L t H n := by kernel_rfl
theorem c71 (args : List Value) (H : Hp) (n : Nat) : Call Try.prog 71 args H n = S71 (Call Try.prog) Loop (argsT args) H n := (Call_body Try.func71 args H n).trans (s71 ..)
/-! 88: spec.l2Node -/
noncomputable def S88 (C : Calling) (L : Body → Body) (t : Tm) (H : Hp) (n : Nat) : Option (Value × Hp × Nat) :=
  (vcells (t 0)).bind fun c2 =>
  let H1 := H.set (n) (some (.row c2 0 true))
  (fieldA 3 (ptr (n) 0)).bind fun v3 =>
  (ld false 1 v3 H1).bind fun v4 =>
  (binK .plain .sub (t 1) (.int .i64 1)).bind fun v5 =>
  (C 45 [v4, .int .i64 0, v5] H1 (n + 8)).bind fun q6 =>
  (fieldA 4 (ptr (n) 0)).bind fun v7 =>
  (ld false 1 v7 q6.2.1).bind fun v8 =>
  (binK .plain .sub (t 1) (.int .i64 1)).bind fun v9 =>
  (C 45 [v8, .int .i64 0, v9] q6.2.1 (q6.2.2 + 6)).bind fun q10 =>
  (fieldA 0 (ptr (n) 0)).bind fun v11 =>
  (ld false 1 v11 q10.2.1).bind fun v12 =>
  (binK .plain .eql v12 (.int .i64 1)).bind fun v13 =>
  csel v13
    ((ld true 5 (ptr (n) 0) q10.2.1).bind fun v14 =>
     (bld [.int .i64 0, .int .i64 0, .string ⟨#[]⟩, .int .i64 0, .int .i64 0] [(0, 1, .int .i64 1)]).bind fun v15 =>
     (binK (.agg [(0, (.int .i64)), (1, (.int .i64)), (2, .string), (3, (.int .i64)), (4, (.int .i64))]) .eql v14 v15).bind fun v16 =>
     some (v16, q10.2.1, q10.2.2 + 8))
    ((binK .plain .eql v12 (.int .i64 2)).bind fun v17 =>
     csel v17
       ((fieldA 1 (ptr (n) 0)).bind fun v18 =>
        (ld false 1 v18 q10.2.1).bind fun v19 =>
        (C 45 [v19, .int .i64 0, .int .i64 1] q10.2.1 (q10.2.2 + 17)).bind fun q20 =>
        let t22 : Tm := put (put (put (put (put (put (put (put (put (put (put (put (put (put (put (put (put (put (put (put (put (put (put (put t 2 (ptr (n) 0)) 4 (.bool false)) 7 v3) 8 v4) 9 (t 1)) 10 v5) 11 q6.1) 5 q6.1) 12 v7) 13 v8) 14 (t 1)) 15 v9) 16 q10.1) 6 q10.1) 17 v11) 18 v12) 20 v13) 19 v13) 25 v17) 24 v17) 26 v18) 27 v19) 28 q20.1) 29 q20.1
        (gsel q20.1 true
          ((ld true 5 (ptr (n) 0) q20.2.1).bind fun v23 =>
           (fieldA 1 (ptr (n) 0)).bind fun v24 =>
           (ld false 1 v24 q20.2.1).bind fun v25 =>
           (bld [.int .i64 0, .int .i64 0, .string ⟨#[]⟩, .int .i64 0, .int .i64 0] [(0, 1, .int .i64 2), (1, 1, v25)]).bind fun v26 =>
           (binK (.agg [(0, (.int .i64)), (1, (.int .i64)), (2, .string), (3, (.int .i64)), (4, (.int .i64))]) .eql v23 v26).bind fun v27 =>
           some (put (put (put (put (put t22 30 v23) 31 v24) 32 v25) 33 v26) 34 v27, q20.2.1, q20.2.2))
          (some (put (put (put (put (put t22 30 (.tuple #[])) 31 (.tuple #[])) 32 (.tuple #[])) 33 (.tuple #[])) 34 (.tuple #[]), q20.2.1, q20.2.2))
        ).bind fun (q21 : R3) =>
        (pickV (q21.1 29) (q21.1 34) (.bool false)).bind fun v28 =>
        some (v28, q21.2.1, q21.2.2))
       ((binK .plain .eql v12 (.int .i64 3)).bind fun v29 =>
        csel v29
          ((fieldA 1 (ptr (n) 0)).bind fun v30 =>
           (ld false 1 v30 q10.2.1).bind fun v31 =>
           (C 45 [v31, .int .i64 (-1000000000), .int .i64 1000000000] q10.2.1 (q10.2.2 + 19)).bind fun q32 =>
           let t34 : Tm := put (put (put (put (put (put (put (put (put (put (put (put (put (put (put (put (put (put (put (put (put (put (put (put (put (put t 2 (ptr (n) 0)) 4 (.bool false)) 7 v3) 8 v4) 9 (t 1)) 10 v5) 11 q6.1) 5 q6.1) 12 v7) 13 v8) 14 (t 1)) 15 v9) 16 q10.1) 6 q10.1) 17 v11) 18 v12) 20 v13) 19 v13) 25 v17) 24 v17) 37 v29) 36 v29) 38 v30) 39 v31) 40 q32.1) 41 q32.1
           (gsel q32.1 true
             ((ld true 5 (ptr (n) 0) q32.2.1).bind fun v35 =>
              (fieldA 1 (ptr (n) 0)).bind fun v36 =>
              (ld false 1 v36 q32.2.1).bind fun v37 =>
              (bld [.int .i64 0, .int .i64 0, .string ⟨#[]⟩, .int .i64 0, .int .i64 0] [(0, 1, .int .i64 3), (1, 1, v37)]).bind fun v38 =>
              (binK (.agg [(0, (.int .i64)), (1, (.int .i64)), (2, .string), (3, (.int .i64)), (4, (.int .i64))]) .eql v35 v38).bind fun v39 =>
              some (put (put (put (put (put t34 42 v35) 43 v36) 44 v37) 45 v38) 46 v39, q32.2.1, q32.2.2))
             (some (put (put (put (put (put t34 42 (.tuple #[])) 43 (.tuple #[])) 44 (.tuple #[])) 45 (.tuple #[])) 46 (.tuple #[]), q32.2.1, q32.2.2))
           ).bind fun (q33 : R3) =>
           (pickV (q33.1 41) (q33.1 46) (.bool false)).bind fun v40 =>
           some (v40, q33.2.1, q33.2.2))
          ((binK .plain .eql v12 (.int .i64 4)).bind fun v41 =>
           csel v41
             ((fieldA 2 (ptr (n) 0)).bind fun v42 =>
              (ld false 1 v42 q10.2.1).bind fun v43 =>
              (C 43 [v43] q10.2.1 (q10.2.2 + 21)).bind fun q44 =>
              let t46 : Tm := put (put (put (put (put (put (put (put (put (put (put (put (put (put (put (put (put (put (put (put (put (put (put (put (put (put (put (put t 2 (ptr (n) 0)) 4 (.bool false)) 7 v3) 8 v4) 9 (t 1)) 10 v5) 11 q6.1) 5 q6.1) 12 v7) 13 v8) 14 (t 1)) 15 v9) 16 q10.1) 6 q10.1) 17 v11) 18 v12) 20 v13) 19 v13) 25 v17) 24 v17) 37 v29) 36 v29) 49 v41) 48 v41) 50 v42) 51 v43) 52 q44.1) 53 q44.1
              (gsel q44.1 true
                ((ld true 5 (ptr (n) 0) q44.2.1).bind fun v47 =>
                 (fieldA 2 (ptr (n) 0)).bind fun v48 =>
                 (ld false 1 v48 q44.2.1).bind fun v49 =>
                 (bld [.int .i64 0, .int .i64 0, .string ⟨#[]⟩, .int .i64 0, .int .i64 0] [(0, 1, .int .i64 4), (2, 1, v49)]).bind fun v50 =>
                 (binK (.agg [(0, (.int .i64)), (1, (.int .i64)), (2, .string), (3, (.int .i64)), (4, (.int .i64))]) .eql v47 v50).bind fun v51 =>
                 some (put (put (put (put (put t46 54 v47) 55 v48) 56 v49) 57 v50) 58 v51, q44.2.1, q44.2.2))
                (some (put (put (put (put (put t46 54 (.tuple #[])) 55 (.tuple #[])) 56 (.tuple #[])) 57 (.tuple #[])) 58 (.tuple #[]), q44.2.1, q44.2.2))
              ).bind fun (q45 : R3) =>
              (pickV (q45.1 53) (q45.1 58) (.bool false)).bind fun v52 =>
              some (v52, q45.2.1, q45.2.2))
             ((binK .plain .eql v12 (.int .i64 5)).bind fun v53 =>
              csel v53
                ((pickV q6.1 (gsel q6.1 true q10.1 (.tuple #[])) (.bool false)).bind fun v54 =>
                 let t56 : Tm := put (put (put (put (put (put (put (put (put (put (put (put (put (put (put (put (put (put (put (put (put (put (put (put (put (put (put (put (put (put (put t 2 (ptr (n) 0)) 4 (.bool false)) 7 v3) 8 v4) 9 (t 1)) 10 v5) 11 q6.1) 5 q6.1) 12 v7) 13 v8) 14 (t 1)) 15 v9) 16 q10.1) 6 q10.1) 17 v11) 18 v12) 20 v13) 19 v13) 25 v17) 24 v17) 37 v29) 36 v29) 49 v41) 48 v41) 61 v53) 60 v53) 62 q6.1) 63 q6.1) 64 (gsel q6.1 true q10.1 (.tuple #[]))) 65 v54) 66 v54
                 (gsel v54 true
                   ((fieldA 1 (ptr (n) 0)).bind fun v57 =>
                    (ld false 1 v57 q10.2.1).bind fun v58 =>
                    (binK .plain .eql v58 (.int .i64 0)).bind fun v59 =>
                    some (put (put (put t56 67 v57) 68 v58) 69 v59, q10.2.1, q10.2.2 + 27))
                   (some (put (put (put t56 67 (.tuple #[])) 68 (.tuple #[])) 69 (.tuple #[]), q10.2.1, q10.2.2 + 27))
                 ).bind fun (q55 : R3) =>
                 (pickV (q55.1 66) (q55.1 69) (.bool false)).bind fun v60 =>
                 let t62 : Tm := put (put q55.1 70 v60) 71 v60
                 (gsel v60 true
                   ((fieldA 2 (t62 2)).bind fun v63 =>
                    (ld false 1 v63 q55.2.1).bind fun v64 =>
                    (binK .plain .eql v64 (.string ⟨#[]⟩)).bind fun v65 =>
                    some (put (put (put t62 72 v63) 73 v64) 74 v65, q55.2.1, q55.2.2))
                   (some (put (put (put t62 72 (.tuple #[])) 73 (.tuple #[])) 74 (.tuple #[]), q55.2.1, q55.2.2))
                 ).bind fun (q61 : R3) =>
                 (pickV (q61.1 71) (q61.1 74) (.bool false)).bind fun v66 =>
                 some (v66, q61.2.1, q61.2.2))
                ((binK .plain .eql v12 (.int .i64 6)).bind fun v67 =>
                 csel v67
                   (let t69 : Tm := put (put (put (put (put (put (put (put (put (put (put (put (put (put (put (put (put (put (put (put (put (put (put (put (put (put (put (put (put (put t 2 (ptr (n) 0)) 4 (.bool false)) 7 v3) 8 v4) 9 (t 1)) 10 v5) 11 q6.1) 5 q6.1) 12 v7) 13 v8) 14 (t 1)) 15 v9) 16 q10.1) 6 q10.1) 17 v11) 18 v12) 20 v13) 19 v13) 25 v17) 24 v17) 37 v29) 36 v29) 49 v41) 48 v41) 61 v53) 60 v53) 77 v67) 76 v67) 78 q6.1) 79 q6.1
                    (gsel q6.1 true
                      ((fieldA 1 (ptr (n) 0)).bind fun v70 =>
                       (ld false 1 v70 q10.2.1).bind fun v71 =>
                       (C 45 [v71, .int .i64 0, .int .i64 1000000000] q10.2.1 (q10.2.2 + 31)).bind fun q72 =>
                       some (put (put (put t69 80 v70) 81 v71) 82 q72.1, q72.2.1, q72.2.2))
                      (some (put (put (put t69 80 (.tuple #[])) 81 (.tuple #[])) 82 (.tuple #[]), q10.2.1, q10.2.2 + 31))
                    ).bind fun (q68 : R3) =>
                    (pickV (q68.1 79) (q68.1 82) (.bool false)).bind fun v73 =>
                    let t75 : Tm := put (put q68.1 83 v73) 84 v73
                    (gsel v73 true
                      ((fieldA 4 (t75 2)).bind fun v76 =>
                       (ld false 1 v76 q68.2.1).bind fun v77 =>
                       (binK .plain .eql v77 (.int .i64 0)).bind fun v78 =>
                       some (put (put (put t75 85 v76) 86 v77) 87 v78, q68.2.1, q68.2.2))
                      (some (put (put (put t75 85 (.tuple #[])) 86 (.tuple #[])) 87 (.tuple #[]), q68.2.1, q68.2.2))
                    ).bind fun (q74 : R3) =>
                    (pickV (q74.1 84) (q74.1 87) (.bool false)).bind fun v79 =>
                    let t81 : Tm := put (put q74.1 88 v79) 89 v79
                    (gsel v79 true
                      ((fieldA 2 (t81 2)).bind fun v82 =>
                       (ld false 1 v82 q74.2.1).bind fun v83 =>
                       (binK .plain .eql v83 (.string ⟨#[]⟩)).bind fun v84 =>
                       some (put (put (put t81 90 v82) 91 v83) 92 v84, q74.2.1, q74.2.2))
                      (some (put (put (put t81 90 (.tuple #[])) 91 (.tuple #[])) 92 (.tuple #[]), q74.2.1, q74.2.2))
                    ).bind fun (q80 : R3) =>
                    (pickV (q80.1 89) (q80.1 92) (.bool false)).bind fun v85 =>
                    some (v85, q80.2.1, q80.2.2))
                   ((binK .plain .eql v12 (.int .i64 7)).bind fun v86 =>
                    csel v86
                      (let t88 : Tm := put (put (put (put (put (put (put (put (put (put (put (put (put (put (put (put (put (put (put (put (put (put (put (put (put (put (put (put (put (put (put (put t 2 (ptr (n) 0)) 4 (.bool false)) 7 v3) 8 v4) 9 (t 1)) 10 v5) 11 q6.1) 5 q6.1) 12 v7) 13 v8) 14 (t 1)) 15 v9) 16 q10.1) 6 q10.1) 17 v11) 18 v12) 20 v13) 19 v13) 25 v17) 24 v17) 37 v29) 36 v29) 49 v41) 48 v41) 61 v53) 60 v53) 77 v67) 76 v67) 95 v86) 94 v86) 96 q6.1) 97 q6.1
                       (gsel q6.1 true
                         ((fieldA 1 (ptr (n) 0)).bind fun v89 =>
                          (ld false 1 v89 q10.2.1).bind fun v90 =>
                          (binK .plain .eql v90 (.int .i64 0)).bind fun v91 =>
                          some (put (put (put t88 98 v89) 99 v90) 100 v91, q10.2.1, q10.2.2 + 33))
                         (some (put (put (put t88 98 (.tuple #[])) 99 (.tuple #[])) 100 (.tuple #[]), q10.2.1, q10.2.2 + 33))
                       ).bind fun (q87 : R3) =>
                       (pickV (q87.1 97) (q87.1 100) (.bool false)).bind fun v92 =>
                       let t94 : Tm := put (put q87.1 101 v92) 102 v92
                       (gsel v92 true
                         ((fieldA 4 (t94 2)).bind fun v95 =>
                          (ld false 1 v95 q87.2.1).bind fun v96 =>
                          (binK .plain .eql v96 (.int .i64 0)).bind fun v97 =>
                          some (put (put (put t94 103 v95) 104 v96) 105 v97, q87.2.1, q87.2.2))
                         (some (put (put (put t94 103 (.tuple #[])) 104 (.tuple #[])) 105 (.tuple #[]), q87.2.1, q87.2.2))
                       ).bind fun (q93 : R3) =>
                       (pickV (q93.1 102) (q93.1 105) (.bool false)).bind fun v98 =>
                       let t100 : Tm := put (put q93.1 106 v98) 107 v98
                       (gsel v98 true
                         ((fieldA 2 (t100 2)).bind fun v101 =>
                          (ld false 1 v101 q93.2.1).bind fun v102 =>
                          (binK .plain .eql v102 (.string ⟨#[]⟩)).bind fun v103 =>
                          some (put (put (put t100 108 v101) 109 v102) 110 v103, q93.2.1, q93.2.2))
                         (some (put (put (put t100 108 (.tuple #[])) 109 (.tuple #[])) 110 (.tuple #[]), q93.2.1, q93.2.2))
                       ).bind fun (q99 : R3) =>
                       (pickV (q99.1 107) (q99.1 110) (.bool false)).bind fun v104 =>
                       some (v104, q99.2.1, q99.2.2))
                      ((binK .plain .eql v12 (.int .i64 8)).bind fun v105 =>
                       csel v105
                         ((fieldA 1 (ptr (n) 0)).bind fun v106 =>
                          (ld false 1 v106 q10.2.1).bind fun v107 =>
                          (C 45 [v107, .int .i64 0, .int .i64 99] q10.2.1 (q10.2.2 + 29)).bind fun q108 =>
                          let t110 : Tm := put (put (put (put (put (put (put (put (put (put (put (put (put (put (put (put (put (put (put (put (put (put (put (put (put (put (put (put (put (put (put (put (put (put (put (put t 2 (ptr (n) 0)) 4 (.bool false)) 7 v3) 8 v4) 9 (t 1)) 10 v5) 11 q6.1) 5 q6.1) 12 v7) 13 v8) 14 (t 1)) 15 v9) 16 q10.1) 6 q10.1) 17 v11) 18 v12) 20 v13) 19 v13) 25 v17) 24 v17) 37 v29) 36 v29) 49 v41) 48 v41) 61 v53) 60 v53) 77 v67) 76 v67) 95 v86) 94 v86) 113 v105) 112 v105) 114 v106) 115 v107) 116 q108.1) 117 q108.1
                          (gsel q108.1 true
                            ((ld true 5 (ptr (n) 0) q108.2.1).bind fun v111 =>
                             (fieldA 1 (ptr (n) 0)).bind fun v112 =>
                             (ld false 1 v112 q108.2.1).bind fun v113 =>
                             (bld [.int .i64 0, .int .i64 0, .string ⟨#[]⟩, .int .i64 0, .int .i64 0] [(0, 1, .int .i64 8), (1, 1, v113)]).bind fun v114 =>
                             (binK (.agg [(0, (.int .i64)), (1, (.int .i64)), (2, .string), (3, (.int .i64)), (4, (.int .i64))]) .eql v111 v114).bind fun v115 =>
                             some (put (put (put (put (put t110 118 v111) 119 v112) 120 v113) 121 v114) 122 v115, q108.2.1, q108.2.2))
                            (some (put (put (put (put (put t110 118 (.tuple #[])) 119 (.tuple #[])) 120 (.tuple #[])) 121 (.tuple #[])) 122 (.tuple #[]), q108.2.1, q108.2.2))
                          ).bind fun (q109 : R3) =>
                          (pickV (q109.1 117) (q109.1 122) (.bool false)).bind fun v116 =>
                          some (v116, q109.2.1, q109.2.2))
                         ((binK .plain .eql v12 (.int .i64 9)).bind fun v117 =>
                          csel v117
                            ((fieldA 1 (ptr (n) 0)).bind fun v118 =>
                             (ld false 1 v118 q10.2.1).bind fun v119 =>
                             (C 45 [v119, .int .i64 0, .int .i64 1000000000] q10.2.1 (q10.2.2 + 31)).bind fun q120 =>
                             let t122 : Tm := put (put (put (put (put (put (put (put (put (put (put (put (put (put (put (put (put (put (put (put (put (put (put (put (put (put (put (put (put (put (put (put (put (put (put (put (put (put t 2 (ptr (n) 0)) 4 (.bool false)) 7 v3) 8 v4) 9 (t 1)) 10 v5) 11 q6.1) 5 q6.1) 12 v7) 13 v8) 14 (t 1)) 15 v9) 16 q10.1) 6 q10.1) 17 v11) 18 v12) 20 v13) 19 v13) 25 v17) 24 v17) 37 v29) 36 v29) 49 v41) 48 v41) 61 v53) 60 v53) 77 v67) 76 v67) 95 v86) 94 v86) 113 v105) 112 v105) 125 v117) 124 v117) 126 v118) 127 v119) 128 q120.1) 129 q120.1
                             (gsel q120.1 true
                               ((ld true 5 (ptr (n) 0) q120.2.1).bind fun v123 =>
                                (fieldA 1 (ptr (n) 0)).bind fun v124 =>
                                (ld false 1 v124 q120.2.1).bind fun v125 =>
                                (bld [.int .i64 0, .int .i64 0, .string ⟨#[]⟩, .int .i64 0, .int .i64 0] [(0, 1, .int .i64 9), (1, 1, v125)]).bind fun v126 =>
                                (binK (.agg [(0, (.int .i64)), (1, (.int .i64)), (2, .string), (3, (.int .i64)), (4, (.int .i64))]) .eql v123 v126).bind fun v127 =>
                                some (put (put (put (put (put t122 130 v123) 131 v124) 132 v125) 133 v126) 134 v127, q120.2.1, q120.2.2))
                               (some (put (put (put (put (put t122 130 (.tuple #[])) 131 (.tuple #[])) 132 (.tuple #[])) 133 (.tuple #[])) 134 (.tuple #[]), q120.2.1, q120.2.2))
                             ).bind fun (q121 : R3) =>
                             (pickV (q121.1 129) (q121.1 134) (.bool false)).bind fun v128 =>
                             some (v128, q121.2.1, q121.2.2))
                            (some (.bool false, q10.2.1, q10.2.2 + 21))))))))))
theorem s88 (C : Calling) (L : Body → Body) (t : Tm) (H : Hp) (n : Nat) : bodyK Try.prog C L Try.f88 t H n = S88 C L t H n := by kernel_rfl
theorem c88 (args : List Value) (H : Hp) (n : Nat) : Call Try.prog 88 args H n = S88 (Call Try.prog) Loop (argsT args) H n := (Call_body Try.func88 args H n).trans (s88 ..)
end Go.Proofs.Ytpiicpcofjhakaa.Ax
