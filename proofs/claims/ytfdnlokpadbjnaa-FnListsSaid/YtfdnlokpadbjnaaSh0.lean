/- What the bodies of some functions of the program come to in the abstract machine. -/
import Derived.Test.YtfdnlokpadbjnaaProg
import Derived.Test.YtfdnlokpadbjnaaAx3
set_option linter.unusedVariables false
namespace Go.Proofs.Ytfdnlokpadbjnaa.Ax
open Go
set_option maxRecDepth 100000
/-! 3: laws.FnLists -/
noncomputable def S3 (C : Calling) (L : Body → Body) (t : Tm) (H : Hp) (n : Nat) : Option (Value × Hp × Nat) :=
  (C 9 [t 0] H (n + 3)).bind fun q1 =>
  csel q1.1
    (some (.bool true, q1.2.1, q1.2.2 + 1))
    ((C 10 [t 0] q1.2.1 (q1.2.2 + 8)).bind fun q2 =>
     (ext 0 q2.1).bind fun v3 =>
     (ext 1 q2.1).bind fun v4 =>
     let H5 := q2.2.1.set (q1.2.2 + 5) (some (.row [nilS] 0 true))
     (st true 1 (ptr (q1.2.2 + 5) 0) v3 H5).bind fun H6 =>
     (ld true 1 (ptr (q1.2.2 + 5) 0) H6).bind fun v7 =>
     (C 11 [v7, v4] H6 (q2.2.2 + 9)).bind fun q8 =>
     (ext 0 q8.1).bind fun v9 =>
     (ext 1 q8.1).bind fun v10 =>
     let H11 := q8.2.1.set (q2.2.2 + 6) (some (.row [nilS] 0 true))
     (st true 1 (ptr (q2.2.2 + 6) 0) v9 H11).bind fun H12 =>
     (ld true 1 (ptr (q1.2.2 + 5) 0) H12).bind fun v13 =>
     (C 12 [v13, v4] H12 (q8.2.2 + 9)).bind fun q14 =>
     (ext 0 q14.1).bind fun v15 =>
     (ext 1 q14.1).bind fun v16 =>
     let H17 := q14.2.1.set (q8.2.2 + 6) (some (.row [nilS] 0 true))
     (st true 1 (ptr (q8.2.2 + 6) 0) v15 H17).bind fun H18 =>
     (binK .plain .neq v10 v16).bind fun v19 =>
     csel v19
       (some (.bool false, H18, q14.2.2 + 4))
       ((binK .plain .lss v10 (.int .i64 0)).bind fun v20 =>
        csel v20
          ((fieldA 0 (ptr (q2.2.2 + 6) 0)).bind fun v21 =>
           (ld false 1 v21 H18).bind fun v22 =>
           (lenV false v22).bind fun v23 =>
           (fieldA 0 (ptr (q1.2.2 + 5) 0)).bind fun v24 =>
           (ld false 1 v24 H18).bind fun v25 =>
           (lenV false v25).bind fun v26 =>
           (binK .plain .eql v23 v26).bind fun v27 =>
           let t29 : Tm := put (put (put (put (put (put (put (put (put (put (put (put (put (put (put (put (put (put (put (put (put (put (put (put (put (put (put (put (put (put (put (put (put (put (put (put (put (put (put t 2 (.bool false)) 17 (t 0)) 18 q1.1) 20 (t 0)) 21 q2.1) 19 q2.1) 22 v3) 23 v4) 3 (ptr (q1.2.2 + 5) 0)) 4 v4) 25 v7) 26 v4) 27 q8.1) 24 q8.1) 28 v9) 29 v10) 5 (ptr (q2.2.2 + 6) 0)) 6 v10) 31 v13) 32 v4) 33 q14.1) 30 q14.1) 34 v15) 35 v16) 7 (ptr (q8.2.2 + 6) 0)) 8 v16) 36 v10) 37 v16) 38 v19) 39 v10) 40 v20) 41 v21) 42 v22) 43 v23) 44 v24) 45 v25) 46 v26) 47 v27) 48 v27
           (gsel v27 false
             ((fieldA 0 (ptr (q2.2.2 + 6) 0)).bind fun v30 =>
              (ld false 1 v30 H18).bind fun v31 =>
              (lenV false v31).bind fun v32 =>
              (binK .plain .eql v32 (.int .i64 0)).bind fun v33 =>
              some (put (put (put (put t29 49 v30) 50 v31) 51 v32) 52 v33, H18, q14.2.2 + 19))
             (some (put (put (put (put t29 49 (.tuple #[])) 50 (.tuple #[])) 51 (.tuple #[])) 52 (.tuple #[]), H18, q14.2.2 + 19))
           ).bind fun (q28 : R3) =>
           (pickV (q28.1 48) (.bool true) (q28.1 52)).bind fun v34 =>
           some (v34, q28.2.1, q28.2.2))
          ((ld true 1 (ptr (q2.2.2 + 6) 0) H18).bind fun v35 =>
           (C 13 [v35, v10] H18 (q14.2.2 + 13)).bind fun q36 =>
           (ext 0 q36.1).bind fun v37 =>
           (ext 1 q36.1).bind fun v38 =>
           (C 14 [t 0] q36.2.1 (q36.2.2 + 8)).bind fun q39 =>
           (ext 0 q39.1).bind fun v40 =>
           (ext 1 q39.1).bind fun v41 =>
           let H42 := q39.2.1.set (q36.2.2 + 5) (some (.row [nilS] 0 true))
           (st true 1 (ptr (q36.2.2 + 5) 0) v40 H42).bind fun H43 =>
           (ld true 1 (ptr (q36.2.2 + 5) 0) H43).bind fun v44 =>
           (C 13 [v44, v41] H43 (q39.2.2 + 8)).bind fun q45 =>
           (ext 0 q45.1).bind fun v46 =>
           (ext 1 q45.1).bind fun v47 =>
           (ld true 1 (ptr (q36.2.2 + 5) 0) q45.2.1).bind fun v48 =>
           (C 15 [v48, v41] q45.2.1 (q45.2.2 + 8)).bind fun q49 =>
           (ext 0 q49.1).bind fun v50 =>
           (ext 1 q49.1).bind fun v51 =>
           let t53 : Tm := put (put (put (put (put (put (put (put (put (put (put (put (put (put (put (put (put (put (put (put (put (put (put (put (put (put (put (put (put (put (put (put (put (put (put (put (put (put (put (put (put (put (put (put (put (put (put (put (put (put (put (put (put (put (put (put (put (put (put (put (put (put (put (put t 2 (.bool false)) 17 (t 0)) 18 q1.1) 20 (t 0)) 21 q2.1) 19 q2.1) 22 v3) 23 v4) 3 (ptr (q1.2.2 + 5) 0)) 4 v4) 25 v7) 26 v4) 27 q8.1) 24 q8.1) 28 v9) 29 v10) 5 (ptr (q2.2.2 + 6) 0)) 6 v10) 31 v13) 32 v4) 33 q14.1) 30 q14.1) 34 v15) 35 v16) 7 (ptr (q8.2.2 + 6) 0)) 8 v16) 36 v10) 37 v16) 38 v19) 39 v10) 40 v20) 55 v35) 56 v10) 57 q36.1) 54 q36.1) 58 v37) 59 v38) 9 v37) 10 v38) 61 (t 0)) 62 q39.1) 60 q39.1) 63 v40) 64 v41) 11 (ptr (q36.2.2 + 5) 0)) 12 v41) 66 v44) 67 v41) 68 q45.1) 65 q45.1) 69 v46) 70 v47) 13 v46) 14 v47) 72 v48) 73 v41) 74 q49.1) 71 q49.1) 75 v50) 76 v51) 15 v50) 16 v51) 77 v38) 78 v38
           (gsel v38 true
             ((C 16 [v37, v4] q49.2.1 (q49.2.2 + 17)).bind fun q54 =>
              some (put (put (put t53 79 v37) 80 v4) 81 q54.1, q54.2.1, q54.2.2))
             (some (put (put (put t53 79 (.tuple #[])) 80 (.tuple #[])) 81 (.tuple #[]), q49.2.1, q49.2.2 + 17))
           ).bind fun (q52 : R3) =>
           (pickV (q52.1 78) (q52.1 81) (.bool false)).bind fun v55 =>
           let t57 : Tm := put (put q52.1 82 v55) 83 v55
           (gsel v55 true
             ((binK .bool .eql (t57 14) (t57 16)).bind fun v58 =>
              some (put (put (put t57 84 (t57 14)) 85 (t57 16)) 86 v58, q52.2.1, q52.2.2))
             (some (put (put (put t57 84 (.tuple #[])) 85 (.tuple #[])) 86 (.tuple #[]), q52.2.1, q52.2.2))
           ).bind fun (q56 : R3) =>
           (pickV (q56.1 83) (q56.1 86) (.bool false)).bind fun v59 =>
           let t61 : Tm := put (put q56.1 87 v59) 88 v59
           (gsel v59 true
             ((C 16 [t61 13, t61 15] q56.2.1 (q56.2.2)).bind fun q62 =>
              some (put (put (put t61 89 (t61 13)) 90 (t61 15)) 91 q62.1, q62.2.1, q62.2.2))
             (some (put (put (put t61 89 (.tuple #[])) 90 (.tuple #[])) 91 (.tuple #[]), q56.2.1, q56.2.2))
           ).bind fun (q60 : R3) =>
           (pickV (q60.1 88) (q60.1 91) (.bool false)).bind fun v63 =>
           some (v63, q60.2.1, q60.2.2))))
theorem s3 (C : Calling) (L : Body → Body) (t : Tm) (H : Hp) (n : Nat) : bodyK Try.prog C L Try.f3 t H n = S3 C L t H n := by kernel_rfl
theorem c3 (args : List Value) (H : Hp) (n : Nat) : Call Try.prog 3 args H n = S3 (Call Try.prog) Loop (argsT args) H n := (Call_body Try.func3 args H n).trans (s3 ..)
/-! 9: laws.big -/
noncomputable def S9 (C : Calling) (L : Body → Body) (t : Tm) (H : Hp) (n : Nat) : Option (Value × Hp × Nat) :=
  (lenV false (t 0)).bind fun v1 =>
  (binK .plain .gtr v1 (.int .i64 1048576)).bind fun v2 =>
  some (v2, H, n + 5)
theorem s9 (C : Calling) (L : Body → Body) (t : Tm) (H : Hp) (n : Nat) : bodyK Try.prog C L Try.f9 t H n = S9 C L t H n := by kernel_rfl
theorem c9 (args : List Value) (H : Hp) (n : Nat) : Call Try.prog 9 args H n = S9 (Call Try.prog) Loop (argsT args) H n := (Call_body Try.func9 args H n).trans (s9 ..)
/-! 10: spec.DrawMakeList -/
noncomputable def S10L0 (C : Calling) (L : Body → Body) : Body := fun t H n =>
  (C 41 [t 4, .int .i64 6] H (n + 4)).bind fun q8 =>
  (binK .plain .lss (t 7) q8.1).bind fun v9 =>
  csel v9
    ((ld true 1 (t 5) q8.2.1).bind fun v10 =>
     (C 42 [t 4, v10] q8.2.1 (q8.2.2 + 7)).bind fun q11 =>
     (bsl (q8.2.2 + 4) 1 1 [.int .i64 0] [(0, 1, q11.1)] q11.2.1).bind fun p12 =>
     (app (q8.2.2 + 5) 1 8 (t 6) p12.1 p12.2).bind fun p13 =>
     (binK .plain .add (t 7) (.int .i64 1)).bind fun v14 =>
     some ⟨.normal, put (put (put (put (put (put (put (put (put (put (put (put (put (put t 13 (t 7)) 14 (t 4)) 15 q8.1) 16 v9) 19 (t 6)) 20 (t 4)) 21 v10) 22 q11.1) 23 p12.1) 24 p13.1) 6 p13.1) 17 (t 7)) 18 v14) 7 v14, p13.2, q11.2.2 + 3⟩)
    (some ⟨(.exit 0), put (put (put (put t 13 (t 7)) 14 (t 4)) 15 q8.1) 16 v9, q8.2.1, q8.2.2⟩)
noncomputable def S10 (C : Calling) (L : Body → Body) (t : Tm) (H : Hp) (n : Nat) : Option (Value × Hp × Nat) :=
  let H1 := H.set (n) (some (.row [nilS] 0 true))
  (C 39 [t 0] H1 (n + 5)).bind fun q2 =>
  (C 40 [q2.1] q2.2.1 (q2.2.2 + 4)).bind fun q3 =>
  let H4 := q3.2.1.set (q2.2.2 + 2) (some (.row [nilS] 0 true))
  (st true 1 (ptr (q2.2.2 + 2) 0) q3.1 H4).bind fun H5 =>
  (bsl (q3.2.2) 1 0 [.int .i64 0] [] H5).bind fun p6 =>
  (L (S10L0 C L) (put (put (put (put (put (put (put (put (put (put (put t 2 (ptr (n) 0)) 3 nilS) 8 (t 0)) 9 q2.1) 4 q2.1) 10 q2.1) 11 q3.1) 5 (ptr (q2.2.2 + 2) 0)) 12 p6.1) 6 p6.1) 7 (.int .i64 0)) p6.2 (q3.2.2 + 3)).bind fun (o7 : Out) =>
  (ld true 1 (o7.t 5) o7.H).bind fun v15 =>
  (st true 1 (o7.t 2) v15 o7.H).bind fun H16 =>
  (ld true 1 (o7.t 2) H16).bind fun v17 =>
  iteK ([v17, o7.t 6].all notTup) <|
  some (.tuple ⟨[v17, o7.t 6]⟩, H16, o7.n + 4)
theorem s10 (C : Calling) (L : Body → Body) (t : Tm) (H : Hp) (n : Nat) : bodyK Try.prog C L Try.f10 t H n = S10 C L t H n := by kernel_rfl
theorem c10 (args : List Value) (H : Hp) (n : Nat) : Call Try.prog 10 args H n = S10 (Call Try.prog) Loop (argsT args) H n := (Call_body Try.func10 args H n).trans (s10 ..)
/-! 11: impl.MakeList -/
noncomputable def S11 (C : Calling) (L : Body → Body) (t : Tm) (H : Hp) (n : Nat) : Option (Value × Hp × Nat) :=
  (vcells (t 0)).bind fun c2 =>
  let H1 := H.set (n) (some (.row c2 0 true))
  let H3 := H1.set (n + 1) (some (.row [nilS] 0 true))
  (ld true 1 (ptr (n) 0) H3).bind fun v4 =>
  (C 38 [v4] H3 (n + 6)).bind fun q5 =>
  (un .not q5.1).bind fun v6 =>
  csel v6
    ((bld [nilS] []).bind fun v7 =>
     (st true 1 (ptr (n + 1) 0) v7 q5.2.1).bind fun H8 =>
     (ld true 1 (ptr (n + 1) 0) H8).bind fun v9 =>
     iteK ([v9, .int .i64 (-1)].all notTup) <|
     some (.tuple ⟨[v9, .int .i64 (-1)]⟩, H8, q5.2.2 + 3))
    ((ld true 1 (ptr (n) 0) q5.2.1).bind fun v10 =>
     (C 43 [v10] q5.2.1 (q5.2.2 + 4)).bind fun q11 =>
     let H12 := q11.2.1.set (q5.2.2 + 2) (some (.row [nilS] 0 true))
     (st true 1 (ptr (q5.2.2 + 2) 0) q11.1 H12).bind fun H13 =>
     (lenV false (t 1)).bind fun v14 =>
     (binK .plain .gtr v14 (.int .i64 3000)).bind fun v15 =>
     let t17 : Tm := put (put (put (put (put (put (put (put (put (put (put (put (put t 2 (ptr (n) 0)) 4 (ptr (n + 1) 0)) 5 (.int .i64 0)) 8 v4) 9 q5.1) 10 v6) 12 v10) 13 q11.1) 6 (ptr (q5.2.2 + 2) 0)) 14 (t 1)) 15 v14) 16 v15) 17 v15
     (gsel v15 false
       (iteK ([ptr (n) 0].all ptrV) <|
        (C 44 [t17 1, .func (.func 45) #[] ⟨[ptr (n) 0]⟩] H13 (q11.2.2 + 8)).bind fun q18 =>
        some (put (put (put t17 18 (t17 1)) 19 (.func (.func 45) #[] ⟨[ptr (n) 0]⟩)) 20 q18.1, q18.2.1, q18.2.2))
       (some (put (put (put t17 18 (.tuple #[])) 19 (.tuple #[])) 20 (.tuple #[]), H13, q11.2.2 + 8))
     ).bind fun (q16 : R3) =>
     (pickV (q16.1 17) (.bool true) (q16.1 20)).bind fun v19 =>
     csel v19
       ((ld true 1 (q16.1 6) q16.2.1).bind fun v20 =>
        (st true 1 (q16.1 4) v20 q16.2.1).bind fun H21 =>
        (ld true 1 (q16.1 4) H21).bind fun v22 =>
        iteK ([v22, .int .i64 (-1)].all notTup) <|
        some (.tuple ⟨[v22, .int .i64 (-1)]⟩, H21, q16.2.2 + 3))
       ((C 47 [q16.1 6, q16.1 1] q16.2.1 (q16.2.2 + 3)).bind fun q23 =>
        (ld true 1 (q16.1 2) q23.2.1).bind fun v24 =>
        (ld true 1 (q16.1 6) q23.2.1).bind fun v25 =>
        (C 48 [v24, v25, q23.1] q23.2.1 (q23.2.2 + 8)).bind fun q26 =>
        (ext 0 q26.1).bind fun v27 =>
        (ext 1 q26.1).bind fun v28 =>
        (st true 1 (q16.1 4) v27 q26.2.1).bind fun H29 =>
        (ld true 1 (q16.1 4) H29).bind fun v30 =>
        iteK ([v30, v28].all notTup) <|
        some (.tuple ⟨[v30, v28]⟩, H29, q26.2.2)))
theorem s11 (C : Calling) (L : Body → Body) (t : Tm) (H : Hp) (n : Nat) : bodyK Try.prog C L Try.f11 t H n = S11 C L t H n := by kernel_rfl
theorem c11 (args : List Value) (H : Hp) (n : Nat) : Call Try.prog 11 args H n = S11 (Call Try.prog) Loop (argsT args) H n := (Call_body Try.func11 args H n).trans (s11 ..)
/-! 12: spec.MakeList -/
noncomputable def S12L0 (C : Calling) (L : Body → Body) : Body := fun t H n =>
  (lenV false (t 1)).bind fun v11 =>
  (binK .plain .lss (t 6) v11).bind fun v12 =>
  csel v12
    ((ld true 1 (t 2) H).bind fun v13 =>
     (idxA 1 (t 1) (t 6)).bind fun v14 =>
     (ld false 1 v14 H).bind fun v15 =>
     (C 50 [v13, v15] H (n + 11)).bind fun q16 =>
     (un .not q16.1).bind fun v17 =>
     csel v17
       ((ld true 1 (t 2) q16.2.1).bind fun v18 =>
        (C 51 [v18] q16.2.1 (q16.2.2 + 4)).bind fun q19 =>
        (st true 1 (t 4) q19.1 q19.2.1).bind fun H20 =>
        some ⟨.ret, put (put (put (put (put (put (put (put (put (put (put (put (put (put t 13 (t 6)) 14 (t 1)) 15 v11) 16 v12) 19 v13) 20 (t 1)) 21 (t 6)) 22 v14) 23 v15) 24 q16.1) 25 v17) 26 v18) 27 q19.1) 5 (.int .i64 (-1)), H20, q19.2.2⟩)
       ((binK .plain .add (t 6) (.int .i64 1)).bind fun v21 =>
        some ⟨.normal, put (put (put (put (put (put (put (put (put (put (put (put (put (put t 13 (t 6)) 14 (t 1)) 15 v11) 16 v12) 19 v13) 20 (t 1)) 21 (t 6)) 22 v14) 23 v15) 24 q16.1) 25 v17) 17 (t 6)) 18 v21) 6 v21, q16.2.1, q16.2.2 + 3⟩))
    (some ⟨(.exit 0), put (put (put (put t 13 (t 6)) 14 (t 1)) 15 v11) 16 v12, H, n + 4⟩)
noncomputable def S12 (C : Calling) (L : Body → Body) (t : Tm) (H : Hp) (n : Nat) : Option (Value × Hp × Nat) :=
  (vcells (t 0)).bind fun c2 =>
  let H1 := H.set (n) (some (.row c2 0 true))
  let H3 := H1.set (n + 1) (some (.row [nilS] 0 true))
  (ld true 1 (ptr (n) 0) H3).bind fun v4 =>
  (C 49 [v4] H3 (n + 6)).bind fun q5 =>
  (un .not q5.1).bind fun v6 =>
  csel v6
    ((bld [nilS] []).bind fun v7 =>
     (st true 1 (ptr (n + 1) 0) v7 q5.2.1).bind fun H8 =>
     (ld true 1 (ptr (n + 1) 0) H8).bind fun v9 =>
     iteK ([v9, .int .i64 (-1)].all notTup) <|
     some (.tuple ⟨[v9, .int .i64 (-1)]⟩, H8, q5.2.2 + 3))
    ((L (S12L0 C L) (put (put (put (put (put (put (put t 2 (ptr (n) 0)) 4 (ptr (n + 1) 0)) 5 (.int .i64 0)) 9 v4) 10 q5.1) 11 v6) 6 (.int .i64 0)) q5.2.1 (q5.2.2 + 1)).bind fun (o10 : Out) =>
     let o22 := outOf 0 o10
     thenK o22
       ((fieldA 0 (o22.t 2)).bind fun v23 =>
        (ld false 1 v23 o22.H).bind fun v24 =>
        (lenV false v24).bind fun v25 =>
        (binK .plain .add v25 (.int .i64 1)).bind fun v26 =>
        (lenV false (o22.t 1)).bind fun v27 =>
        (binK .plain .add v26 v27).bind fun v28 =>
        (binK .plain .gtr v28 (.int .i64 3000)).bind fun v29 =>
        csel v29
          ((ld true 1 (o22.t 2) o22.H).bind fun v30 =>
           (C 51 [v30] o22.H (o22.n + 12)).bind fun q31 =>
           (st true 1 (o22.t 4) q31.1 q31.2.1).bind fun H32 =>
           (ld true 1 (o22.t 4) H32).bind fun v33 =>
           iteK ([v33, .int .i64 (-1)].all notTup) <|
           some (.tuple ⟨[v33, .int .i64 (-1)]⟩, H32, q31.2.2))
          ((ld true 1 (o22.t 2) o22.H).bind fun v34 =>
           (C 51 [v34] o22.H (o22.n + 12)).bind fun q35 =>
           let H36 := q35.2.1.set (o22.n + 10) (some (.row [nilS] 0 true))
           (st true 1 (ptr (o22.n + 10) 0) q35.1 H36).bind fun H37 =>
           (C 52 [ptr (o22.n + 10) 0, o22.t 1] H37 (q35.2.2 + 3)).bind fun q38 =>
           (ld true 1 (ptr (o22.n + 10) 0) q38.2.1).bind fun v39 =>
           (st true 1 (o22.t 4) v39 q38.2.1).bind fun H40 =>
           (ld true 1 (o22.t 4) H40).bind fun v41 =>
           iteK ([v41, q38.1].all notTup) <|
           some (.tuple ⟨[v41, q38.1]⟩, H40, q38.2.2 + 4)))
       (finE o22.e
          ((ld true 1 (o22.t 4) o22.H).bind fun v42 =>
           iteK ([v42, o22.t 5].all notTup) <|
           some (.tuple ⟨[v42, o22.t 5]⟩, o22.H, o22.n))))
theorem s12 (C : Calling) (L : Body → Body) (t : Tm) (H : Hp) (n : Nat) : bodyK Try.prog C L Try.f12 t H n = S12 C L t H n := by kernel_rfl
theorem c12 (args : List Value) (H : Hp) (n : Nat) : Call Try.prog 12 args H n = S12 (Call Try.prog) Loop (argsT args) H n := (Call_body Try.func12 args H n).trans (s12 ..)
/-! 13: impl.ListOf -/
noncomputable def S13 (C : Calling) (L : Body → Body) (t : Tm) (H : Hp) (n : Nat) : Option (Value × Hp × Nat) :=
  (vcells (t 0)).bind fun c2 =>
  let H1 := H.set (n) (some (.row c2 0 true))
  (ld true 1 (ptr (n) 0) H1).bind fun v3 =>
  (C 38 [v3] H1 (n + 12)).bind fun q4 =>
  (un .not q4.1).bind fun v5 =>
  let t7 : Tm := put (put (put (put (put (put (put t 2 (ptr (n) 0)) 4 nilS) 5 (.bool false)) 8 v3) 9 q4.1) 10 v5) 11 v5
  (gsel v5 false
    ((ld true 1 (ptr (n) 0) q4.2.1).bind fun v8 =>
     (C 46 [v8, t7 1] q4.2.1 (q4.2.2)).bind fun q9 =>
     (un .not q9.1).bind fun v10 =>
     some (put (put (put (put t7 12 v8) 13 (t7 1)) 14 q9.1) 15 v10, q9.2.1, q9.2.2))
    (some (put (put (put (put t7 12 (.tuple #[])) 13 (.tuple #[])) 14 (.tuple #[])) 15 (.tuple #[]), q4.2.1, q4.2.2))
  ).bind fun (q6 : R3) =>
  (pickV (q6.1 11) (.bool true) (q6.1 15)).bind fun v11 =>
  csel v11
    (iteK ([nilS, .bool false].all notTup) <|
     some (.tuple ⟨[nilS, .bool false]⟩, q6.2.1, q6.2.2 + 2))
    ((C 53 [q6.1 2, q6.1 1] q6.2.1 (q6.2.2 + 7)).bind fun q12 =>
     (ext 0 q12.1).bind fun v13 =>
     (ext 1 q12.1).bind fun v14 =>
     (un .not v14).bind fun v15 =>
     csel v15
       (iteK ([nilS, .bool false].all notTup) <|
        some (.tuple ⟨[nilS, .bool false]⟩, q12.2.1, q12.2.2 + 4))
       (iteK ([v13, .bool true].all notTup) <|
        some (.tuple ⟨[v13, .bool true]⟩, q12.2.1, q12.2.2 + 5)))
theorem s13 (C : Calling) (L : Body → Body) (t : Tm) (H : Hp) (n : Nat) : bodyK Try.prog C L Try.f13 t H n = S13 C L t H n := by kernel_rfl
theorem c13 (args : List Value) (H : Hp) (n : Nat) : Call Try.prog 13 args H n = S13 (Call Try.prog) Loop (argsT args) H n := (Call_body Try.func13 args H n).trans (s13 ..)
/-! 14: spec.DrawListOf -/
noncomputable def S14L0 (C : Calling) (L : Body → Body) : Body := fun t H n =>
  (C 41 [t 4, .int .i64 5] H (n + 4)).bind fun q29 =>
  (binK .plain .lss (t 7) q29.1).bind fun v30 =>
  csel v30
    ((fieldA 0 (t 5)).bind fun v31 =>
     (ld false 1 v31 q29.2.1).bind fun v32 =>
     (lenV false v32).bind fun v33 =>
     (C 41 [t 4, v33] q29.2.1 (q29.2.2 + 9)).bind fun q34 =>
     (bsl (q29.2.2 + 6) 1 1 [.int .i64 0] [(0, 1, q34.1)] q34.2.1).bind fun p35 =>
     (app (q29.2.2 + 7) 1 8 (t 6) p35.1 p35.2).bind fun p36 =>
     (binK .plain .add (t 7) (.int .i64 1)).bind fun v37 =>
     some ⟨.normal, put (put (put (put (put (put (put (put (put (put (put (put (put (put (put (put t 33 (t 7)) 34 (t 4)) 35 q29.1) 36 v30) 39 (t 6)) 40 (t 4)) 41 v31) 42 v32) 43 v33) 44 q34.1) 45 p35.1) 46 p36.1) 6 p36.1) 37 (t 7)) 38 v37) 7 v37, p36.2, q34.2.2 + 3⟩)
    (some ⟨(.exit 0), put (put (put (put t 33 (t 7)) 34 (t 4)) 35 q29.1) 36 v30, q29.2.1, q29.2.2⟩)
noncomputable def S14 (C : Calling) (L : Body → Body) (t : Tm) (H : Hp) (n : Nat) : Option (Value × Hp × Nat) :=
  let H1 := H.set (n) (some (.row [nilS] 0 true))
  (C 39 [t 0] H1 (n + 5)).bind fun q2 =>
  (C 40 [q2.1] q2.2.1 (q2.2.2 + 4)).bind fun q3 =>
  let H4 := q3.2.1.set (q2.2.2 + 2) (some (.row [nilS] 0 true))
  (st true 1 (ptr (q2.2.2 + 2) 0) q3.1 H4).bind fun H5 =>
  (ld true 1 (ptr (q2.2.2 + 2) 0) H5).bind fun v6 =>
  (C 49 [v6] H5 (q3.2.2 + 19)).bind fun q7 =>
  let t9 : Tm := put (put (put (put (put (put (put (put (put (put (put t 2 (ptr (n) 0)) 3 (.int .i64 0)) 9 (t 0)) 10 q2.1) 4 q2.1) 11 q2.1) 12 q3.1) 5 (ptr (q2.2.2 + 2) 0)) 13 v6) 14 q7.1) 15 q7.1
  (gsel q7.1 true
    ((fieldA 0 (ptr (q2.2.2 + 2) 0)).bind fun v10 =>
     (ld false 1 v10 q7.2.1).bind fun v11 =>
     (lenV false v11).bind fun v12 =>
     (binK .plain .gtr v12 (.int .i64 0)).bind fun v13 =>
     some (put (put (put (put t9 16 v10) 17 v11) 18 v12) 19 v13, q7.2.1, q7.2.2))
    (some (put (put (put (put t9 16 (.tuple #[])) 17 (.tuple #[])) 18 (.tuple #[])) 19 (.tuple #[]), q7.2.1, q7.2.2))
  ).bind fun (q8 : R3) =>
  (pickV (q8.1 15) (q8.1 19) (.bool false)).bind fun v14 =>
  let t16 : Tm := put (put q8.1 20 v14) 21 v14
  (gsel v14 true
    ((fieldA 0 (t16 5)).bind fun v17 =>
     (ld false 1 v17 q8.2.1).bind fun v18 =>
     (lenV false v18).bind fun v19 =>
     (binK .plain .lss v19 (.int .i64 40)).bind fun v20 =>
     some (put (put (put (put t16 22 v17) 23 v18) 24 v19) 25 v20, q8.2.1, q8.2.2))
    (some (put (put (put (put t16 22 (.tuple #[])) 23 (.tuple #[])) 24 (.tuple #[])) 25 (.tuple #[]), q8.2.1, q8.2.2))
  ).bind fun (q15 : R3) =>
  (pickV (q15.1 21) (q15.1 25) (.bool false)).bind fun v21 =>
  let t23 : Tm := put (put q15.1 26 v21) 27 v21
  (gsel v21 true
    ((C 54 [t23 4, .int .i64 3] q15.2.1 (q15.2.2)).bind fun q24 =>
     (un .not q24.1).bind fun v25 =>
     some (put (put (put t23 28 (t23 4)) 29 q24.1) 30 v25, q24.2.1, q24.2.2))
    (some (put (put (put t23 28 (.tuple #[])) 29 (.tuple #[])) 30 (.tuple #[]), q15.2.1, q15.2.2))
  ).bind fun (q22 : R3) =>
  (pickV (q22.1 27) (q22.1 30) (.bool false)).bind fun v26 =>
  csel v26
    ((bsl (q22.2.2) 1 0 [.int .i64 0] [] q22.2.1).bind fun p27 =>
     (L (S14L0 C L) (put (put (put (put q22.1 31 v26) 32 p27.1) 6 p27.1) 7 (.int .i64 0)) p27.2 (q22.2.2 + 3)).bind fun (o28 : Out) =>
     (C 52 [o28.t 5, o28.t 6] o28.H (o28.n + 3)).bind fun q38 =>
     (ld true 1 (o28.t 5) q38.2.1).bind fun v39 =>
     (st true 1 (o28.t 2) v39 q38.2.1).bind fun H40 =>
     (ld true 1 (o28.t 2) H40).bind fun v41 =>
     iteK ([v41, q38.1].all notTup) <|
     some (.tuple ⟨[v41, q38.1]⟩, H40, q38.2.2 + 4))
    ((ld true 1 (q22.1 5) q22.2.1).bind fun v42 =>
     (ld true 1 (q22.1 5) q22.2.1).bind fun v43 =>
     (C 42 [q22.1 4, v43] q22.2.1 (q22.2.2 + 6)).bind fun q44 =>
     ask (ld true 1 (q22.1 5) q44.2.1 = some v42) <|
     (st true 1 (q22.1 2) v42 q44.2.1).bind fun H45 =>
     (ld true 1 (q22.1 2) H45).bind fun v46 =>
     iteK ([v46, q44.1].all notTup) <|
     some (.tuple ⟨[v46, q44.1]⟩, H45, q44.2.2))
theorem s14 (C : Calling) (L : Body → Body) (t : Tm) (H : Hp) (n : Nat) : bodyK Try.prog C L Try.f14 t H n = S14 C L t H n := by kernel_rfl
theorem c14 (args : List Value) (H : Hp) (n : Nat) : Call Try.prog 14 args H n = S14 (Call Try.prog) Loop (argsT args) H n := (Call_body Try.func14 args H n).trans (s14 ..)
/-! 15: spec.ListOf -/
noncomputable def S15 (C : Calling) (L : Body → Body) (t : Tm) (H : Hp) (n : Nat) : Option (Value × Hp × Nat) :=
  (vcells (t 0)).bind fun c2 =>
  let H1 := H.set (n) (some (.row c2 0 true))
  (ld true 1 (ptr (n) 0) H1).bind fun v3 =>
  (C 49 [v3] H1 (n + 12)).bind fun q4 =>
  (un .not q4.1).bind fun v5 =>
  let t7 : Tm := put (put (put (put (put (put (put t 2 (ptr (n) 0)) 4 nilS) 5 (.bool false)) 6 v3) 7 q4.1) 8 v5) 9 v5
  (gsel v5 false
    ((ld true 1 (ptr (n) 0) q4.2.1).bind fun v8 =>
     (C 50 [v8, t7 1] q4.2.1 (q4.2.2)).bind fun q9 =>
     (un .not q9.1).bind fun v10 =>
     some (put (put (put (put t7 10 v8) 11 (t7 1)) 12 q9.1) 13 v10, q9.2.1, q9.2.2))
    (some (put (put (put (put t7 10 (.tuple #[])) 11 (.tuple #[])) 12 (.tuple #[])) 13 (.tuple #[]), q4.2.1, q4.2.2))
  ).bind fun (q6 : R3) =>
  (pickV (q6.1 9) (.bool true) (q6.1 13)).bind fun v11 =>
  csel v11
    ((bsl (q6.2.2) 1 0 [.int .i64 0] [] q6.2.1).bind fun p12 =>
     iteK ([p12.1, .bool false].all notTup) <|
     some (.tuple ⟨[p12.1, .bool false]⟩, p12.2, q6.2.2 + 3))
    ((ld true 1 (q6.1 2) q6.2.1).bind fun v13 =>
     (C 55 [v13, q6.1 1] q6.2.1 (q6.2.2 + 7)).bind fun q14 =>
     (ext 0 q14.1).bind fun v15 =>
     (ext 1 q14.1).bind fun v16 =>
     iteK ([v15, v16].all notTup) <|
     some (.tuple ⟨[v15, v16]⟩, q14.2.1, q14.2.2))
theorem s15 (C : Calling) (L : Body → Body) (t : Tm) (H : Hp) (n : Nat) : bodyK Try.prog C L Try.f15 t H n = S15 C L t H n := by kernel_rfl
theorem c15 (args : List Value) (H : Hp) (n : Nat) : Call Try.prog 15 args H n = S15 (Call Try.prog) Loop (argsT args) H n := (Call_body Try.func15 args H n).trans (s15 ..)
/-! 16: laws.sameInts -/
noncomputable def S16L0 (C : Calling) (L : Body → Body) : Body := fun t H n =>
  (lenV false (t 0)).bind fun v5 =>
  (binK .plain .lss (t 5) v5).bind fun v6 =>
  csel v6
    ((idxA 1 (t 0) (t 5)).bind fun v7 =>
     (ld false 1 v7 H).bind fun v8 =>
     (idxA 1 (t 1) (t 5)).bind fun v9 =>
     (ld false 1 v9 H).bind fun v10 =>
     (binK .plain .neq v8 v10).bind fun v11 =>
     csel v11
       (some ⟨.ret, put (put (put (put (put (put (put (put (put (put (put (put (put (put t 11 (t 5)) 12 (t 0)) 13 v5) 14 v6) 17 (t 0)) 18 (t 5)) 19 v7) 20 v8) 21 (t 1)) 22 (t 5)) 23 v9) 24 v10) 25 v11) 4 (.bool false), H, n + 14⟩)
       ((binK .plain .add (t 5) (.int .i64 1)).bind fun v12 =>
        some ⟨.normal, put (put (put (put (put (put (put (put (put (put (put (put (put (put (put (put t 11 (t 5)) 12 (t 0)) 13 v5) 14 v6) 17 (t 0)) 18 (t 5)) 19 v7) 20 v8) 21 (t 1)) 22 (t 5)) 23 v9) 24 v10) 25 v11) 15 (t 5)) 16 v12) 5 v12, H, n + 16⟩))
    (some ⟨(.exit 0), put (put (put (put t 11 (t 5)) 12 (t 0)) 13 v5) 14 v6, H, n + 4⟩)
noncomputable def S16 (C : Calling) (L : Body → Body) (t : Tm) (H : Hp) (n : Nat) : Option (Value × Hp × Nat) :=
  (lenV false (t 0)).bind fun v1 =>
  (lenV false (t 1)).bind fun v2 =>
  (binK .plain .neq v1 v2).bind fun v3 =>
  csel v3
    (some (.bool false, H, n + 7))
    ((L (S16L0 C L) (put (put (put (put (put (put (put t 4 (.bool false)) 6 (t 0)) 7 v1) 8 (t 1)) 9 v2) 10 v3) 5 (.int .i64 0)) H (n + 7)).bind fun (o4 : Out) =>
     let o13 := outOf 0 o4
     thenK o13
       (some (.bool true, o13.H, o13.n + 1))
       (finE o13.e
          (some (o13.t 4, o13.H, o13.n))))
theorem s16 (C : Calling) (L : Body → Body) (t : Tm) (H : Hp) (n : Nat) : bodyK Try.prog C L Try.f16 t H n = S16 C L t H n := by kernel_rfl
theorem c16 (args : List Value) (H : Hp) (n : Nat) : Call Try.prog 16 args H n = S16 (Call Try.prog) Loop (argsT args) H n := (Call_body Try.func16 args H n).trans (s16 ..)
/-! 38: impl.PoolOk -/
noncomputable def S38L0 (C : Calling) (L : Body → Body) : Body := fun t H n =>
  (binK .plain .lss (t 8) (t 7)).bind fun v7 =>
  csel v7
    ((idxA 5 (t 6) (t 8)).bind fun v8 =>
     (ld true 5 v8 H).bind fun v9 =>
     let H10 := H.set (n + 4) (some (.row [.int .i64 0, .int .i64 0, .string ⟨#[]⟩, .int .i64 0, .int .i64 0] 0 true))
     (st true 5 (ptr (n + 4) 0) v9 H10).bind fun H11 =>
     (ld true 5 (ptr (n + 4) 0) H11).bind fun v12 =>
     (C 74 [v12, t 8] H11 (n + 11)).bind fun q13 =>
     (un .not q13.1).bind fun v14 =>
     csel v14
       (some ⟨.ret, put (put (put (put (put (put (put (put (put (put (put t 9 v7) 10 (t 8)) 11 v8) 12 v9) 4 (ptr (n + 4) 0)) 3 (t 8)) 13 v12) 14 (t 8)) 15 q13.1) 16 v14) 2 (.bool false), q13.2.1, q13.2.2 + 1⟩)
       ((binK .plain .add (t 8) (.int .i64 1)).bind fun v15 =>
        some ⟨.normal, put (put (put (put (put (put (put (put (put (put (put (put t 9 v7) 10 (t 8)) 11 v8) 12 v9) 4 (ptr (n + 4) 0)) 3 (t 8)) 13 v12) 14 (t 8)) 15 q13.1) 16 v14) 17 v15) 8 v15, q13.2.1, q13.2.2 + 2⟩))
    (some ⟨(.exit 0), put t 9 v7, H, n + 1⟩)
noncomputable def S38 (C : Calling) (L : Body → Body) (t : Tm) (H : Hp) (n : Nat) : Option (Value × Hp × Nat) :=
  (vcells (t 0)).bind fun c2 =>
  let H1 := H.set (n) (some (.row c2 0 true))
  (fieldA 0 (ptr (n) 0)).bind fun v3 =>
  (ld false 1 v3 H1).bind fun v4 =>
  (lenV false v4).bind fun v5 =>
  (L (S38L0 C L) (put (put (put (put (put (put t 1 (ptr (n) 0)) 2 (.bool false)) 5 v3) 6 v4) 7 v5) 8 (.int .i64 0)) H1 (n + 6)).bind fun (o6 : Out) =>
  let o16 := outOf 0 o6
  thenK o16
    ((fieldA 0 (o16.t 1)).bind fun v17 =>
     (ld false 1 v17 o16.H).bind fun v18 =>
     (lenV false v18).bind fun v19 =>
     (binK .plain .leq v19 (.int .i64 3000)).bind fun v20 =>
     some (v20, o16.H, o16.n + 5))
    (finE o16.e
       (some (o16.t 2, o16.H, o16.n)))
theorem s38 (C : Calling) (L : Body → Body) (t : Tm) (H : Hp) (n : Nat) : bodyK Try.prog C L Try.f38 t H n = S38 C L t H n := by kernel_rfl
theorem c38 (args : List Value) (H : Hp) (n : Nat) : Call Try.prog 38 args H n = S38 (Call Try.prog) Loop (argsT args) H n := (Call_body Try.func38 args H n).trans (s38 ..)
/-! 39: spec.l1New -/
noncomputable def S39L0 (C : Calling) (L : Body → Body) : Body := fun t H n =>
  (lenV false (t 0)).bind fun v4 =>
  (binK .plain .lss (t 4) v4).bind fun v5 =>
  let t7 : Tm := put (put (put (put (put t 8 (t 4)) 9 (t 0)) 10 v4) 11 v5) 12 v5
  (gsel v5 true
    ((binK .plain .lss (t7 4) (.int .i64 4000)).bind fun v8 =>
     some (put (put t7 13 (t7 4)) 14 v8, H, n + 8))
    (some (put (put t7 13 (.tuple #[])) 14 (.tuple #[]), H, n + 8))
  ).bind fun (q6 : R3) =>
  (pickV (q6.1 12) (q6.1 14) (.bool false)).bind fun v9 =>
  csel v9
    ((binK .plain .mul (q6.1 3) (.int .i64 131)).bind fun v10 =>
     (idxA 1 (q6.1 0) (q6.1 4)).bind fun v11 =>
     (ld false 1 v11 q6.2.1).bind fun v12 =>
     (conv (.toInt .i64) (q6.2.2 + 6) v12 q6.2.1).bind fun p13 =>
     (binK .plain .add v10 p13.1).bind fun v14 =>
     (binK .plain .add v14 (.int .i64 7)).bind fun v15 =>
     (binK .plain .and v15 (.int .i64 1073741823)).bind fun v16 =>
     (binK .plain .add (q6.1 4) (.int .i64 1)).bind fun v17 =>
     some ⟨.normal, put (put (put (put (put (put (put (put (put (put (put (put (put (put (put q6.1 15 v9) 18 (q6.1 3)) 19 v10) 20 (q6.1 0)) 21 (q6.1 4)) 22 v11) 23 v12) 24 p13.1) 25 v14) 26 v15) 27 v16) 3 v16) 16 (q6.1 4)) 17 v17) 4 v17, p13.2, q6.2.2 + 14⟩)
    (some ⟨(.exit 0), put q6.1 15 v9, q6.2.1, q6.2.2⟩)
noncomputable def S39 (C : Calling) (L : Body → Body) (t : Tm) (H : Hp) (n : Nat) : Option (Value × Hp × Nat) :=
  (lenV false (t 0)).bind fun v1 =>
  (binK .plain .add (.int .i64 17000) v1).bind fun v2 =>
  (L (S39L0 C L) (put (put (put (put (put (put t 2 (.pointer none)) 5 (t 0)) 6 v1) 7 v2) 3 v2) 4 (.int .i64 0)) H (n + 6)).bind fun (o3 : Out) =>
  (bld [nilS, .int .i64 0, .int .i64 0] [(0, 1, o3.t 0), (2, 1, o3.t 3)]).bind fun v18 =>
  (vcells v18).bind fun c20 =>
  let H19 := o3.H.set (o3.n + 3) (some (.row c20 0 true))
  some (ptr (o3.n + 3) 0, H19, o3.n + 5)
theorem s39 (C : Calling) (L : Body → Body) (t : Tm) (H : Hp) (n : Nat) : bodyK Try.prog C L Try.f39 t H n = S39 C L t H n := by kernel_rfl
theorem c39 (args : List Value) (H : Hp) (n : Nat) : Call Try.prog 39 args H n = S39 (Call Try.prog) Loop (argsT args) H n := (Call_body Try.func39 args H n).trans (s39 ..)
/-! 40: spec.l2Draw -/
noncomputable def S40L0 (C : Calling) (L : Body → Body) : Body := fun t H n =>
  (fieldA 0 (t 3)).bind fun v37 =>
  (ld false 1 v37 H).bind fun v38 =>
  (lenV false v38).bind fun v39 =>
  (binK .plain .lss (t 5) v39).bind fun v40 =>
  csel v40
    ((fieldA 0 (t 3)).bind fun v41 =>
     (ld false 1 v41 H).bind fun v42 =>
     (idxA 5 v42 (t 5)).bind fun v43 =>
     (fieldA 0 v43).bind fun v44 =>
     (st false 1 v44 (.int .i64 1) H).bind fun H45 =>
     (binK .plain .add (t 5) (.int .i64 1)).bind fun v46 =>
     some ⟨.normal, put (put (put (put (put (put (put (put (put (put (put (put (put t 39 (t 5)) 40 v37) 41 v38) 42 v39) 43 v40) 46 v41) 47 v42) 48 (t 5)) 49 v43) 50 v44) 44 (t 5)) 45 v46) 5 v46, H45, n + 14⟩)
    (some ⟨(.exit 0), put (put (put (put (put t 39 (t 5)) 40 v37) 41 v38) 42 v39) 43 v40, H, n + 5⟩)
noncomputable def S40 (C : Calling) (L : Body → Body) (t : Tm) (H : Hp) (n : Nat) : Option (Value × Hp × Nat) :=
  let H1 := H.set (n) (some (.row [nilS] 0 true))
  (C 75 [t 0] H1 (n + 5)).bind fun q2 =>
  let H3 := q2.2.1.set (n + 3) (some (.row [nilS] 0 true))
  (st true 1 (ptr (n + 3) 0) q2.1 H3).bind fun H4 =>
  (fieldA 0 (ptr (n + 3) 0)).bind fun v5 =>
  (ld false 1 v5 H4).bind fun v6 =>
  (lenV false v6).bind fun v7 =>
  (binK .plain .gtr v7 (.int .i64 0)).bind fun v8 =>
  let t10 : Tm := put (put (put (put (put (put (put (put (put t 2 (ptr (n) 0)) 6 (t 0)) 7 q2.1) 3 (ptr (n + 3) 0)) 8 v5) 9 v6) 10 v7) 11 v8) 12 v8
  (gsel v8 true
    ((C 54 [t10 0, .int .i64 12] H4 (q2.2.2 + 8)).bind fun q11 =>
     some (put (put t10 13 (t10 0)) 14 q11.1, q11.2.1, q11.2.2))
    (some (put (put t10 13 (.tuple #[])) 14 (.tuple #[]), H4, q2.2.2 + 8))
  ).bind fun (q9 : R3) =>
  (pickV (q9.1 12) (q9.1 14) (.bool false)).bind fun v12 =>
  let t14 : Tm := put q9.1 15 v12
  (csel v12
    ((fieldA 0 (t14 3)).bind fun v15 =>
     (ld false 1 v15 q9.2.1).bind fun v16 =>
     (lenV false v16).bind fun v17 =>
     (C 41 [t14 0, v17] q9.2.1 (q9.2.2 + 6)).bind fun q18 =>
     (fieldA 0 (t14 3)).bind fun v19 =>
     (ld false 1 v19 q18.2.1).bind fun v20 =>
     (fieldA 0 (t14 3)).bind fun v21 =>
     (ld false 1 v21 q18.2.1).bind fun v22 =>
     (idxA 5 v22 q18.1).bind fun v23 =>
     (ld true 5 v23 q18.2.1).bind fun v24 =>
     (C 76 [t14 0, v24] q18.2.1 (q18.2.2 + 12)).bind fun q25 =>
     ask (ld false 1 v19 q25.2.1 = some v20) <|
     (idxA 5 v20 q18.1).bind fun v26 =>
     (st true 5 v26 q25.1 q25.2.1).bind fun H27 =>
     some ⟨.normal, put (put (put (put (put (put (put (put (put (put (put (put (put (put (put (put (put t14 16 (t14 0)) 17 v15) 18 v16) 19 v17) 20 q18.1) 4 q18.1) 21 v19) 22 v20) 23 q18.1) 24 (t14 0)) 25 v21) 26 v22) 27 q18.1) 28 v23) 29 v24) 30 q25.1) 31 v26, H27, q25.2.2⟩)
    (some ⟨.normal, t14, q9.2.1, q9.2.2⟩)
  ).bind fun (o13 : Out) =>
  (C 54 [o13.t 0, .int .i64 60] o13.H (o13.n + 2)).bind fun q28 =>
  let t30 : Tm := put (put o13.t 32 (o13.t 0)) 33 q28.1
  (csel q28.1
    ((C 41 [t30 0, .int .i64 2] q28.2.1 (q28.2.2 + 6)).bind fun q31 =>
     (binK .plain .add (.int .i64 3000) q31.1).bind fun v32 =>
     (mks (q28.2.2 + 3) 5 48 [.int .i64 0, .int .i64 0, .string ⟨#[]⟩, .int .i64 0, .int .i64 0] v32 v32 q31.2.1).bind fun p33 =>
     (fieldA 0 (t30 3)).bind fun v34 =>
     (st false 1 v34 p33.1 p33.2).bind fun H35 =>
     (L (S40L0 C L) (put (put (put (put (put (put t30 34 (t30 0)) 35 q31.1) 36 v32) 37 p33.1) 38 v34) 5 (.int .i64 0)) H35 (q31.2.2 + 1)).bind fun (o36 : Out) =>
     some ⟨.normal, o36.t, o36.H, o36.n⟩)
    (some ⟨.normal, t30, q28.2.1, q28.2.2⟩)
  ).bind fun (o29 : Out) =>
  (ld true 1 (o29.t 3) o29.H).bind fun v47 =>
  (st true 1 (o29.t 2) v47 o29.H).bind fun H48 =>
  (ld true 1 (o29.t 2) H48).bind fun v49 =>
  some (v49, H48, o29.n + 2)
theorem s40 (C : Calling) (L : Body → Body) (t : Tm) (H : Hp) (n : Nat) : bodyK Try.prog C L Try.f40 t H n = S40 C L t H n := by kernel_rfl
theorem c40 (args : List Value) (H : Hp) (n : Nat) : Call Try.prog 40 args H n = S40 (Call Try.prog) Loop (argsT args) H n := (Call_body Try.func40 args H n).trans (s40 ..)
/-! 41: spec.l1Below -/
noncomputable def S41 (C : Calling) (L : Body → Body) (t : Tm) (H : Hp) (n : Nat) : Option (Value × Hp × Nat) :=
  (binK .plain .leq (t 1) (.int .i64 0)).bind fun v1 =>
  csel v1
    (some (.int .i64 0, H, n + 4))
    ((binK .plain .leq (t 1) (.int .i64 256)).bind fun v2 =>
     csel v2
       ((C 77 [t 0] H (n + 10)).bind fun q3 =>
        (binK .plain .rem q3.1 (t 1)).bind fun v4 =>
        some (v4, q3.2.1, q3.2.2))
       ((C 77 [t 0] H (n + 8)).bind fun q5 =>
        (C 77 [t 0] q5.2.1 (q5.2.2 + 3)).bind fun q6 =>
        (C 77 [t 0] q6.2.1 (q6.2.2 + 3)).bind fun q7 =>
        (C 77 [t 0] q7.2.1 (q7.2.2 + 3)).bind fun q8 =>
        (binK .plain .mul q5.1 (.int .i64 16777216)).bind fun v9 =>
        (binK .plain .mul q6.1 (.int .i64 65536)).bind fun v10 =>
        (binK .plain .add v9 v10).bind fun v11 =>
        (binK .plain .mul q7.1 (.int .i64 256)).bind fun v12 =>
        (binK .plain .add v11 v12).bind fun v13 =>
        (binK .plain .add v13 q8.1).bind fun v14 =>
        (binK .plain .rem v14 (t 1)).bind fun v15 =>
        some (v15, q8.2.1, q8.2.2 + 13)))
theorem s41 (C : Calling) (L : Body → Body) (t : Tm) (H : Hp) (n : Nat) : bodyK Try.prog C L Try.f41 t H n = S41 C L t H n := by kernel_rfl
theorem c41 (args : List Value) (H : Hp) (n : Nat) : Call Try.prog 41 args H n = S41 (Call Try.prog) Loop (argsT args) H n := (Call_body Try.func41 args H n).trans (s41 ..)
/-! 42: spec.l2DrawAt -/
noncomputable def S42 (C : Calling) (L : Body → Body) (t : Tm) (H : Hp) (n : Nat) : Option (Value × Hp × Nat) :=
  (vcells (t 1)).bind fun c2 =>
  let H1 := H.set (n) (some (.row c2 0 true))
  (fieldA 0 (ptr (n) 0)).bind fun v3 =>
  (ld false 1 v3 H1).bind fun v4 =>
  (lenV false v4).bind fun v5 =>
  (binK .plain .eql v5 (.int .i64 0)).bind fun v6 =>
  let t8 : Tm := put (put (put (put (put (put (put t 3 (ptr (n) 0)) 4 (.int .i64 0)) 5 v3) 6 v4) 7 v5) 8 v6) 9 v6
  (gsel v6 false
    ((C 54 [t8 0, .int .i64 20] H1 (n + 10)).bind fun q9 =>
     some (put (put t8 10 (t8 0)) 11 q9.1, q9.2.1, q9.2.2))
    (some (put (put t8 10 (.tuple #[])) 11 (.tuple #[]), H1, n + 10))
  ).bind fun (q7 : R3) =>
  (pickV (q7.1 9) (.bool true) (q7.1 11)).bind fun v10 =>
  csel v10
    ((fieldA 0 (q7.1 3)).bind fun v11 =>
     (ld false 1 v11 q7.2.1).bind fun v12 =>
     (lenV false v12).bind fun v13 =>
     (bsl (q7.2.2 + 4) 1 3 [.int .i64 0] [(0, 1, .int .i64 (-1)), (1, 1, .int .i64 0), (2, 1, v13)] q7.2.1).bind fun p14 =>
     (C 78 [q7.1 0, p14.1] p14.2 (q7.2.2 + 7)).bind fun q15 =>
     some (q15.1, q15.2.1, q15.2.2))
    ((fieldA 0 (q7.1 3)).bind fun v16 =>
     (ld false 1 v16 q7.2.1).bind fun v17 =>
     (lenV false v17).bind fun v18 =>
     (binK .plain .sub v18 (.int .i64 1)).bind fun v19 =>
     (fieldA 0 (q7.1 3)).bind fun v20 =>
     (ld false 1 v20 q7.2.1).bind fun v21 =>
     (lenV false v21).bind fun v22 =>
     (C 79 [v22, .int .i64 9] q7.2.1 (q7.2.2 + 12)).bind fun q23 =>
     ask (ld false 1 v16 q23.2.1 = some v17) <|
     (C 41 [q7.1 0, q23.1] q23.2.1 (q23.2.2)).bind fun q24 =>
     ask (ld false 1 v16 q24.2.1 = some v17) <|
     (binK .plain .sub v19 q24.1).bind fun v25 =>
     some (v25, q24.2.1, q24.2.2))
theorem s42 (C : Calling) (L : Body → Body) (t : Tm) (H : Hp) (n : Nat) : bodyK Try.prog C L Try.f42 t H n = S42 C L t H n := by kernel_rfl
theorem c42 (args : List Value) (H : Hp) (n : Nat) : Call Try.prog 42 args H n = S42 (Call Try.prog) Loop (argsT args) H n := (Call_body Try.func42 args H n).trans (s42 ..)
/-! 43: impl.copyPool -/
noncomputable def S43 (C : Calling) (L : Body → Body) (t : Tm) (H : Hp) (n : Nat) : Option (Value × Hp × Nat) :=
  (vcells (t 0)).bind fun c2 =>
  let H1 := H.set (n) (some (.row c2 0 true))
  let H3 := H1.set (n + 1) (some (.row [nilS] 0 true))
  (fieldA 0 (ptr (n) 0)).bind fun v4 =>
  (ld false 1 v4 H3).bind fun v5 =>
  (C 80 [v5] H3 (n + 7)).bind fun q6 =>
  (bld [nilS] [(0, 1, q6.1)]).bind fun v7 =>
  (st true 1 (ptr (n + 1) 0) v7 q6.2.1).bind fun H8 =>
  (ld true 1 (ptr (n + 1) 0) H8).bind fun v9 =>
  some (v9, H8, q6.2.2)
theorem s43 (C : Calling) (L : Body → Body) (t : Tm) (H : Hp) (n : Nat) : bodyK Try.prog C L Try.f43 t H n = S43 C L t H n := by kernel_rfl
theorem c43 (args : List Value) (H : Hp) (n : Nat) : Call Try.prog 43 args H n = S43 (Call Try.prog) Loop (argsT args) H n := (Call_body Try.func43 args H n).trans (s43 ..)
/-! 44: slices.ContainsFunc[[]int,int] -/
noncomputable def S44 (C : Calling) (L : Body → Body) (t : Tm) (H : Hp) (n : Nat) : Option (Value × Hp × Nat) :=
  (C 81 [t 0, t 1] H (n + 6)).bind fun q1 =>
  (binK .plain .geq q1.1 (.int .i64 0)).bind fun v2 =>
  some (v2, q1.2.1, q1.2.2)
theorem s44 (C : Calling) (L : Body → Body) (t : Tm) (H : Hp) (n : Nat) : bodyK Try.prog C L Try.f44 t H n = S44 C L t H n := by kernel_rfl
theorem c44 (args : List Value) (H : Hp) (n : Nat) : Call Try.prog 44 args H n = S44 (Call Try.prog) Loop (argsT args) H n := (Call_body Try.func44 args H n).trans (s44 ..)
/-! 45: impl.MakeList$1 -/
noncomputable def S45 (C : Calling) (L : Body → Body) (t : Tm) (H : Hp) (n : Nat) : Option (Value × Hp × Nat) :=
  (ld true 1 (t 1) H).bind fun v1 =>
  (C 46 [v1, t 0] H (n + 6)).bind fun q2 =>
  (un .not q2.1).bind fun v3 =>
  some (v3, q2.2.1, q2.2.2)
theorem s45 (C : Calling) (L : Body → Body) (t : Tm) (H : Hp) (n : Nat) : bodyK Try.prog C L Try.f45 t H n = S45 C L t H n := by kernel_rfl
theorem c45 (args : List Value) (H : Hp) (n : Nat) : Call Try.prog 45 args H n = S45 (Call Try.prog) Loop (argsT args) H n := (Call_body Try.func45 args H n).trans (s45 ..)
/-! 46: impl.isNode -/
noncomputable def S46 (C : Calling) (L : Body → Body) (t : Tm) (H : Hp) (n : Nat) : Option (Value × Hp × Nat) :=
  (vcells (t 0)).bind fun c2 =>
  let H1 := H.set (n) (some (.row c2 0 true))
  (fieldA 0 (ptr (n) 0)).bind fun v3 =>
  (ld false 1 v3 H1).bind fun v4 =>
  (lenV false v4).bind fun v5 =>
  (binK .plain .sub v5 (.int .i64 1)).bind fun v6 =>
  (C 82 [t 1, .int .i64 0, v6] H1 (n + 9)).bind fun q7 =>
  some (q7.1, q7.2.1, q7.2.2)
theorem s46 (C : Calling) (L : Body → Body) (t : Tm) (H : Hp) (n : Nat) : bodyK Try.prog C L Try.f46 t H n = S46 C L t H n := by kernel_rfl
theorem c46 (args : List Value) (H : Hp) (n : Nat) : Call Try.prog 46 args H n = S46 (Call Try.prog) Loop (argsT args) H n := (Call_body Try.func46 args H n).trans (s46 ..)
/-! 47: impl.Pool).list -/
noncomputable def S47L0 (C : Calling) (L : Body → Body) : Body := fun t H n =>
  (binK .plain .geq (t 6) (.int .i64 0)).bind fun v6 =>
  csel v6
    ((idxA 1 (t 1) (t 6)).bind fun v7 =>
     (ld false 1 v7 H).bind fun v8 =>
     (C 84 [t 0, v8, t 5] H (n + 10)).bind fun q9 =>
     (binK .plain .sub (t 6) (.int .i64 1)).bind fun v10 =>
     some ⟨.normal, put (put (put (put (put (put (put (put (put (put (put (put (put t 13 (t 6)) 14 v6) 17 (t 0)) 18 (t 1)) 19 (t 6)) 20 v7) 21 v8) 22 (t 5)) 23 q9.1) 5 q9.1) 15 (t 6)) 16 v10) 6 v10, q9.2.1, q9.2.2 + 3⟩)
    (some ⟨(.exit 0), put (put t 13 (t 6)) 14 v6, H, n + 2⟩)
noncomputable def S47 (C : Calling) (L : Body → Body) (t : Tm) (H : Hp) (n : Nat) : Option (Value × Hp × Nat) :=
  (bld [.int .i64 0, .int .i64 0, .string ⟨#[]⟩, .int .i64 0, .int .i64 0] [(0, 1, .int .i64 1)]).bind fun v1 =>
  (C 83 [t 0, v1] H (n + 5)).bind fun q2 =>
  (lenV false (t 1)).bind fun v3 =>
  (binK .plain .sub v3 (.int .i64 1)).bind fun v4 =>
  (L (S47L0 C L) (put (put (put (put (put (put (put (put (put t 4 (.int .i64 0)) 7 (t 0)) 8 v1) 9 q2.1) 5 q2.1) 10 (t 1)) 11 v3) 12 v4) 6 v4) q2.2.1 (q2.2.2 + 4)).bind fun (o5 : Out) =>
  some (o5.t 5, o5.H, o5.n + 2)
theorem s47 (C : Calling) (L : Body → Body) (t : Tm) (H : Hp) (n : Nat) : bodyK Try.prog C L Try.f47 t H n = S47 C L t H n := by kernel_rfl
theorem c47 (args : List Value) (H : Hp) (n : Nat) : Call Try.prog 47 args H n = S47 (Call Try.prog) Loop (argsT args) H n := (Call_body Try.func47 args H n).trans (s47 ..)
/-! 48: impl.settled -/
noncomputable def S48 (C : Calling) (L : Body → Body) (t : Tm) (H : Hp) (n : Nat) : Option (Value × Hp × Nat) :=
  (vcells (t 0)).bind fun c2 =>
  let H1 := H.set (n) (some (.row c2 0 true))
  (vcells (t 1)).bind fun c4 =>
  let H3 := H1.set (n + 1) (some (.row c4 0 true))
  let H5 := H3.set (n + 2) (some (.row [nilS] 0 true))
  (ld true 1 (ptr (n + 1) 0) H5).bind fun v6 =>
  (C 38 [v6] H5 (n + 7)).bind fun q7 =>
  (un .not q7.1).bind fun v8 =>
  csel v8
    ((ld true 1 (ptr (n) 0) q7.2.1).bind fun v9 =>
     (C 43 [v9] q7.2.1 (q7.2.2 + 4)).bind fun q10 =>
     (st true 1 (ptr (n + 2) 0) q10.1 q10.2.1).bind fun H11 =>
     (ld true 1 (ptr (n + 2) 0) H11).bind fun v12 =>
     iteK ([v12, .int .i64 (-1)].all notTup) <|
     some (.tuple ⟨[v12, .int .i64 (-1)]⟩, H11, q10.2.2))
    ((ld true 1 (ptr (n + 1) 0) q7.2.1).bind fun v13 =>
     (st true 1 (ptr (n + 2) 0) v13 q7.2.1).bind fun H14 =>
     (ld true 1 (ptr (n + 2) 0) H14).bind fun v15 =>
     iteK ([v15, t 2].all notTup) <|
     some (.tuple ⟨[v15, t 2]⟩, H14, q7.2.2 + 4))
theorem s48 (C : Calling) (L : Body → Body) (t : Tm) (H : Hp) (n : Nat) : bodyK Try.prog C L Try.f48 t H n = S48 C L t H n := by kernel_rfl
theorem c48 (args : List Value) (H : Hp) (n : Nat) : Call Try.prog 48 args H n = S48 (Call Try.prog) Loop (argsT args) H n := (Call_body Try.func48 args H n).trans (s48 ..)
/-! 49: spec.PoolOk -/
noncomputable def S49L0 (C : Calling) (L : Body → Body) : Body := fun t H n =>
  (fieldA 0 (t 1)).bind fun v4 =>
  (ld false 1 v4 H).bind fun v5 =>
  (lenV false v5).bind fun v6 =>
  (binK .plain .lss (t 3) v6).bind fun v7 =>
  csel v7
    ((fieldA 0 (t 1)).bind fun v8 =>
     (ld false 1 v8 H).bind fun v9 =>
     (idxA 5 v9 (t 3)).bind fun v10 =>
     (ld true 5 v10 H).bind fun v11 =>
     (C 85 [v11, t 3] H (n + 13)).bind fun q12 =>
     (un .not q12.1).bind fun v13 =>
     csel v13
       (some ⟨.ret, put (put (put (put (put (put (put (put (put (put (put (put (put (put t 4 (t 3)) 5 v4) 6 v5) 7 v6) 8 v7) 11 v8) 12 v9) 13 (t 3)) 14 v10) 15 v11) 16 (t 3)) 17 q12.1) 18 v13) 2 (.bool false), q12.2.1, q12.2.2 + 1⟩)
       ((binK .plain .add (t 3) (.int .i64 1)).bind fun v14 =>
        some ⟨.normal, put (put (put (put (put (put (put (put (put (put (put (put (put (put (put (put t 4 (t 3)) 5 v4) 6 v5) 7 v6) 8 v7) 11 v8) 12 v9) 13 (t 3)) 14 v10) 15 v11) 16 (t 3)) 17 q12.1) 18 v13) 9 (t 3)) 10 v14) 3 v14, q12.2.1, q12.2.2 + 3⟩))
    (some ⟨(.exit 0), put (put (put (put (put t 4 (t 3)) 5 v4) 6 v5) 7 v6) 8 v7, H, n + 5⟩)
noncomputable def S49 (C : Calling) (L : Body → Body) (t : Tm) (H : Hp) (n : Nat) : Option (Value × Hp × Nat) :=
  (vcells (t 0)).bind fun c2 =>
  let H1 := H.set (n) (some (.row c2 0 true))
  (L (S49L0 C L) (put (put (put t 1 (ptr (n) 0)) 2 (.bool false)) 3 (.int .i64 0)) H1 (n + 3)).bind fun (o3 : Out) =>
  let o15 := outOf 0 o3
  thenK o15
    ((fieldA 0 (o15.t 1)).bind fun v16 =>
     (ld false 1 v16 o15.H).bind fun v17 =>
     (lenV false v17).bind fun v18 =>
     (binK .plain .leq v18 (.int .i64 3000)).bind fun v19 =>
     some (v19, o15.H, o15.n + 5))
    (finE o15.e
       (some (o15.t 2, o15.H, o15.n)))
theorem s49 (C : Calling) (L : Body → Body) (t : Tm) (H : Hp) (n : Nat) : bodyK Try.prog C L Try.f49 t H n = S49 C L t H n := by kernel_rfl
theorem c49 (args : List Value) (H : Hp) (n : Nat) : Call Try.prog 49 args H n = S49 (Call Try.prog) Loop (argsT args) H n := (Call_body Try.func49 args H n).trans (s49 ..)
/-! 50: spec.l2Has -/
noncomputable def S50 (C : Calling) (L : Body → Body) (t : Tm) (H : Hp) (n : Nat) : Option (Value × Hp × Nat) :=
  (vcells (t 0)).bind fun c2 =>
  let H1 := H.set (n) (some (.row c2 0 true))
  (fieldA 0 (ptr (n) 0)).bind fun v3 =>
  (ld false 1 v3 H1).bind fun v4 =>
  (lenV false v4).bind fun v5 =>
  (binK .plain .sub v5 (.int .i64 1)).bind fun v6 =>
  (C 86 [t 1, .int .i64 0, v6] H1 (n + 9)).bind fun q7 =>
  some (q7.1, q7.2.1, q7.2.2)
theorem s50 (C : Calling) (L : Body → Body) (t : Tm) (H : Hp) (n : Nat) : bodyK Try.prog C L Try.f50 t H n = S50 C L t H n := by kernel_rfl
theorem c50 (args : List Value) (H : Hp) (n : Nat) : Call Try.prog 50 args H n = S50 (Call Try.prog) Loop (argsT args) H n := (Call_body Try.func50 args H n).trans (s50 ..)
/-! 51: spec.l2Copy -/
noncomputable def S51 (C : Calling) (L : Body → Body) (t : Tm) (H : Hp) (n : Nat) : Option (Value × Hp × Nat) :=
  (vcells (t 0)).bind fun c2 =>
  let H1 := H.set (n) (some (.row c2 0 true))
  let H3 := H1.set (n + 1) (some (.row [nilS] 0 true))
  (bsl (n + 2) 5 0 [.int .i64 0, .int .i64 0, .string ⟨#[]⟩, .int .i64 0, .int .i64 0] [] H3).bind fun p4 =>
  (fieldA 0 (ptr (n) 0)).bind fun v5 =>
  (ld false 1 v5 p4.2).bind fun v6 =>
  (app (n + 5) 5 48 p4.1 v6 p4.2).bind fun p7 =>
  (bld [nilS] [(0, 1, p7.1)]).bind fun v8 =>
  (st true 1 (ptr (n + 1) 0) v8 p7.2).bind fun H9 =>
  (ld true 1 (ptr (n + 1) 0) H9).bind fun v10 =>
  some (v10, H9, n + 8)
theorem s51 (C : Calling) (L : Body → Body) (t : Tm) (H : Hp) (n : Nat) : bodyK Try.prog C L Try.f51 t H n = S51 C L t H n := by kernel_rfl
theorem c51 (args : List Value) (H : Hp) (n : Nat) : Call Try.prog 51 args H n = S51 (Call Try.prog) Loop (argsT args) H n := (Call_body Try.func51 args H n).trans (s51 ..)
/-! 52: spec.l2List -/
noncomputable def S52L0 (C : Calling) (L : Body → Body) : Body := fun t H n =>
  (binK .plain .geq (t 6) (.int .i64 0)).bind fun v6 =>
  csel v6
    ((idxA 1 (t 1) (t 6)).bind fun v7 =>
     (ld false 1 v7 H).bind fun v8 =>
     (bld [.int .i64 0, .int .i64 0, .string ⟨#[]⟩, .int .i64 0, .int .i64 0] [(0, 1, .int .i64 5), (3, 1, v8), (4, 1, t 5)]).bind fun v9 =>
     (C 63 [t 0, v9] H (n + 11)).bind fun q10 =>
     (binK .plain .sub (t 6) (.int .i64 1)).bind fun v11 =>
     some ⟨.normal, put (put (put (put (put (put (put (put (put (put (put (put (put (put t 13 (t 6)) 14 v6) 17 (t 0)) 18 (t 1)) 19 (t 6)) 20 v7) 21 v8) 22 (t 5)) 23 v9) 24 q10.1) 5 q10.1) 15 (t 6)) 16 v11) 6 v11, q10.2.1, q10.2.2 + 3⟩)
    (some ⟨(.exit 0), put (put t 13 (t 6)) 14 v6, H, n + 2⟩)
noncomputable def S52 (C : Calling) (L : Body → Body) (t : Tm) (H : Hp) (n : Nat) : Option (Value × Hp × Nat) :=
  (bld [.int .i64 0, .int .i64 0, .string ⟨#[]⟩, .int .i64 0, .int .i64 0] [(0, 1, .int .i64 1)]).bind fun v1 =>
  (C 63 [t 0, v1] H (n + 5)).bind fun q2 =>
  (lenV false (t 1)).bind fun v3 =>
  (binK .plain .sub v3 (.int .i64 1)).bind fun v4 =>
  (L (S52L0 C L) (put (put (put (put (put (put (put (put (put t 4 (.int .i64 0)) 7 (t 0)) 8 v1) 9 q2.1) 5 q2.1) 10 (t 1)) 11 v3) 12 v4) 6 v4) q2.2.1 (q2.2.2 + 4)).bind fun (o5 : Out) =>
  some (o5.t 5, o5.H, o5.n + 2)
theorem s52 (C : Calling) (L : Body → Body) (t : Tm) (H : Hp) (n : Nat) : bodyK Try.prog C L Try.f52 t H n = S52 C L t H n := by kernel_rfl
theorem c52 (args : List Value) (H : Hp) (n : Nat) : Call Try.prog 52 args H n = S52 (Call Try.prog) Loop (argsT args) H n := (Call_body Try.func52 args H n).trans (s52 ..)
/-! 53: impl.Pool).listOf -/
noncomputable def S53L0 (C : Calling) (L : Body → Body) : Body := fun t H n =>
  (nilchk (t 0)).bind fun v3 =>
  (fieldA 0 v3).bind fun v4 =>
  (ld false 1 v4 H).bind fun v5 =>
  (idxA 5 v5 (t 1)).bind fun v6 =>
  (fieldA 0 v6).bind fun v7 =>
  (ld false 1 v7 H).bind fun v8 =>
  (binK .plain .eql v8 (.int .i64 5)).bind fun v9 =>
  csel v9
    ((nilchk (t 0)).bind fun v10 =>
     (fieldA 0 v10).bind fun v11 =>
     (ld false 1 v11 H).bind fun v12 =>
     (idxA 5 v12 (t 1)).bind fun v13 =>
     (fieldA 3 v13).bind fun v14 =>
     (ld false 1 v14 H).bind fun v15 =>
     (bsl (n + 18) 1 1 [.int .i64 0] [(0, 1, v15)] H).bind fun p16 =>
     (app (n + 19) 1 8 (t 6) p16.1 p16.2).bind fun p17 =>
     (nilchk (t 0)).bind fun v18 =>
     (fieldA 0 v18).bind fun v19 =>
     (ld false 1 v19 p17.2).bind fun v20 =>
     (idxA 5 v20 (t 1)).bind fun v21 =>
     (fieldA 4 v21).bind fun v22 =>
     (ld false 1 v22 p17.2).bind fun v23 =>
     some ⟨.normal, put (put (put (put (put (put (put (put (put (put (put (put (put (put (put (put (put (put (put (put (put (put (put (put (put (put (put (put (put (put t 8 (t 0)) 9 v3) 10 v4) 11 v5) 12 (t 1)) 13 v6) 14 v7) 15 v8) 16 v9) 17 (t 6)) 18 (t 0)) 19 v10) 20 v11) 21 v12) 22 (t 1)) 23 v13) 24 v14) 25 v15) 26 p16.1) 27 p17.1) 6 p17.1) 28 (t 0)) 29 v18) 30 v19) 31 v20) 32 (t 1)) 33 v21) 34 v22) 35 v23) 1 v23, p17.2, n + 30⟩)
    (some ⟨(.exit 0), put (put (put (put (put (put (put (put (put t 8 (t 0)) 9 v3) 10 v4) 11 v5) 12 (t 1)) 13 v6) 14 v7) 15 v8) 16 v9, H, n + 9⟩)
noncomputable def S53 (C : Calling) (L : Body → Body) (t : Tm) (H : Hp) (n : Nat) : Option (Value × Hp × Nat) :=
  (bsl (n + 2) 1 0 [.int .i64 0] [] H).bind fun p1 =>
  (L (S53L0 C L) (put (put (put (put t 4 nilS) 5 (.bool false)) 7 p1.1) 6 p1.1) p1.2 (n + 4)).bind fun (o2 : Out) =>
  (nilchk (o2.t 0)).bind fun v24 =>
  (fieldA 0 v24).bind fun v25 =>
  (ld false 1 v25 o2.H).bind fun v26 =>
  (idxA 5 v26 (o2.t 1)).bind fun v27 =>
  (fieldA 0 v27).bind fun v28 =>
  (ld false 1 v28 o2.H).bind fun v29 =>
  (binK .plain .eql v29 (.int .i64 1)).bind fun v30 =>
  iteK ([o2.t 6, v30].all notTup) <|
  some (.tuple ⟨[o2.t 6, v30]⟩, o2.H, o2.n + 12)
theorem s53 (C : Calling) (L : Body → Body) (t : Tm) (H : Hp) (n : Nat) : bodyK Try.prog C L Try.f53 t H n = S53 C L t H n := by kernel_rfl
theorem c53 (args : List Value) (H : Hp) (n : Nat) : Call Try.prog 53 args H n = S53 (Call Try.prog) Loop (argsT args) H n := (Call_body Try.func53 args H n).trans (s53 ..)
/-! 54: spec.l1Once -/
noncomputable def S54 (C : Calling) (L : Body → Body) (t : Tm) (H : Hp) (n : Nat) : Option (Value × Hp × Nat) :=
  (C 41 [t 0, t 1] H (n + 6)).bind fun q1 =>
  (binK .plain .eql q1.1 (.int .i64 0)).bind fun v2 =>
  some (v2, q1.2.1, q1.2.2)
theorem s54 (C : Calling) (L : Body → Body) (t : Tm) (H : Hp) (n : Nat) : bodyK Try.prog C L Try.f54 t H n = S54 C L t H n := by kernel_rfl
theorem c54 (args : List Value) (H : Hp) (n : Nat) : Call Try.prog 54 args H n = S54 (Call Try.prog) Loop (argsT args) H n := (Call_body Try.func54 args H n).trans (s54 ..)
/-! 55: spec.l2ListOf -/
noncomputable def S55L0 (C : Calling) (L : Body → Body) : Body := fun t H n =>
  (fieldA 0 (t 2)).bind fun v5 =>
  (ld false 1 v5 H).bind fun v6 =>
  (idxA 5 v6 (t 1)).bind fun v7 =>
  (fieldA 0 v7).bind fun v8 =>
  (ld false 1 v8 H).bind fun v9 =>
  (binK .plain .eql v9 (.int .i64 5)).bind fun v10 =>
  csel v10
    ((fieldA 0 (t 2)).bind fun v11 =>
     (ld false 1 v11 H).bind fun v12 =>
     (idxA 5 v12 (t 1)).bind fun v13 =>
     (fieldA 3 v13).bind fun v14 =>
     (ld false 1 v14 H).bind fun v15 =>
     (bsl (n + 14) 1 1 [.int .i64 0] [(0, 1, v15)] H).bind fun p16 =>
     (app (n + 15) 1 8 (t 6) p16.1 p16.2).bind fun p17 =>
     (fieldA 0 (t 2)).bind fun v18 =>
     (ld false 1 v18 p17.2).bind fun v19 =>
     (idxA 5 v19 (t 1)).bind fun v20 =>
     (fieldA 4 v20).bind fun v21 =>
     (ld false 1 v21 p17.2).bind fun v22 =>
     some ⟨.normal, put (put (put (put (put (put (put (put (put (put (put (put (put (put (put (put (put (put (put (put (put (put (put (put t 8 v5) 9 v6) 10 (t 1)) 11 v7) 12 v8) 13 v9) 14 v10) 15 (t 6)) 16 v11) 17 v12) 18 (t 1)) 19 v13) 20 v14) 21 v15) 22 p16.1) 23 p17.1) 6 p17.1) 24 v18) 25 v19) 26 (t 1)) 27 v20) 28 v21) 29 v22) 1 v22, p17.2, n + 24⟩)
    (some ⟨(.exit 0), put (put (put (put (put (put (put t 8 v5) 9 v6) 10 (t 1)) 11 v7) 12 v8) 13 v9) 14 v10, H, n + 7⟩)
noncomputable def S55 (C : Calling) (L : Body → Body) (t : Tm) (H : Hp) (n : Nat) : Option (Value × Hp × Nat) :=
  (vcells (t 0)).bind fun c2 =>
  let H1 := H.set (n) (some (.row c2 0 true))
  (bsl (n + 3) 1 0 [.int .i64 0] [] H1).bind fun p3 =>
  (L (S55L0 C L) (put (put (put (put (put t 2 (ptr (n) 0)) 4 nilS) 5 (.bool false)) 7 p3.1) 6 p3.1) p3.2 (n + 5)).bind fun (o4 : Out) =>
  (fieldA 0 (o4.t 2)).bind fun v23 =>
  (ld false 1 v23 o4.H).bind fun v24 =>
  (idxA 5 v24 (o4.t 1)).bind fun v25 =>
  (fieldA 0 v25).bind fun v26 =>
  (ld false 1 v26 o4.H).bind fun v27 =>
  (binK .plain .neq v27 (.int .i64 1)).bind fun v28 =>
  csel v28
    ((bsl (o4.n + 7) 1 0 [.int .i64 0] [] o4.H).bind fun p29 =>
     iteK ([p29.1, .bool false].all notTup) <|
     some (.tuple ⟨[p29.1, .bool false]⟩, p29.2, o4.n + 10))
    (iteK ([o4.t 6, .bool true].all notTup) <|
     some (.tuple ⟨[o4.t 6, .bool true]⟩, o4.H, o4.n + 10))
theorem s55 (C : Calling) (L : Body → Body) (t : Tm) (H : Hp) (n : Nat) : bodyK Try.prog C L Try.f55 t H n = S55 C L t H n := by kernel_rfl
theorem c55 (args : List Value) (H : Hp) (n : Nat) : Call Try.prog 55 args H n = S55 (Call Try.prog) Loop (argsT args) H n := (Call_body Try.func55 args H n).trans (s55 ..)
/-! 63: spec.l2Add -/
noncomputable def S63 (C : Calling) (L : Body → Body) (t : Tm) (H : Hp) (n : Nat) : Option (Value × Hp × Nat) :=
  (vcells (t 1)).bind fun c2 =>
  let H1 := H.set (n) (some (.row c2 0 true))
  (nilchk (t 0)).bind fun v3 =>
  (fieldA 0 v3).bind fun v4 =>
  (ld false 1 v4 H1).bind fun v5 =>
  (ld true 5 (ptr (n) 0) H1).bind fun v6 =>
  (bsl (n + 8) 5 1 [.int .i64 0, .int .i64 0, .string ⟨#[]⟩, .int .i64 0, .int .i64 0] [(0, 5, v6)] H1).bind fun p7 =>
  (app (n + 9) 5 48 v5 p7.1 p7.2).bind fun p8 =>
  (nilchk (t 0)).bind fun v9 =>
  (fieldA 0 v9).bind fun v10 =>
  (st false 1 v10 p8.1 p8.2).bind fun H11 =>
  (nilchk (t 0)).bind fun v12 =>
  (fieldA 0 v12).bind fun v13 =>
  (ld false 1 v13 H11).bind fun v14 =>
  (lenV false v14).bind fun v15 =>
  (binK .plain .sub v15 (.int .i64 1)).bind fun v16 =>
  some (v16, H11, n + 20)
theorem s63 (C : Calling) (L : Body → Body) (t : Tm) (H : Hp) (n : Nat) : bodyK Try.prog C L Try.f63 t H n = S63 C L t H n := by kernel_rfl
theorem c63 (args : List Value) (H : Hp) (n : Nat) : Call Try.prog 63 args H n = S63 (Call Try.prog) Loop (argsT args) H n := (Call_body Try.func63 args H n).trans (s63 ..)
/-! 74: impl.nodeOk -/
noncomputable def S74 (C : Calling) (L : Body → Body) (t : Tm) (H : Hp) (n : Nat) : Option (Value × Hp × Nat) :=
  (vcells (t 0)).bind fun c2 =>
  let H1 := H.set (n) (some (.row c2 0 true))
  (fieldA 2 (ptr (n) 0)).bind fun v3 =>
  (ld false 1 v3 H1).bind fun v4 =>
  (binK .plain .eql v4 (.string ⟨#[]⟩)).bind fun v5 =>
  (fieldA 3 (ptr (n) 0)).bind fun v6 =>
  (ld false 1 v6 H1).bind fun v7 =>
  (binK .plain .eql v7 (.int .i64 0)).bind fun v8 =>
  (fieldA 4 (ptr (n) 0)).bind fun v9 =>
  (ld false 1 v9 H1).bind fun v10 =>
  (binK .plain .eql v10 (.int .i64 0)).bind fun v11 =>
  (fieldA 0 (ptr (n) 0)).bind fun v12 =>
  (ld false 1 v12 H1).bind fun v13 =>
  (binK .plain .eql v13 (.int .i64 1)).bind fun v14 =>
  let t16 : Tm := put (put (put (put (put (put (put (put (put (put (put (put (put (put (put (put (put (put (put (put t 2 (ptr (n) 0)) 4 (.bool false)) 10 v3) 11 v4) 12 v5) 5 (.int .i64 0)) 6 (.int .i64 0)) 7 v5) 13 v6) 14 v7) 15 v8) 16 v9) 17 v10) 18 v11) 8 v8) 9 v11) 19 v12) 20 v13) 22 v14) 21 v14
  (csel v14
    (some ⟨.normal, t16, H1, n + 20⟩)
    ((binK .plain .eql v13 (.int .i64 2)).bind fun v17 =>
     let t19 : Tm := put (put t16 24 v17) 23 v17
     (csel v17
       (some ⟨.normal, put t19 6 (.int .i64 1), H1, n + 23⟩)
       ((binK .plain .eql v13 (.int .i64 3)).bind fun v20 =>
        let t22 : Tm := put (put t19 26 v20) 25 v20
        (csel v20
          (some ⟨.normal, put (put t22 5 (.int .i64 (-1000000000))) 6 (.int .i64 1000000000), H1, n + 26⟩)
          ((binK .plain .eql v13 (.int .i64 4)).bind fun v23 =>
           let t25 : Tm := put (put t22 28 v23) 27 v23
           (csel v23
             ((fieldA 2 (ptr (n) 0)).bind fun v26 =>
              (ld false 1 v26 H1).bind fun v27 =>
              (C 102 [v27] H1 (n + 30)).bind fun q28 =>
              some ⟨.normal, put (put (put (put t25 29 v26) 30 v27) 31 q28.1) 7 q28.1, q28.2.1, q28.2.2⟩)
             ((binK .plain .eql v13 (.int .i64 5)).bind fun v29 =>
              let t31 : Tm := put (put t25 33 v29) 32 v29
              (csel v29
                ((fieldA 3 (ptr (n) 0)).bind fun v32 =>
                 (ld false 1 v32 H1).bind fun v33 =>
                 (binK .plain .sub (t31 1) (.int .i64 1)).bind fun v34 =>
                 (C 82 [v33, .int .i64 0, v34] H1 (n + 40)).bind fun q35 =>
                 (fieldA 4 (ptr (n) 0)).bind fun v36 =>
                 (ld false 1 v36 q35.2.1).bind fun v37 =>
                 ask (ld false 1 v36 H1 = some v37) <|
                 (binK .plain .sub (t31 1) (.int .i64 1)).bind fun v38 =>
                 (C 82 [v37, .int .i64 0, v38] q35.2.1 (q35.2.2)).bind fun q39 =>
                 some ⟨.normal, put (put (put (put (put (put (put (put (put (put (put (put t31 34 v32) 35 v33) 36 (t31 1)) 37 v34) 38 q35.1) 39 v36) 40 v37) 41 (t31 1)) 42 v38) 43 q39.1) 8 q35.1) 9 q39.1, q39.2.1, q39.2.2⟩)
                ((binK .plain .eql v13 (.int .i64 6)).bind fun v40 =>
                 let t42 : Tm := put (put t31 45 v40) 44 v40
                 (csel v40
                   ((fieldA 3 (ptr (n) 0)).bind fun v43 =>
                    (ld false 1 v43 H1).bind fun v44 =>
                    (binK .plain .sub (t42 1) (.int .i64 1)).bind fun v45 =>
                    (C 82 [v44, .int .i64 0, v45] H1 (n + 37)).bind fun q46 =>
                    some ⟨.normal, put (put (put (put (put (put (put t42 46 v43) 47 v44) 48 (t42 1)) 49 v45) 50 q46.1) 6 (.int .i64 1000000000)) 8 q46.1, q46.2.1, q46.2.2⟩)
                   ((binK .plain .eql v13 (.int .i64 7)).bind fun v47 =>
                    let t49 : Tm := put (put t42 52 v47) 51 v47
                    (csel v47
                      ((fieldA 3 (ptr (n) 0)).bind fun v50 =>
                       (ld false 1 v50 H1).bind fun v51 =>
                       (binK .plain .sub (t49 1) (.int .i64 1)).bind fun v52 =>
                       (C 82 [v51, .int .i64 0, v52] H1 (n + 38)).bind fun q53 =>
                       some ⟨.normal, put (put (put (put (put (put t49 53 v50) 54 v51) 55 (t49 1)) 56 v52) 57 q53.1) 8 q53.1, q53.2.1, q53.2.2⟩)
                      ((binK .plain .eql v13 (.int .i64 8)).bind fun v54 =>
                       let t56 : Tm := put (put t49 59 v54) 58 v54
                       (csel v54
                         (some ⟨.normal, put t56 6 (.int .i64 99), H1, n + 35⟩)
                         ((binK .plain .eql v13 (.int .i64 9)).bind fun v57 =>
                          csel v57
                            (some ⟨.normal, put (put (put t56 61 v57) 60 v57) 6 (.int .i64 1000000000), H1, n + 37⟩)
                            (some ⟨.ret, put (put (put t56 61 v57) 60 v57) 4 (.bool false), H1, n + 37⟩))
                       ).bind fun (o55 : Out) =>
                       some o55)
                    ).bind fun (o48 : Out) =>
                    some o48)
                 ).bind fun (o41 : Out) =>
                 some o41)
              ).bind fun (o30 : Out) =>
              some o30)
           ).bind fun (o24 : Out) =>
           some o24)
        ).bind fun (o21 : Out) =>
        some o21)
     ).bind fun (o18 : Out) =>
     some o18)
  ).bind fun (o15 : Out) =>
  let o58 := outOf 0 o15
  thenK o58
    ((fieldA 1 (o58.t 2)).bind fun v59 =>
     (ld false 1 v59 o58.H).bind fun v60 =>
     (C 82 [v60, o58.t 5, o58.t 6] o58.H (o58.n + 15)).bind fun q61 =>
     (pickV q61.1 (gsel q61.1 true (o58.t 7) (.tuple #[])) (.bool false)).bind fun v62 =>
     (pickV v62 (gsel v62 true (o58.t 8) (.tuple #[])) (.bool false)).bind fun v63 =>
     (pickV v63 (gsel v63 true (o58.t 9) (.tuple #[])) (.bool false)).bind fun v64 =>
     some (v64, q61.2.1, q61.2.2))
    (finE o58.e
       (some (o58.t 4, o58.H, o58.n)))
theorem s74 (C : Calling) (L : Body → Body) (t : Tm) (H : Hp) (n : Nat) : bodyK Try.prog C L Try.f74 t H n = S74 C L t H n := by kernel_rfl
theorem c74 (args : List Value) (H : Hp) (n : Nat) : Call Try.prog 74 args H n = S74 (Call Try.prog) Loop (argsT args) H n := (Call_body Try.func74 args H n).trans (s74 ..)
/-! 75: spec.l2DrawRight -/
noncomputable def S75L0 (C : Calling) (L : Body → Body) : Body := fun t H n =>
  (binK .plain .lss (t 5) (t 4)).bind fun v7 =>
  csel v7
    ((C 103 [t 0, t 5] H (n + 7)).bind fun q8 =>
     (C 63 [t 3, q8.1] q8.2.1 (q8.2.2)).bind fun q9 =>
     (binK .plain .add (t 5) (.int .i64 1)).bind fun v10 =>
     some ⟨.normal, put (put (put (put (put (put (put (put (put (put t 9 (t 5)) 10 (t 4)) 11 v7) 14 (t 0)) 15 (t 5)) 16 q8.1) 17 q9.1) 12 (t 5)) 13 v10) 5 v10, q9.2.1, q9.2.2 + 3⟩)
    (some ⟨(.exit 0), put (put (put t 9 (t 5)) 10 (t 4)) 11 v7, H, n + 3⟩)
noncomputable def S75 (C : Calling) (L : Body → Body) (t : Tm) (H : Hp) (n : Nat) : Option (Value × Hp × Nat) :=
  let H1 := H.set (n) (some (.row [nilS] 0 true))
  (bld [nilS] []).bind fun v2 =>
  let H3 := H1.set (n + 2) (some (.row [nilS] 0 true))
  (st true 1 (ptr (n + 2) 0) v2 H3).bind fun H4 =>
  (C 41 [t 0, .int .i64 16] H4 (n + 7)).bind fun q5 =>
  (L (S75L0 C L) (put (put (put (put (put (put (put t 2 (ptr (n) 0)) 6 v2) 3 (ptr (n + 2) 0)) 7 (t 0)) 8 q5.1) 4 q5.1) 5 (.int .i64 0)) q5.2.1 (q5.2.2 + 1)).bind fun (o6 : Out) =>
  (ld true 1 (o6.t 3) o6.H).bind fun v11 =>
  (st true 1 (o6.t 2) v11 o6.H).bind fun H12 =>
  (ld true 1 (o6.t 2) H12).bind fun v13 =>
  some (v13, H12, o6.n + 2)
theorem s75 (C : Calling) (L : Body → Body) (t : Tm) (H : Hp) (n : Nat) : bodyK Try.prog C L Try.f75 t H n = S75 C L t H n := by kernel_rfl
theorem c75 (args : List Value) (H : Hp) (n : Nat) : Call Try.prog 75 args H n = S75 (Call Try.prog) Loop (argsT args) H n := (Call_body Try.func75 args H n).trans (s75 ..)
/-! 76: spec.l2Spoil -/
noncomputable def S76 (C : Calling) (L : Body → Body) (t : Tm) (H : Hp) (n : Nat) : Option (Value × Hp × Nat) :=
  (vcells (t 1)).bind fun c2 =>
  let H1 := H.set (n) (some (.row c2 0 true))
  let H3 := H1.set (n + 1) (some (.row [.int .i64 0, .int .i64 0, .string ⟨#[]⟩, .int .i64 0, .int .i64 0] 0 true))
  (C 41 [t 0, .int .i64 8] H3 (n + 4)).bind fun q4 =>
  (binK .plain .eql q4.1 (.int .i64 0)).bind fun v5 =>
  let t7 : Tm := put (put (put (put (put (put t 3 (ptr (n) 0)) 4 (ptr (n + 1) 0)) 5 (t 0)) 6 q4.1) 8 v5) 7 v5
  (csel v5
    ((C 41 [t7 0, .int .i64 11] q4.2.1 (q4.2.2 + 6)).bind fun q8 =>
     (fieldA 0 (ptr (n) 0)).bind fun v9 =>
     (st false 1 v9 q8.1 q8.2.1).bind fun H10 =>
     some ⟨.normal, put (put (put t7 9 (t7 0)) 10 q8.1) 11 v9, H10, q8.2.2⟩)
    ((binK .plain .eql q4.1 (.int .i64 1)).bind fun v11 =>
     let t13 : Tm := put (put t7 13 v11) 12 v11
     (csel v11
       ((C 41 [t13 0, .int .i64 20] q4.2.1 (q4.2.2 + 9)).bind fun q14 =>
        (binK .plain .sub q14.1 (.int .i64 1)).bind fun v15 =>
        (fieldA 3 (ptr (n) 0)).bind fun v16 =>
        (st false 1 v16 v15 q14.2.1).bind fun H17 =>
        some ⟨.normal, put (put (put (put t13 14 (t13 0)) 15 q14.1) 16 v15) 17 v16, H17, q14.2.2⟩)
       ((binK .plain .eql q4.1 (.int .i64 2)).bind fun v18 =>
        let t20 : Tm := put (put t13 19 v18) 18 v18
        (csel v18
          ((C 41 [t20 0, .int .i64 20] q4.2.1 (q4.2.2 + 11)).bind fun q21 =>
           (binK .plain .sub q21.1 (.int .i64 1)).bind fun v22 =>
           (fieldA 4 (ptr (n) 0)).bind fun v23 =>
           (st false 1 v23 v22 q21.2.1).bind fun H24 =>
           some ⟨.normal, put (put (put (put t20 20 (t20 0)) 21 q21.1) 22 v22) 23 v23, H24, q21.2.2⟩)
          ((binK .plain .eql q4.1 (.int .i64 3)).bind fun v25 =>
           let t27 : Tm := put (put t20 25 v25) 24 v25
           (csel v25
             ((bsl (q4.2.2 + 9) 1 8 [.int .i64 0] [(0, 1, .int .i64 (-1)), (1, 1, .int .i64 2), (2, 1, .int .i64 99), (3, 1, .int .i64 100), (4, 1, .int .i64 1000000000), (5, 1, .int .i64 1000000001), (6, 1, .int .i64 (-1000000000)), (7, 1, .int .i64 (-1000000001))] q4.2.1).bind fun p28 =>
              (C 78 [t27 0, p28.1] p28.2 (q4.2.2 + 13)).bind fun q29 =>
              (fieldA 1 (ptr (n) 0)).bind fun v30 =>
              (st false 1 v30 q29.1 q29.2.1).bind fun H31 =>
              some ⟨.normal, put (put (put (put t27 26 (t27 0)) 27 p28.1) 28 q29.1) 29 v30, H31, q29.2.2⟩)
             ((binK .plain .eql q4.1 (.int .i64 4)).bind fun v32 =>
              let t34 : Tm := put (put t27 31 v32) 30 v32
              (csel v32
                ((bsl (q4.2.2 + 11) 1 6 [.string ⟨#[]⟩] [(0, 1, .string ⟨#[]⟩), (1, 1, .string ⟨#[97]⟩), (2, 1, .string ⟨#[65, 98]⟩), (3, 1, .string ⟨#[97, 98, 99, 100, 101, 102, 103, 104, 105, 106, 107, 108]⟩), (4, 1, .string ⟨#[97, 98, 99, 100, 101, 102, 103, 104, 105, 106, 107, 108, 109]⟩), (5, 1, .string ⟨#[97, 49]⟩)] q4.2.1).bind fun p35 =>
                 (C 104 [t34 0, p35.1] p35.2 (q4.2.2 + 15)).bind fun q36 =>
                 (fieldA 2 (ptr (n) 0)).bind fun v37 =>
                 (st false 1 v37 q36.1 q36.2.1).bind fun H38 =>
                 some ⟨.normal, put (put (put (put t34 32 (t34 0)) 33 p35.1) 34 q36.1) 35 v37, H38, q36.2.2⟩)
                (some ⟨.normal, t34, q4.2.1, q4.2.2 + 10⟩)
              ).bind fun (o33 : Out) =>
              some ⟨.normal, o33.t, o33.H, o33.n⟩)
           ).bind fun (o26 : Out) =>
           some ⟨.normal, o26.t, o26.H, o26.n⟩)
        ).bind fun (o19 : Out) =>
        some ⟨.normal, o19.t, o19.H, o19.n⟩)
     ).bind fun (o12 : Out) =>
     some ⟨.normal, o12.t, o12.H, o12.n⟩)
  ).bind fun (o6 : Out) =>
  (ld true 5 (o6.t 3) o6.H).bind fun v39 =>
  (st true 5 (o6.t 4) v39 o6.H).bind fun H40 =>
  (ld true 5 (o6.t 4) H40).bind fun v41 =>
  some (v41, H40, o6.n + 2)
theorem s76 (C : Calling) (L : Body → Body) (t : Tm) (H : Hp) (n : Nat) : bodyK Try.prog C L Try.f76 t H n = S76 C L t H n := by kernel_rfl
theorem c76 (args : List Value) (H : Hp) (n : Nat) : Call Try.prog 76 args H n = S76 (Call Try.prog) Loop (argsT args) H n := (Call_body Try.func76 args H n).trans (s76 ..)
/-! 77: spec.l1Byte -/
noncomputable def S77 (C : Calling) (L : Body → Body) (t : Tm) (H : Hp) (n : Nat) : Option (Value × Hp × Nat) :=
  (nilchk (t 0)).bind fun v1 =>
  (fieldA 2 v1).bind fun v2 =>
  (ld false 1 v2 H).bind fun v3 =>
  (binK .plain .mul v3 (.int .i64 6364136223846793005)).bind fun v4 =>
  (binK .plain .add v4 (.int .i64 1442695040888963407)).bind fun v5 =>
  (nilchk (t 0)).bind fun v6 =>
  (fieldA 2 v6).bind fun v7 =>
  (st false 1 v7 v5 H).bind fun H8 =>
  (nilchk (t 0)).bind fun v9 =>
  (fieldA 2 v9).bind fun v10 =>
  (ld false 1 v10 H8).bind fun v11 =>
  (binK .plain .shr v11 (.int .u64 33)).bind fun v12 =>
  (nilchk (t 0)).bind fun v13 =>
  (fieldA 2 v13).bind fun v14 =>
  (ld false 1 v14 H8).bind fun v15 =>
  (binK .plain .shr v15 (.int .u64 45)).bind fun v16 =>
  (binK .plain .xor v12 v16).bind fun v17 =>
  (binK .plain .and v17 (.int .i64 255)).bind fun v18 =>
  (nilchk (t 0)).bind fun v19 =>
  (fieldA 1 v19).bind fun v20 =>
  (ld false 1 v20 H8).bind fun v21 =>
  (nilchk (t 0)).bind fun v22 =>
  (fieldA 0 v22).bind fun v23 =>
  (ld false 1 v23 H8).bind fun v24 =>
  (lenV false v24).bind fun v25 =>
  (binK .plain .lss v21 v25).bind fun v26 =>
  let t28 : Tm := put (put (put (put (put (put (put (put (put (put (put (put (put (put (put (put (put (put (put (put (put (put (put (put (put (put (put (put (put (put (put (put (put t 2 (.int .i64 0)) 4 (t 0)) 5 (t 0)) 6 v1) 7 v2) 8 v3) 9 v4) 10 v5) 11 v6) 12 v7) 13 (t 0)) 14 v9) 15 v10) 16 v11) 17 v12) 18 (t 0)) 19 v13) 20 v14) 21 v15) 22 v16) 23 v17) 24 v18) 3 v18) 25 (t 0)) 26 v19) 27 v20) 28 v21) 29 (t 0)) 30 v22) 31 v23) 32 v24) 33 v25) 34 v26
  (csel v26
    ((nilchk (t28 0)).bind fun v29 =>
     (fieldA 0 v29).bind fun v30 =>
     (ld false 1 v30 H8).bind fun v31 =>
     (nilchk (t28 0)).bind fun v32 =>
     (fieldA 1 v32).bind fun v33 =>
     (ld false 1 v33 H8).bind fun v34 =>
     (idxA 1 v31 v34).bind fun v35 =>
     (ld false 1 v35 H8).bind fun v36 =>
     (conv (.toInt .i64) (n + 45) v36 H8).bind fun p37 =>
     (binK .plain .add v18 p37.1).bind fun v38 =>
     (binK .plain .and v38 (.int .i64 255)).bind fun v39 =>
     (nilchk (t28 0)).bind fun v40 =>
     (fieldA 1 v40).bind fun v41 =>
     (ld false 1 v41 p37.2).bind fun v42 =>
     (binK .plain .add v42 (.int .i64 1)).bind fun v43 =>
     (nilchk (t28 0)).bind fun v44 =>
     (fieldA 1 v44).bind fun v45 =>
     (st false 1 v45 v43 p37.2).bind fun H46 =>
     some ⟨.normal, put (put (put (put (put (put (put (put (put (put (put (put (put (put (put (put (put (put (put (put (put (put (put t28 35 v18) 36 (t28 0)) 37 v29) 38 v30) 39 v31) 40 (t28 0)) 41 v32) 42 v33) 43 v34) 44 v35) 45 v36) 46 p37.1) 47 v38) 48 v39) 3 v39) 49 (t28 0)) 50 (t28 0)) 51 v40) 52 v41) 53 v42) 54 v43) 55 v44) 56 v45, H46, n + 58⟩)
    (some ⟨.normal, t28, H8, n + 34⟩)
  ).bind fun (o27 : Out) =>
  some (o27.t 3, o27.H, o27.n + 2)
theorem s77 (C : Calling) (L : Body → Body) (t : Tm) (H : Hp) (n : Nat) : bodyK Try.prog C L Try.f77 t H n = S77 C L t H n := by kernel_rfl
theorem c77 (args : List Value) (H : Hp) (n : Nat) : Call Try.prog 77 args H n = S77 (Call Try.prog) Loop (argsT args) H n := (Call_body Try.func77 args H n).trans (s77 ..)
/-! 78: spec.l1PickInt -/
noncomputable def S78 (C : Calling) (L : Body → Body) (t : Tm) (H : Hp) (n : Nat) : Option (Value × Hp × Nat) :=
  (lenV false (t 1)).bind fun v1 =>
  (C 41 [t 0, v1] H (n + 9)).bind fun q2 =>
  (idxA 1 (t 1) q2.1).bind fun v3 =>
  (ld false 1 v3 q2.2.1).bind fun v4 =>
  some (v4, q2.2.1, q2.2.2)
theorem s78 (C : Calling) (L : Body → Body) (t : Tm) (H : Hp) (n : Nat) : bodyK Try.prog C L Try.f78 t H n = S78 C L t H n := by kernel_rfl
theorem c78 (args : List Value) (H : Hp) (n : Nat) : Call Try.prog 78 args H n = S78 (Call Try.prog) Loop (argsT args) H n := (Call_body Try.func78 args H n).trans (s78 ..)
/-! 79: spec.l1Min -/
noncomputable def S79 (C : Calling) (L : Body → Body) (t : Tm) (H : Hp) (n : Nat) : Option (Value × Hp × Nat) :=
  (binK .plain .lss (t 0) (t 1)).bind fun v1 =>
  csel v1
    (some (t 0, H, n + 6))
    (some (t 1, H, n + 6))
theorem s79 (C : Calling) (L : Body → Body) (t : Tm) (H : Hp) (n : Nat) : bodyK Try.prog C L Try.f79 t H n = S79 C L t H n := by kernel_rfl
theorem c79 (args : List Value) (H : Hp) (n : Nat) : Call Try.prog 79 args H n = S79 (Call Try.prog) Loop (argsT args) H n := (Call_body Try.func79 args H n).trans (s79 ..)
/-! 80: impl.Node] -/
noncomputable def S80 (C : Calling) (L : Body → Body) (t : Tm) (H : Hp) (n : Nat) : Option (Value × Hp × Nat) :=
  (binK .slice .eql (t 0) nilS).bind fun v1 =>
  csel v1
    (some (nilS, H, n + 4))
    ((bsl (n + 3) 5 0 [.int .i64 0, .int .i64 0, .string ⟨#[]⟩, .int .i64 0, .int .i64 0] [] H).bind fun p2 =>
     (app (n + 5) 5 48 p2.1 (t 0) p2.2).bind fun p3 =>
     some (p3.1, p3.2, n + 7))
theorem s80 (C : Calling) (L : Body → Body) (t : Tm) (H : Hp) (n : Nat) : bodyK Try.prog C L Try.f80 t H n = S80 C L t H n := by kernel_rfl
theorem c80 (args : List Value) (H : Hp) (n : Nat) : Call Try.prog 80 args H n = S80 (Call Try.prog) Loop (argsT args) H n := (Call_body Try.func80 args H n).trans (s80 ..)
/-! 81: slices.IndexFunc[[]int,int] -/
noncomputable def S81L0 (C : Calling) (L : Body → Body) : Body := fun t H n =>
  (binK .plain .lss (t 8) (t 7)).bind fun v3 =>
  csel v3
    ((idxA 1 (t 0) (t 8)).bind fun v4 =>
     (ld false 1 v4 H).bind fun v5 =>
     (calleeP (t 1) [v5]).bind fun c7 =>
     (C c7.1 c7.2 H (n + 9)).bind fun q6 =>
     csel q6.1
       (some ⟨.ret, put (put (put (put (put (put (put (put (put (put (put t 9 v3) 10 (t 8)) 5 (t 8)) 11 (t 1)) 12 (t 0)) 13 (t 8)) 14 v4) 15 v5) 16 q6.1) 17 (t 8)) 4 (t 8), q6.2.1, q6.2.2 + 2⟩)
       ((binK .plain .add (t 8) (.int .i64 1)).bind fun v8 =>
        some ⟨.normal, put (put (put (put (put (put (put (put (put (put (put t 9 v3) 10 (t 8)) 5 (t 8)) 11 (t 1)) 12 (t 0)) 13 (t 8)) 14 v4) 15 v5) 16 q6.1) 18 v8) 8 v8, q6.2.1, q6.2.2 + 2⟩))
    (some ⟨(.exit 0), put t 9 v3, H, n + 1⟩)
noncomputable def S81 (C : Calling) (L : Body → Body) (t : Tm) (H : Hp) (n : Nat) : Option (Value × Hp × Nat) :=
  (lenV false (t 0)).bind fun v1 =>
  (L (S81L0 C L) (put (put (put (put t 4 (.int .i64 0)) 6 (t 0)) 7 v1) 8 (.int .i64 0)) H (n + 4)).bind fun (o2 : Out) =>
  let o9 := outOf 0 o2
  thenK o9
    (some (.int .i64 (-1), o9.H, o9.n + 1))
    (finE o9.e
       (some (o9.t 4, o9.H, o9.n)))
theorem s81 (C : Calling) (L : Body → Body) (t : Tm) (H : Hp) (n : Nat) : bodyK Try.prog C L Try.f81 t H n = S81 C L t H n := by kernel_rfl
theorem c81 (args : List Value) (H : Hp) (n : Nat) : Call Try.prog 81 args H n = S81 (Call Try.prog) Loop (argsT args) H n := (Call_body Try.func81 args H n).trans (s81 ..)
/-! 82: impl.within -/
noncomputable def S82 (C : Calling) (L : Body → Body) (t : Tm) (H : Hp) (n : Nat) : Option (Value × Hp × Nat) :=
  (binK .plain .geq (t 0) (t 1)).bind fun v1 =>
  let t3 : Tm := put (put (put (put (put t 6 (.bool false)) 7 (t 0)) 8 (t 1)) 9 v1) 10 v1
  (gsel v1 true
    ((binK .plain .leq (t3 0) (t3 2)).bind fun v4 =>
     some (put (put (put t3 11 (t3 0)) 12 (t3 2)) 13 v4, H, n + 10))
    (some (put (put (put t3 11 (.tuple #[])) 12 (.tuple #[])) 13 (.tuple #[]), H, n + 10))
  ).bind fun (q2 : R3) =>
  (pickV (q2.1 10) (q2.1 13) (.bool false)).bind fun v5 =>
  some (v5, q2.2.1, q2.2.2)
theorem s82 (C : Calling) (L : Body → Body) (t : Tm) (H : Hp) (n : Nat) : bodyK Try.prog C L Try.f82 t H n = S82 C L t H n := by kernel_rfl
theorem c82 (args : List Value) (H : Hp) (n : Nat) : Call Try.prog 82 args H n = S82 (Call Try.prog) Loop (argsT args) H n := (Call_body Try.func82 args H n).trans (s82 ..)
/-! 83: impl.Pool).add -/
noncomputable def S83 (C : Calling) (L : Body → Body) (t : Tm) (H : Hp) (n : Nat) : Option (Value × Hp × Nat) :=
  (vcells (t 1)).bind fun c2 =>
  let H1 := H.set (n) (some (.row c2 0 true))
  (nilchk (t 0)).bind fun v3 =>
  (fieldA 0 v3).bind fun v4 =>
  (ld false 1 v4 H1).bind fun v5 =>
  (ld true 5 (ptr (n) 0) H1).bind fun v6 =>
  (bsl (n + 8) 5 1 [.int .i64 0, .int .i64 0, .string ⟨#[]⟩, .int .i64 0, .int .i64 0] [(0, 5, v6)] H1).bind fun p7 =>
  (app (n + 9) 5 48 v5 p7.1 p7.2).bind fun p8 =>
  (nilchk (t 0)).bind fun v9 =>
  (fieldA 0 v9).bind fun v10 =>
  (st false 1 v10 p8.1 p8.2).bind fun H11 =>
  (nilchk (t 0)).bind fun v12 =>
  (fieldA 0 v12).bind fun v13 =>
  (ld false 1 v13 H11).bind fun v14 =>
  (lenV false v14).bind fun v15 =>
  (binK .plain .sub v15 (.int .i64 1)).bind fun v16 =>
  some (v16, H11, n + 20)
theorem s83 (C : Calling) (L : Body → Body) (t : Tm) (H : Hp) (n : Nat) : bodyK Try.prog C L Try.f83 t H n = S83 C L t H n := by kernel_rfl
theorem c83 (args : List Value) (H : Hp) (n : Nat) : Call Try.prog 83 args H n = S83 (Call Try.prog) Loop (argsT args) H n := (Call_body Try.func83 args H n).trans (s83 ..)
/-! 84: impl.Pool).pair -/
noncomputable def S84 (C : Calling) (L : Body → Body) (t : Tm) (H : Hp) (n : Nat) : Option (Value × Hp × Nat) :=
  (bld [.int .i64 0, .int .i64 0, .string ⟨#[]⟩, .int .i64 0, .int .i64 0] [(0, 1, .int .i64 5), (3, 1, t 1), (4, 1, t 2)]).bind fun v1 =>
  (C 83 [t 0, v1] H (n + 7)).bind fun q2 =>
  some (q2.1, q2.2.1, q2.2.2)
theorem s84 (C : Calling) (L : Body → Body) (t : Tm) (H : Hp) (n : Nat) : bodyK Try.prog C L Try.f84 t H n = S84 C L t H n := by kernel_rfl
theorem c84 (args : List Value) (H : Hp) (n : Nat) : Call Try.prog 84 args H n = S84 (Call Try.prog) Loop (argsT args) H n := (Call_body Try.func84 args H n).trans (s84 ..)
/-! 85: spec.l2Node -/
noncomputable def S85 (C : Calling) (L : Body → Body) (t : Tm) (H : Hp) (n : Nat) : Option (Value × Hp × Nat) :=
  (vcells (t 0)).bind fun c2 =>
  let H1 := H.set (n) (some (.row c2 0 true))
  (fieldA 3 (ptr (n) 0)).bind fun v3 =>
  (ld false 1 v3 H1).bind fun v4 =>
  (binK .plain .sub (t 1) (.int .i64 1)).bind fun v5 =>
  (C 86 [v4, .int .i64 0, v5] H1 (n + 8)).bind fun q6 =>
  (fieldA 4 (ptr (n) 0)).bind fun v7 =>
  (ld false 1 v7 q6.2.1).bind fun v8 =>
  (binK .plain .sub (t 1) (.int .i64 1)).bind fun v9 =>
  (C 86 [v8, .int .i64 0, v9] q6.2.1 (q6.2.2 + 6)).bind fun q10 =>
  (fieldA 0 (ptr (n) 0)).bind fun v11 =>
  (ld false 1 v11 q10.2.1).bind fun v12 =>
  (binK .plain .eql v12 (.int .i64 1)).bind fun v13 =>
  csel v13
    ((ld true 5 (ptr (n) 0) q10.2.1).bind fun v14 =>
     (bld [.int .i64 0, .int .i64 0, .string ⟨#[]⟩, .int .i64 0, .int .i64 0] [(0, 1, .int .i64 1)]).bind fun v15 =>
     (binK (.agg [(0, (.int .i64)), (1, (.int .i64)), (2, .string), (3, (.int .i64)), (4, (.int .i64))]) .eql v14 v15).bind fun v16 =>
     some (v16, q10.2.1, q10.2.2 + 8))
    ((binK .plain .eql v12 (.int .i64 2)).bind fun v17 =>
     csel v17
       ((fieldA 1 (ptr (n) 0)).bind fun v18 =>
        (ld false 1 v18 q10.2.1).bind fun v19 =>
        (C 86 [v19, .int .i64 0, .int .i64 1] q10.2.1 (q10.2.2 + 17)).bind fun q20 =>
        let t22 : Tm := put (put (put (put (put (put (put (put (put (put (put (put (put (put (put (put (put (put (put (put (put (put (put (put t 2 (ptr (n) 0)) 4 (.bool false)) 7 v3) 8 v4) 9 (t 1)) 10 v5) 11 q6.1) 5 q6.1) 12 v7) 13 v8) 14 (t 1)) 15 v9) 16 q10.1) 6 q10.1) 17 v11) 18 v12) 20 v13) 19 v13) 25 v17) 24 v17) 26 v18) 27 v19) 28 q20.1) 29 q20.1
        (gsel q20.1 true
          ((ld true 5 (ptr (n) 0) q20.2.1).bind fun v23 =>
           (fieldA 1 (ptr (n) 0)).bind fun v24 =>
           (ld false 1 v24 q20.2.1).bind fun v25 =>
           (bld [.int .i64 0, .int .i64 0, .string ⟨#[]⟩, .int .i64 0, .int .i64 0] [(0, 1, .int .i64 2), (1, 1, v25)]).bind fun v26 =>
           (binK (.agg [(0, (.int .i64)), (1, (.int .i64)), (2, .string), (3, (.int .i64)), (4, (.int .i64))]) .eql v23 v26).bind fun v27 =>
           some (put (put (put (put (put t22 30 v23) 31 v24) 32 v25) 33 v26) 34 v27, q20.2.1, q20.2.2))
          (some (put (put (put (put (put t22 30 (.tuple #[])) 31 (.tuple #[])) 32 (.tuple #[])) 33 (.tuple #[])) 34 (.tuple #[]), q20.2.1, q20.2.2))
        ).bind fun (q21 : R3) =>
        (pickV (q21.1 29) (q21.1 34) (.bool false)).bind fun v28 =>
        some (v28, q21.2.1, q21.2.2))
       ((binK .plain .eql v12 (.int .i64 3)).bind fun v29 =>
        csel v29
          ((fieldA 1 (ptr (n) 0)).bind fun v30 =>
           (ld false 1 v30 q10.2.1).bind fun v31 =>
           (C 86 [v31, .int .i64 (-1000000000), .int .i64 1000000000] q10.2.1 (q10.2.2 + 19)).bind fun q32 =>
           let t34 : Tm := put (put (put (put (put (put (put (put (put (put (put (put (put (put (put (put (put (put (put (put (put (put (put (put (put (put t 2 (ptr (n) 0)) 4 (.bool false)) 7 v3) 8 v4) 9 (t 1)) 10 v5) 11 q6.1) 5 q6.1) 12 v7) 13 v8) 14 (t 1)) 15 v9) 16 q10.1) 6 q10.1) 17 v11) 18 v12) 20 v13) 19 v13) 25 v17) 24 v17) 37 v29) 36 v29) 38 v30) 39 v31) 40 q32.1) 41 q32.1
           (gsel q32.1 true
             ((ld true 5 (ptr (n) 0) q32.2.1).bind fun v35 =>
              (fieldA 1 (ptr (n) 0)).bind fun v36 =>
              (ld false 1 v36 q32.2.1).bind fun v37 =>
              (bld [.int .i64 0, .int .i64 0, .string ⟨#[]⟩, .int .i64 0, .int .i64 0] [(0, 1, .int .i64 3), (1, 1, v37)]).bind fun v38 =>
              (binK (.agg [(0, (.int .i64)), (1, (.int .i64)), (2, .string), (3, (.int .i64)), (4, (.int .i64))]) .eql v35 v38).bind fun v39 =>
              some (put (put (put (put (put t34 42 v35) 43 v36) 44 v37) 45 v38) 46 v39, q32.2.1, q32.2.2))
             (some (put (put (put (put (put t34 42 (.tuple #[])) 43 (.tuple #[])) 44 (.tuple #[])) 45 (.tuple #[])) 46 (.tuple #[]), q32.2.1, q32.2.2))
           ).bind fun (q33 : R3) =>
           (pickV (q33.1 41) (q33.1 46) (.bool false)).bind fun v40 =>
           some (v40, q33.2.1, q33.2.2))
          ((binK .plain .eql v12 (.int .i64 4)).bind fun v41 =>
           csel v41
             ((fieldA 2 (ptr (n) 0)).bind fun v42 =>
              (ld false 1 v42 q10.2.1).bind fun v43 =>
              (C 105 [v43] q10.2.1 (q10.2.2 + 21)).bind fun q44 =>
              let t46 : Tm := put (put (put (put (put (put (put (put (put (put (put (put (put (put (put (put (put (put (put (put (put (put (put (put (put (put (put (put t 2 (ptr (n) 0)) 4 (.bool false)) 7 v3) 8 v4) 9 (t 1)) 10 v5) 11 q6.1) 5 q6.1) 12 v7) 13 v8) 14 (t 1)) 15 v9) 16 q10.1) 6 q10.1) 17 v11) 18 v12) 20 v13) 19 v13) 25 v17) 24 v17) 37 v29) 36 v29) 49 v41) 48 v41) 50 v42) 51 v43) 52 q44.1) 53 q44.1
              (gsel q44.1 true
                ((ld true 5 (ptr (n) 0) q44.2.1).bind fun v47 =>
                 (fieldA 2 (ptr (n) 0)).bind fun v48 =>
                 (ld false 1 v48 q44.2.1).bind fun v49 =>
                 (bld [.int .i64 0, .int .i64 0, .string ⟨#[]⟩, .int .i64 0, .int .i64 0] [(0, 1, .int .i64 4), (2, 1, v49)]).bind fun v50 =>
                 (binK (.agg [(0, (.int .i64)), (1, (.int .i64)), (2, .string), (3, (.int .i64)), (4, (.int .i64))]) .eql v47 v50).bind fun v51 =>
                 some (put (put (put (put (put t46 54 v47) 55 v48) 56 v49) 57 v50) 58 v51, q44.2.1, q44.2.2))
                (some (put (put (put (put (put t46 54 (.tuple #[])) 55 (.tuple #[])) 56 (.tuple #[])) 57 (.tuple #[])) 58 (.tuple #[]), q44.2.1, q44.2.2))
              ).bind fun (q45 : R3) =>
              (pickV (q45.1 53) (q45.1 58) (.bool false)).bind fun v52 =>
              some (v52, q45.2.1, q45.2.2))
             ((binK .plain .eql v12 (.int .i64 5)).bind fun v53 =>
              csel v53
                ((pickV q6.1 (gsel q6.1 true q10.1 (.tuple #[])) (.bool false)).bind fun v54 =>
                 let t56 : Tm := put (put (put (put (put (put (put (put (put (put (put (put (put (put (put (put (put (put (put (put (put (put (put (put (put (put (put (put (put (put (put t 2 (ptr (n) 0)) 4 (.bool false)) 7 v3) 8 v4) 9 (t 1)) 10 v5) 11 q6.1) 5 q6.1) 12 v7) 13 v8) 14 (t 1)) 15 v9) 16 q10.1) 6 q10.1) 17 v11) 18 v12) 20 v13) 19 v13) 25 v17) 24 v17) 37 v29) 36 v29) 49 v41) 48 v41) 61 v53) 60 v53) 62 q6.1) 63 q6.1) 64 (gsel q6.1 true q10.1 (.tuple #[]))) 65 v54) 66 v54
                 (gsel v54 true
                   ((fieldA 1 (ptr (n) 0)).bind fun v57 =>
                    (ld false 1 v57 q10.2.1).bind fun v58 =>
                    (binK .plain .eql v58 (.int .i64 0)).bind fun v59 =>
                    some (put (put (put t56 67 v57) 68 v58) 69 v59, q10.2.1, q10.2.2 + 27))
                   (some (put (put (put t56 67 (.tuple #[])) 68 (.tuple #[])) 69 (.tuple #[]), q10.2.1, q10.2.2 + 27))
                 ).bind fun (q55 : R3) =>
                 (pickV (q55.1 66) (q55.1 69) (.bool false)).bind fun v60 =>
                 let t62 : Tm := put (put q55.1 70 v60) 71 v60
                 (gsel v60 true
                   ((fieldA 2 (t62 2)).bind fun v63 =>
                    (ld false 1 v63 q55.2.1).bind fun v64 =>
                    (binK .plain .eql v64 (.string ⟨#[]⟩)).bind fun v65 =>
                    some (put (put (put t62 72 v63) 73 v64) 74 v65, q55.2.1, q55.2.2))
                   (some (put (put (put t62 72 (.tuple #[])) 73 (.tuple #[])) 74 (.tuple #[]), q55.2.1, q55.2.2))
                 ).bind fun (q61 : R3) =>
                 (pickV (q61.1 71) (q61.1 74) (.bool false)).bind fun v66 =>
                 some (v66, q61.2.1, q61.2.2))
                ((binK .plain .eql v12 (.int .i64 6)).bind fun v67 =>
                 csel v67
                   (let t69 : Tm := put (put (put (put (put (put (put (put (put (put (put (put (put (put (put (put (put (put (put (put (put (put (put (put (put (put (put (put (put (put t 2 (ptr (n) 0)) 4 (.bool false)) 7 v3) 8 v4) 9 (t 1)) 10 v5) 11 q6.1) 5 q6.1) 12 v7) 13 v8) 14 (t 1)) 15 v9) 16 q10.1) 6 q10.1) 17 v11) 18 v12) 20 v13) 19 v13) 25 v17) 24 v17) 37 v29) 36 v29) 49 v41) 48 v41) 61 v53) 60 v53) 77 v67) 76 v67) 78 q6.1) 79 q6.1
                    (gsel q6.1 true
                      ((fieldA 1 (ptr (n) 0)).bind fun v70 =>
                       (ld false 1 v70 q10.2.1).bind fun v71 =>
                       (C 86 [v71, .int .i64 0, .int .i64 1000000000] q10.2.1 (q10.2.2 + 31)).bind fun q72 =>
                       some (put (put (put t69 80 v70) 81 v71) 82 q72.1, q72.2.1, q72.2.2))
                      (some (put (put (put t69 80 (.tuple #[])) 81 (.tuple #[])) 82 (.tuple #[]), q10.2.1, q10.2.2 + 31))
                    ).bind fun (q68 : R3) =>
                    (pickV (q68.1 79) (q68.1 82) (.bool false)).bind fun v73 =>
                    let t75 : Tm := put (put q68.1 83 v73) 84 v73
                    (gsel v73 true
                      ((fieldA 4 (t75 2)).bind fun v76 =>
                       (ld false 1 v76 q68.2.1).bind fun v77 =>
                       (binK .plain .eql v77 (.int .i64 0)).bind fun v78 =>
                       some (put (put (put t75 85 v76) 86 v77) 87 v78, q68.2.1, q68.2.2))
                      (some (put (put (put t75 85 (.tuple #[])) 86 (.tuple #[])) 87 (.tuple #[]), q68.2.1, q68.2.2))
                    ).bind fun (q74 : R3) =>
                    (pickV (q74.1 84) (q74.1 87) (.bool false)).bind fun v79 =>
                    let t81 : Tm := put (put q74.1 88 v79) 89 v79
                    (gsel v79 true
                      ((fieldA 2 (t81 2)).bind fun v82 =>
                       (ld false 1 v82 q74.2.1).bind fun v83 =>
                       (binK .plain .eql v83 (.string ⟨#[]⟩)).bind fun v84 =>
                       some (put (put (put t81 90 v82) 91 v83) 92 v84, q74.2.1, q74.2.2))
                      (some (put (put (put t81 90 (.tuple #[])) 91 (.tuple #[])) 92 (.tuple #[]), q74.2.1, q74.2.2))
                    ).bind fun (q80 : R3) =>
                    (pickV (q80.1 89) (q80.1 92) (.bool false)).bind fun v85 =>
                    some (v85, q80.2.1, q80.2.2))
                   ((binK .plain .eql v12 (.int .i64 7)).bind fun v86 =>
                    csel v86
                      (let t88 : Tm := put (put (put (put (put (put (put (put (put (put (put (put (put (put (put (put (put (put (put (put (put (put (put (put (put (put (put (put (put (put (put (put t 2 (ptr (n) 0)) 4 (.bool false)) 7 v3) 8 v4) 9 (t 1)) 10 v5) 11 q6.1) 5 q6.1) 12 v7) 13 v8) 14 (t 1)) 15 v9) 16 q10.1) 6 q10.1) 17 v11) 18 v12) 20 v13) 19 v13) 25 v17) 24 v17) 37 v29) 36 v29) 49 v41) 48 v41) 61 v53) 60 v53) 77 v67) 76 v67) 95 v86) 94 v86) 96 q6.1) 97 q6.1
                       (gsel q6.1 true
                         ((fieldA 1 (ptr (n) 0)).bind fun v89 =>
                          (ld false 1 v89 q10.2.1).bind fun v90 =>
                          (binK .plain .eql v90 (.int .i64 0)).bind fun v91 =>
                          some (put (put (put t88 98 v89) 99 v90) 100 v91, q10.2.1, q10.2.2 + 33))
                         (some (put (put (put t88 98 (.tuple #[])) 99 (.tuple #[])) 100 (.tuple #[]), q10.2.1, q10.2.2 + 33))
                       ).bind fun (q87 : R3) =>
                       (pickV (q87.1 97) (q87.1 100) (.bool false)).bind fun v92 =>
                       let t94 : Tm := put (put q87.1 101 v92) 102 v92
                       (gsel v92 true
                         ((fieldA 4 (t94 2)).bind fun v95 =>
                          (ld false 1 v95 q87.2.1).bind fun v96 =>
                          (binK .plain .eql v96 (.int .i64 0)).bind fun v97 =>
                          some (put (put (put t94 103 v95) 104 v96) 105 v97, q87.2.1, q87.2.2))
                         (some (put (put (put t94 103 (.tuple #[])) 104 (.tuple #[])) 105 (.tuple #[]), q87.2.1, q87.2.2))
                       ).bind fun (q93 : R3) =>
                       (pickV (q93.1 102) (q93.1 105) (.bool false)).bind fun v98 =>
                       let t100 : Tm := put (put q93.1 106 v98) 107 v98
                       (gsel v98 true
                         ((fieldA 2 (t100 2)).bind fun v101 =>
                          (ld false 1 v101 q93.2.1).bind fun v102 =>
                          (binK .plain .eql v102 (.string ⟨#[]⟩)).bind fun v103 =>
                          some (put (put (put t100 108 v101) 109 v102) 110 v103, q93.2.1, q93.2.2))
                         (some (put (put (put t100 108 (.tuple #[])) 109 (.tuple #[])) 110 (.tuple #[]), q93.2.1, q93.2.2))
                       ).bind fun (q99 : R3) =>
                       (pickV (q99.1 107) (q99.1 110) (.bool false)).bind fun v104 =>
                       some (v104, q99.2.1, q99.2.2))
                      ((binK .plain .eql v12 (.int .i64 8)).bind fun v105 =>
                       csel v105
                         ((fieldA 1 (ptr (n) 0)).bind fun v106 =>
                          (ld false 1 v106 q10.2.1).bind fun v107 =>
                          (C 86 [v107, .int .i64 0, .int .i64 99] q10.2.1 (q10.2.2 + 29)).bind fun q108 =>
                          let t110 : Tm := put (put (put (put (put (put (put (put (put (put (put (put (put (put (put (put (put (put (put (put (put (put (put (put (put (put (put (put (put (put (put (put (put (put (put (put t 2 (ptr (n) 0)) 4 (.bool false)) 7 v3) 8 v4) 9 (t 1)) 10 v5) 11 q6.1) 5 q6.1) 12 v7) 13 v8) 14 (t 1)) 15 v9) 16 q10.1) 6 q10.1) 17 v11) 18 v12) 20 v13) 19 v13) 25 v17) 24 v17) 37 v29) 36 v29) 49 v41) 48 v41) 61 v53) 60 v53) 77 v67) 76 v67) 95 v86) 94 v86) 113 v105) 112 v105) 114 v106) 115 v107) 116 q108.1) 117 q108.1
                          (gsel q108.1 true
                            ((ld true 5 (ptr (n) 0) q108.2.1).bind fun v111 =>
                             (fieldA 1 (ptr (n) 0)).bind fun v112 =>
                             (ld false 1 v112 q108.2.1).bind fun v113 =>
                             (bld [.int .i64 0, .int .i64 0, .string ⟨#[]⟩, .int .i64 0, .int .i64 0] [(0, 1, .int .i64 8), (1, 1, v113)]).bind fun v114 =>
                             (binK (.agg [(0, (.int .i64)), (1, (.int .i64)), (2, .string), (3, (.int .i64)), (4, (.int .i64))]) .eql v111 v114).bind fun v115 =>
                             some (put (put (put (put (put t110 118 v111) 119 v112) 120 v113) 121 v114) 122 v115, q108.2.1, q108.2.2))
                            (some (put (put (put (put (put t110 118 (.tuple #[])) 119 (.tuple #[])) 120 (.tuple #[])) 121 (.tuple #[])) 122 (.tuple #[]), q108.2.1, q108.2.2))
                          ).bind fun (q109 : R3) =>
                          (pickV (q109.1 117) (q109.1 122) (.bool false)).bind fun v116 =>
                          some (v116, q109.2.1, q109.2.2))
                         ((binK .plain .eql v12 (.int .i64 9)).bind fun v117 =>
                          csel v117
                            ((fieldA 1 (ptr (n) 0)).bind fun v118 =>
                             (ld false 1 v118 q10.2.1).bind fun v119 =>
                             (C 86 [v119, .int .i64 0, .int .i64 1000000000] q10.2.1 (q10.2.2 + 31)).bind fun q120 =>
                             let t122 : Tm := put (put (put (put (put (put (put (put (put (put (put (put (put (put (put (put (put (put (put (put (put (put (put (put (put (put (put (put (put (put (put (put (put (put (put (put (put (put t 2 (ptr (n) 0)) 4 (.bool false)) 7 v3) 8 v4) 9 (t 1)) 10 v5) 11 q6.1) 5 q6.1) 12 v7) 13 v8) 14 (t 1)) 15 v9) 16 q10.1) 6 q10.1) 17 v11) 18 v12) 20 v13) 19 v13) 25 v17) 24 v17) 37 v29) 36 v29) 49 v41) 48 v41) 61 v53) 60 v53) 77 v67) 76 v67) 95 v86) 94 v86) 113 v105) 112 v105) 125 v117) 124 v117) 126 v118) 127 v119) 128 q120.1) 129 q120.1
                             (gsel q120.1 true
                               ((ld true 5 (ptr (n) 0) q120.2.1).bind fun v123 =>
                                (fieldA 1 (ptr (n) 0)).bind fun v124 =>
                                (ld false 1 v124 q120.2.1).bind fun v125 =>
                                (bld [.int .i64 0, .int .i64 0, .string ⟨#[]⟩, .int .i64 0, .int .i64 0] [(0, 1, .int .i64 9), (1, 1, v125)]).bind fun v126 =>
                                (binK (.agg [(0, (.int .i64)), (1, (.int .i64)), (2, .string), (3, (.int .i64)), (4, (.int .i64))]) .eql v123 v126).bind fun v127 =>
                                some (put (put (put (put (put t122 130 v123) 131 v124) 132 v125) 133 v126) 134 v127, q120.2.1, q120.2.2))
                               (some (put (put (put (put (put t122 130 (.tuple #[])) 131 (.tuple #[])) 132 (.tuple #[])) 133 (.tuple #[])) 134 (.tuple #[]), q120.2.1, q120.2.2))
                             ).bind fun (q121 : R3) =>
                             (pickV (q121.1 129) (q121.1 134) (.bool false)).bind fun v128 =>
                             some (v128, q121.2.1, q121.2.2))
                            (some (.bool false, q10.2.1, q10.2.2 + 21))))))))))
theorem s85 (C : Calling) (L : Body → Body) (t : Tm) (H : Hp) (n : Nat) : bodyK Try.prog C L Try.f85 t H n = S85 C L t H n := by kernel_rfl
theorem c85 (args : List Value) (H : Hp) (n : Nat) : Call Try.prog 85 args H n = S85 (Call Try.prog) Loop (argsT args) H n := (Call_body Try.func85 args H n).trans (s85 ..)
/-! 86: spec.l1In -/
noncomputable def S86 (C : Calling) (L : Body → Body) (t : Tm) (H : Hp) (n : Nat) : Option (Value × Hp × Nat) :=
  (binK .plain .geq (t 0) (t 1)).bind fun v1 =>
  let t3 : Tm := put (put (put (put (put t 6 (.bool false)) 7 (t 0)) 8 (t 1)) 9 v1) 10 v1
  (gsel v1 true
    ((binK .plain .leq (t3 0) (t3 2)).bind fun v4 =>
     some (put (put (put t3 11 (t3 0)) 12 (t3 2)) 13 v4, H, n + 10))
    (some (put (put (put t3 11 (.tuple #[])) 12 (.tuple #[])) 13 (.tuple #[]), H, n + 10))
  ).bind fun (q2 : R3) =>
  (pickV (q2.1 10) (q2.1 13) (.bool false)).bind fun v5 =>
  some (v5, q2.2.1, q2.2.2)
theorem s86 (C : Calling) (L : Body → Body) (t : Tm) (H : Hp) (n : Nat) : bodyK Try.prog C L Try.f86 t H n = S86 C L t H n := by kernel_rfl
theorem c86 (args : List Value) (H : Hp) (n : Nat) : Call Try.prog 86 args H n = S86 (Call Try.prog) Loop (argsT args) H n := (Call_body Try.func86 args H n).trans (s86 ..)
/-! 102: impl.NameOk -/
noncomputable def S102L0 (C : Calling) (L : Body → Body) : Body := fun t H n =>
  (binK .plain .lss (t 10) (t 9)).bind fun v6 =>
  csel v6
    ((idxS (t 0) (t 10)).bind fun v7 =>
     (C 107 [v7] H (n + 8)).bind fun q8 =>
     (un .not q8.1).bind fun v9 =>
     csel v9
       (some ⟨.ret, put (put (put (put (put (put (put (put (put t 11 v6) 12 (t 10)) 3 (t 10)) 13 (t 0)) 14 (t 10)) 15 v7) 16 q8.1) 17 v9) 2 (.bool false), q8.2.1, q8.2.2 + 1⟩)
       ((binK .plain .add (t 10) (.int .i64 1)).bind fun v10 =>
        some ⟨.normal, put (put (put (put (put (put (put (put (put (put t 11 v6) 12 (t 10)) 3 (t 10)) 13 (t 0)) 14 (t 10)) 15 v7) 16 q8.1) 17 v9) 18 v10) 10 v10, q8.2.1, q8.2.2 + 2⟩))
    (some ⟨(.exit 0), put t 11 v6, H, n + 1⟩)
noncomputable def S102 (C : Calling) (L : Body → Body) (t : Tm) (H : Hp) (n : Nat) : Option (Value × Hp × Nat) :=
  (lenV true (t 0)).bind fun v1 =>
  (C 82 [v1, .int .i64 1, .int .i64 12] H (n + 5)).bind fun q2 =>
  (un .not q2.1).bind fun v3 =>
  csel v3
    (some (.bool false, q2.2.1, q2.2.2 + 1))
    ((lenV true (t 0)).bind fun v4 =>
     (L (S102L0 C L) (put (put (put (put (put (put (put (put t 2 (.bool false)) 4 (t 0)) 5 v1) 6 q2.1) 7 v3) 8 (t 0)) 9 v4) 10 (.int .i64 0)) q2.2.1 (q2.2.2 + 3)).bind fun (o5 : Out) =>
     let o11 := outOf 0 o5
     thenK o11
       (some (.bool true, o11.H, o11.n + 1))
       (finE o11.e
          (some (o11.t 2, o11.H, o11.n))))
theorem s102 (C : Calling) (L : Body → Body) (t : Tm) (H : Hp) (n : Nat) : bodyK Try.prog C L Try.f102 t H n = S102 C L t H n := by kernel_rfl
theorem c102 (args : List Value) (H : Hp) (n : Nat) : Call Try.prog 102 args H n = S102 (Call Try.prog) Loop (argsT args) H n := (Call_body Try.func102 args H n).trans (s102 ..)
/-! 103: spec.l2DrawNode -/
noncomputable def S103 (C : Calling) (L : Body → Body) (t : Tm) (H : Hp) (n : Nat) : Option (Value × Hp × Nat) :=
  let H1 := H.set (n) (some (.row [.int .i64 0, .int .i64 0, .string ⟨#[]⟩, .int .i64 0, .int .i64 0] 0 true))
  (binK .plain .eql (t 1) (.int .i64 0)).bind fun v2 =>
  let t4 : Tm := put (put (put (put t 4 (ptr (n) 0)) 6 (t 1)) 7 v2) 8 v2
  (gsel v2 false
    ((C 54 [t4 0, .int .i64 2] H1 (n + 7)).bind fun q5 =>
     some (put (put t4 9 (t4 0)) 10 q5.1, q5.2.1, q5.2.2))
    (some (put (put t4 9 (.tuple #[])) 10 (.tuple #[]), H1, n + 7))
  ).bind fun (q3 : R3) =>
  (pickV (q3.1 8) (.bool true) (q3.1 10)).bind fun v6 =>
  csel v6
    ((C 108 [q3.1 0] q3.2.1 (q3.2.2 + 3)).bind fun q7 =>
     (st true 5 (q3.1 4) q7.1 q7.2.1).bind fun H8 =>
     (ld true 5 (q3.1 4) H8).bind fun v9 =>
     some (v9, H8, q7.2.2))
    ((binK .plain .sub (q3.1 1) (.int .i64 1)).bind fun v10 =>
     (C 79 [q3.1 1, .int .i64 5] q3.2.1 (q3.2.2 + 8)).bind fun q11 =>
     (C 41 [q3.1 0, q11.1] q11.2.1 (q11.2.2)).bind fun q12 =>
     (binK .plain .sub v10 q12.1).bind fun v13 =>
     (C 41 [q3.1 0, .int .i64 8] q12.2.1 (q12.2.2 + 2)).bind fun q14 =>
     (binK .plain .eql q14.1 (.int .i64 0)).bind fun v15 =>
     csel v15
       ((C 41 [q3.1 0, .int .i64 9] q14.2.1 (q14.2.2 + 7)).bind fun q16 =>
        (bld [.int .i64 0, .int .i64 0, .string ⟨#[]⟩, .int .i64 0, .int .i64 0] [(0, 1, .int .i64 6), (1, 1, q16.1), (3, 1, v13)]).bind fun v17 =>
        (st true 5 (q3.1 4) v17 q16.2.1).bind fun H18 =>
        (ld true 5 (q3.1 4) H18).bind fun v19 =>
        some (v19, H18, q16.2.2))
       ((binK .plain .eql q14.1 (.int .i64 1)).bind fun v20 =>
        csel v20
          ((bld [.int .i64 0, .int .i64 0, .string ⟨#[]⟩, .int .i64 0, .int .i64 0] [(0, 1, .int .i64 7), (3, 1, v13)]).bind fun v21 =>
           (st true 5 (q3.1 4) v21 q14.2.1).bind fun H22 =>
           (ld true 5 (q3.1 4) H22).bind fun v23 =>
           some (v23, H22, q14.2.2 + 7))
          ((binK .plain .sub (q3.1 1) (.int .i64 1)).bind fun v24 =>
           (C 79 [q3.1 1, .int .i64 4] q14.2.1 (q14.2.2 + 14)).bind fun q25 =>
           (C 41 [q3.1 0, q25.1] q25.2.1 (q25.2.2)).bind fun q26 =>
           (binK .plain .sub v24 q26.1).bind fun v27 =>
           (bld [.int .i64 0, .int .i64 0, .string ⟨#[]⟩, .int .i64 0, .int .i64 0] [(0, 1, .int .i64 5), (3, 1, v13), (4, 1, v27)]).bind fun v28 =>
           (st true 5 (q3.1 4) v28 q26.2.1).bind fun H29 =>
           (ld true 5 (q3.1 4) H29).bind fun v30 =>
           some (v30, H29, q26.2.2))))
theorem s103 (C : Calling) (L : Body → Body) (t : Tm) (H : Hp) (n : Nat) : bodyK Try.prog C L Try.f103 t H n = S103 C L t H n := by kernel_rfl
theorem c103 (args : List Value) (H : Hp) (n : Nat) : Call Try.prog 103 args H n = S103 (Call Try.prog) Loop (argsT args) H n := (Call_body Try.func103 args H n).trans (s103 ..)
/-! 104: spec.l1Pick -/
noncomputable def S104 (C : Calling) (L : Body → Body) (t : Tm) (H : Hp) (n : Nat) : Option (Value × Hp × Nat) :=
  (lenV false (t 1)).bind fun v1 =>
  (C 41 [t 0, v1] H (n + 9)).bind fun q2 =>
  (idxA 1 (t 1) q2.1).bind fun v3 =>
  (ld false 1 v3 q2.2.1).bind fun v4 =>
  some (v4, q2.2.1, q2.2.2)
theorem s104 (C : Calling) (L : Body → Body) (t : Tm) (H : Hp) (n : Nat) : bodyK Try.prog C L Try.f104 t H n = S104 C L t H n := by kernel_rfl
theorem c104 (args : List Value) (H : Hp) (n : Nat) : Call Try.prog 104 args H n = S104 (Call Try.prog) Loop (argsT args) H n := (Call_body Try.func104 args H n).trans (s104 ..)
/-! 105: spec.NameOk -/
noncomputable def S105L0 (C : Calling) (L : Body → Body) : Body := fun t H n =>
  (lenV true (t 0)).bind fun v2 =>
  (binK .plain .lss (t 3) v2).bind fun v3 =>
  csel v3
    ((idxS (t 0) (t 3)).bind fun v4 =>
     (C 109 [v4] H (n + 9)).bind fun q5 =>
     (un .not q5.1).bind fun v6 =>
     csel v6
       (some ⟨.ret, put (put (put (put (put (put (put (put (put (put t 4 (t 3)) 5 (t 0)) 6 v2) 7 v3) 10 (t 0)) 11 (t 3)) 12 v4) 13 q5.1) 14 v6) 2 (.bool false), q5.2.1, q5.2.2 + 1⟩)
       ((binK .plain .add (t 3) (.int .i64 1)).bind fun v7 =>
        some ⟨.normal, put (put (put (put (put (put (put (put (put (put (put (put t 4 (t 3)) 5 (t 0)) 6 v2) 7 v3) 10 (t 0)) 11 (t 3)) 12 v4) 13 q5.1) 14 v6) 8 (t 3)) 9 v7) 3 v7, q5.2.1, q5.2.2 + 3⟩))
    (some ⟨(.exit 0), put (put (put (put t 4 (t 3)) 5 (t 0)) 6 v2) 7 v3, H, n + 4⟩)
noncomputable def S105 (C : Calling) (L : Body → Body) (t : Tm) (H : Hp) (n : Nat) : Option (Value × Hp × Nat) :=
  (L (S105L0 C L) (put (put t 2 (.bool false)) 3 (.int .i64 0)) H (n + 2)).bind fun (o1 : Out) =>
  let o8 := outOf 0 o1
  thenK o8
    ((lenV true (o8.t 0)).bind fun v9 =>
     (C 86 [v9, .int .i64 1, .int .i64 12] o8.H (o8.n + 4)).bind fun q10 =>
     some (q10.1, q10.2.1, q10.2.2))
    (finE o8.e
       (some (o8.t 2, o8.H, o8.n)))
theorem s105 (C : Calling) (L : Body → Body) (t : Tm) (H : Hp) (n : Nat) : bodyK Try.prog C L Try.f105 t H n = S105 C L t H n := by kernel_rfl
theorem c105 (args : List Value) (H : Hp) (n : Nat) : Call Try.prog 105 args H n = S105 (Call Try.prog) Loop (argsT args) H n := (Call_body Try.func105 args H n).trans (s105 ..)
/-! 107: impl.isNameByte -/
noncomputable def S107 (C : Calling) (L : Body → Body) (t : Tm) (H : Hp) (n : Nat) : Option (Value × Hp × Nat) :=
  (binK .plain .geq (t 0) (.int .u8 97)).bind fun v1 =>
  let t3 : Tm := put (put (put (put t 2 (.bool false)) 3 (t 0)) 4 v1) 5 v1
  (gsel v1 true
    ((binK .plain .leq (t3 0) (.int .u8 122)).bind fun v4 =>
     some (put (put t3 6 (t3 0)) 7 v4, H, n + 14))
    (some (put (put t3 6 (.tuple #[])) 7 (.tuple #[]), H, n + 14))
  ).bind fun (q2 : R3) =>
  (pickV (q2.1 5) (q2.1 7) (.bool false)).bind fun v5 =>
  let t7 : Tm := put (put q2.1 8 v5) 9 v5
  (gsel v5 false
    ((bsl (n + 8) 1 8 [.int .u8 0] [(0, 1, .int .u8 43), (1, 1, .int .u8 45), (2, 1, .int .u8 42), (3, 1, .int .u8 60), (4, 1, .int .u8 61), (5, 1, .int .u8 63), (6, 1, .int .u8 33), (7, 1, .int .u8 47)] q2.2.1).bind fun p8 =>
     (conv .mark (n + 9) p8.1 p8.2).bind fun p9 =>
     (C 110 [p9.1, t7 0] p9.2 (q2.2.2)).bind fun q10 =>
     some (put (put (put (put t7 10 p8.1) 11 p9.1) 12 (t7 0)) 13 q10.1, q10.2.1, q10.2.2))
    (some (put (put (put (put t7 10 (.tuple #[])) 11 (.tuple #[])) 12 (.tuple #[])) 13 (.tuple #[]), q2.2.1, q2.2.2))
  ).bind fun (q6 : R3) =>
  (pickV (q6.1 9) (.bool true) (q6.1 13)).bind fun v11 =>
  some (v11, q6.2.1, q6.2.2)
theorem s107 (C : Calling) (L : Body → Body) (t : Tm) (H : Hp) (n : Nat) : bodyK Try.prog C L Try.f107 t H n = S107 C L t H n := by kernel_rfl
theorem c107 (args : List Value) (H : Hp) (n : Nat) : Call Try.prog 107 args H n = S107 (Call Try.prog) Loop (argsT args) H n := (Call_body Try.func107 args H n).trans (s107 ..)
/-! 108: spec.l2DrawAtom -/
noncomputable def S108 (C : Calling) (L : Body → Body) (t : Tm) (H : Hp) (n : Nat) : Option (Value × Hp × Nat) :=
  let H1 := H.set (n) (some (.row [.int .i64 0, .int .i64 0, .string ⟨#[]⟩, .int .i64 0, .int .i64 0] 0 true))
  (C 41 [t 0, .int .i64 8] H1 (n + 3)).bind fun q2 =>
  (binK .plain .eql q2.1 (.int .i64 0)).bind fun v3 =>
  csel v3
    ((bld [.int .i64 0, .int .i64 0, .string ⟨#[]⟩, .int .i64 0, .int .i64 0] [(0, 1, .int .i64 1)]).bind fun v4 =>
     (st true 5 (ptr (n) 0) v4 q2.2.1).bind fun H5 =>
     (ld true 5 (ptr (n) 0) H5).bind fun v6 =>
     some (v6, H5, q2.2.2 + 4))
    ((binK .plain .eql q2.1 (.int .i64 1)).bind fun v7 =>
     csel v7
       ((C 41 [t 0, .int .i64 2] q2.2.1 (q2.2.2 + 8)).bind fun q8 =>
        (bld [.int .i64 0, .int .i64 0, .string ⟨#[]⟩, .int .i64 0, .int .i64 0] [(0, 1, .int .i64 2), (1, 1, q8.1)]).bind fun v9 =>
        (st true 5 (ptr (n) 0) v9 q8.2.1).bind fun H10 =>
        (ld true 5 (ptr (n) 0) H10).bind fun v11 =>
        some (v11, H10, q8.2.2))
       ((binK .plain .eql q2.1 (.int .i64 2)).bind fun v12 =>
        csel v12
          ((bsl (q2.2.2 + 7) 1 6 [.string ⟨#[]⟩] [(0, 1, .string ⟨#[97]⟩), (1, 1, .string ⟨#[98, 99]⟩), (2, 1, .string ⟨#[120]⟩), (3, 1, .string ⟨#[102]⟩), (4, 1, .string ⟨#[43]⟩), (5, 1, .string ⟨#[108, 105, 115, 116]⟩)] q2.2.1).bind fun p13 =>
           (C 104 [t 0, p13.1] p13.2 (q2.2.2 + 11)).bind fun q14 =>
           (bld [.int .i64 0, .int .i64 0, .string ⟨#[]⟩, .int .i64 0, .int .i64 0] [(0, 1, .int .i64 4), (2, 1, q14.1)]).bind fun v15 =>
           (st true 5 (ptr (n) 0) v15 q14.2.1).bind fun H16 =>
           (ld true 5 (ptr (n) 0) H16).bind fun v17 =>
           some (v17, H16, q14.2.2))
          ((binK .plain .eql q2.1 (.int .i64 3)).bind fun v18 =>
           csel v18
             ((C 41 [t 0, .int .i64 5] q2.2.1 (q2.2.2 + 12)).bind fun q19 =>
              (bld [.int .i64 0, .int .i64 0, .string ⟨#[]⟩, .int .i64 0, .int .i64 0] [(0, 1, .int .i64 9), (1, 1, q19.1)]).bind fun v20 =>
              (st true 5 (ptr (n) 0) v20 q19.2.1).bind fun H21 =>
              (ld true 5 (ptr (n) 0) H21).bind fun v22 =>
              some (v22, H21, q19.2.2))
             ((binK .plain .eql q2.1 (.int .i64 4)).bind fun v23 =>
              csel v23
                ((C 41 [t 0, .int .i64 5] q2.2.1 (q2.2.2 + 14)).bind fun q24 =>
                 (bld [.int .i64 0, .int .i64 0, .string ⟨#[]⟩, .int .i64 0, .int .i64 0] [(0, 1, .int .i64 8), (1, 1, q24.1)]).bind fun v25 =>
                 (st true 5 (ptr (n) 0) v25 q24.2.1).bind fun H26 =>
                 (ld true 5 (ptr (n) 0) H26).bind fun v27 =>
                 some (v27, H26, q24.2.2))
                ((C 41 [t 0, .int .i64 12] q2.2.1 (q2.2.2 + 15)).bind fun q28 =>
                 (binK .plain .sub q28.1 (.int .i64 3)).bind fun v29 =>
                 (bld [.int .i64 0, .int .i64 0, .string ⟨#[]⟩, .int .i64 0, .int .i64 0] [(0, 1, .int .i64 3), (1, 1, v29)]).bind fun v30 =>
                 (st true 5 (ptr (n) 0) v30 q28.2.1).bind fun H31 =>
                 (ld true 5 (ptr (n) 0) H31).bind fun v32 =>
                 some (v32, H31, q28.2.2))))))
theorem s108 (C : Calling) (L : Body → Body) (t : Tm) (H : Hp) (n : Nat) : bodyK Try.prog C L Try.f108 t H n = S108 C L t H n := by kernel_rfl
theorem c108 (args : List Value) (H : Hp) (n : Nat) : Call Try.prog 108 args H n = S108 (Call Try.prog) Loop (argsT args) H n := (Call_body Try.func108 args H n).trans (s108 ..)
/-! 109: spec.l2NameByte -/
noncomputable def S109 (C : Calling) (L : Body → Body) (t : Tm) (H : Hp) (n : Nat) : Option (Value × Hp × Nat) :=
  (binK .plain .geq (t 0) (.int .u8 97)).bind fun v1 =>
  let t3 : Tm := put (put (put (put t 2 (.bool false)) 3 (t 0)) 4 v1) 5 v1
  (gsel v1 true
    ((binK .plain .leq (t3 0) (.int .u8 122)).bind fun v4 =>
     some (put (put t3 6 (t3 0)) 7 v4, H, n + 40))
    (some (put (put t3 6 (.tuple #[])) 7 (.tuple #[]), H, n + 40))
  ).bind fun (q2 : R3) =>
  (pickV (q2.1 5) (q2.1 7) (.bool false)).bind fun v5 =>
  let t7 : Tm := put (put q2.1 8 v5) 9 v5
  (gsel v5 false
    ((binK .plain .eql (t7 0) (.int .u8 43)).bind fun v8 =>
     some (put (put t7 10 (t7 0)) 11 v8, q2.2.1, q2.2.2))
    (some (put (put t7 10 (.tuple #[])) 11 (.tuple #[]), q2.2.1, q2.2.2))
  ).bind fun (q6 : R3) =>
  (pickV (q6.1 9) (.bool true) (q6.1 11)).bind fun v9 =>
  let t11 : Tm := put (put q6.1 12 v9) 13 v9
  (gsel v9 false
    ((binK .plain .eql (t11 0) (.int .u8 45)).bind fun v12 =>
     some (put (put t11 14 (t11 0)) 15 v12, q6.2.1, q6.2.2))
    (some (put (put t11 14 (.tuple #[])) 15 (.tuple #[]), q6.2.1, q6.2.2))
  ).bind fun (q10 : R3) =>
  (pickV (q10.1 13) (.bool true) (q10.1 15)).bind fun v13 =>
  let t15 : Tm := put (put q10.1 16 v13) 17 v13
  (gsel v13 false
    ((binK .plain .eql (t15 0) (.int .u8 42)).bind fun v16 =>
     some (put (put t15 18 (t15 0)) 19 v16, q10.2.1, q10.2.2))
    (some (put (put t15 18 (.tuple #[])) 19 (.tuple #[]), q10.2.1, q10.2.2))
  ).bind fun (q14 : R3) =>
  (pickV (q14.1 17) (.bool true) (q14.1 19)).bind fun v17 =>
  let t19 : Tm := put (put q14.1 20 v17) 21 v17
  (gsel v17 false
    ((binK .plain .eql (t19 0) (.int .u8 60)).bind fun v20 =>
     some (put (put t19 22 (t19 0)) 23 v20, q14.2.1, q14.2.2))
    (some (put (put t19 22 (.tuple #[])) 23 (.tuple #[]), q14.2.1, q14.2.2))
  ).bind fun (q18 : R3) =>
  (pickV (q18.1 21) (.bool true) (q18.1 23)).bind fun v21 =>
  let t23 : Tm := put (put q18.1 24 v21) 25 v21
  (gsel v21 false
    ((binK .plain .eql (t23 0) (.int .u8 61)).bind fun v24 =>
     some (put (put t23 26 (t23 0)) 27 v24, q18.2.1, q18.2.2))
    (some (put (put t23 26 (.tuple #[])) 27 (.tuple #[]), q18.2.1, q18.2.2))
  ).bind fun (q22 : R3) =>
  (pickV (q22.1 25) (.bool true) (q22.1 27)).bind fun v25 =>
  let t27 : Tm := put (put q22.1 28 v25) 29 v25
  (gsel v25 false
    ((binK .plain .eql (t27 0) (.int .u8 63)).bind fun v28 =>
     some (put (put t27 30 (t27 0)) 31 v28, q22.2.1, q22.2.2))
    (some (put (put t27 30 (.tuple #[])) 31 (.tuple #[]), q22.2.1, q22.2.2))
  ).bind fun (q26 : R3) =>
  (pickV (q26.1 29) (.bool true) (q26.1 31)).bind fun v29 =>
  let t31 : Tm := put (put q26.1 32 v29) 33 v29
  (gsel v29 false
    ((binK .plain .eql (t31 0) (.int .u8 33)).bind fun v32 =>
     some (put (put t31 34 (t31 0)) 35 v32, q26.2.1, q26.2.2))
    (some (put (put t31 34 (.tuple #[])) 35 (.tuple #[]), q26.2.1, q26.2.2))
  ).bind fun (q30 : R3) =>
  (pickV (q30.1 33) (.bool true) (q30.1 35)).bind fun v33 =>
  let t35 : Tm := put (put q30.1 36 v33) 37 v33
  (gsel v33 false
    ((binK .plain .eql (t35 0) (.int .u8 47)).bind fun v36 =>
     some (put (put t35 38 (t35 0)) 39 v36, q30.2.1, q30.2.2))
    (some (put (put t35 38 (.tuple #[])) 39 (.tuple #[]), q30.2.1, q30.2.2))
  ).bind fun (q34 : R3) =>
  (pickV (q34.1 37) (.bool true) (q34.1 39)).bind fun v37 =>
  some (v37, q34.2.1, q34.2.2)
theorem s109 (C : Calling) (L : Body → Body) (t : Tm) (H : Hp) (n : Nat) : bodyK Try.prog C L Try.f109 t H n = S109 C L t H n := by kernel_rfl
theorem c109 (args : List Value) (H : Hp) (n : Nat) : Call Try.prog 109 args H n = S109 (Call Try.prog) Loop (argsT args) H n := (Call_body Try.func109 args H n).trans (s109 ..)
/-! 110: slices.Contains[[]byte,byte] -/
noncomputable def S110 (C : Calling) (L : Body → Body) (t : Tm) (H : Hp) (n : Nat) : Option (Value × Hp × Nat) :=
  (C 111 [t 0, t 1] H (n + 6)).bind fun q1 =>
  (binK .plain .geq q1.1 (.int .i64 0)).bind fun v2 =>
  some (v2, q1.2.1, q1.2.2)
theorem s110 (C : Calling) (L : Body → Body) (t : Tm) (H : Hp) (n : Nat) : bodyK Try.prog C L Try.f110 t H n = S110 C L t H n := by kernel_rfl
theorem c110 (args : List Value) (H : Hp) (n : Nat) : Call Try.prog 110 args H n = S110 (Call Try.prog) Loop (argsT args) H n := (Call_body Try.func110 args H n).trans (s110 ..)
/-! 111: slices.Index[[]byte,byte] -/
noncomputable def S111L0 (C : Calling) (L : Body → Body) : Body := fun t H n =>
  (binK .plain .lss (t 8) (t 7)).bind fun v3 =>
  csel v3
    ((idxA 1 (t 0) (t 8)).bind fun v4 =>
     (ld false 1 v4 H).bind fun v5 =>
     (binK .plain .eql (t 1) v5).bind fun v6 =>
     csel v6
       (some ⟨.ret, put (put (put (put (put (put (put (put (put (put (put t 9 v3) 10 (t 8)) 5 (t 8)) 11 (t 1)) 12 (t 0)) 13 (t 8)) 14 v4) 15 v5) 16 v6) 17 (t 8)) 4 (t 8), H, n + 11⟩)
       ((binK .plain .add (t 8) (.int .i64 1)).bind fun v7 =>
        some ⟨.normal, put (put (put (put (put (put (put (put (put (put (put t 9 v3) 10 (t 8)) 5 (t 8)) 11 (t 1)) 12 (t 0)) 13 (t 8)) 14 v4) 15 v5) 16 v6) 18 v7) 8 v7, H, n + 11⟩))
    (some ⟨(.exit 0), put t 9 v3, H, n + 1⟩)
noncomputable def S111 (C : Calling) (L : Body → Body) (t : Tm) (H : Hp) (n : Nat) : Option (Value × Hp × Nat) :=
  (lenV false (t 0)).bind fun v1 =>
  (L (S111L0 C L) (put (put (put (put t 4 (.int .i64 0)) 6 (t 0)) 7 v1) 8 (.int .i64 0)) H (n + 4)).bind fun (o2 : Out) =>
  let o8 := outOf 0 o2
  thenK o8
    (some (.int .i64 (-1), o8.H, o8.n + 1))
    (finE o8.e
       (some (o8.t 4, o8.H, o8.n)))
theorem s111 (C : Calling) (L : Body → Body) (t : Tm) (H : Hp) (n : Nat) : bodyK Try.prog C L Try.f111 t H n = S111 C L t H n := by kernel_rfl
theorem c111 (args : List Value) (H : Hp) (n : Nat) : Call Try.prog 111 args H n = S111 (Call Try.prog) Loop (argsT args) H n := (Call_body Try.func111 args H n).trans (s111 ..)
end Go.Proofs.Ytfdnlokpadbjnaa.Ax
