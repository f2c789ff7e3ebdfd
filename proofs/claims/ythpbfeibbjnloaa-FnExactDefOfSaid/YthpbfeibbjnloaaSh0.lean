/- What the bodies of some functions of the program come to in the abstract machine. -/
import Derived.Test.YthpbfeibbjnloaaProg
import Derived.Test.YthpbfeibbjnloaaAx3
set_option linter.unusedVariables false
namespace Go.Proofs.Ythpbfeibbjnloaa.Ax
open Go
set_option maxRecDepth 100000
/-! 3: laws.FnExactPoolOk -/
noncomputable def S3 (C : Calling) (L : Body → Body) (t : Tm) (H : Hp) (n : Nat) : Option (Value × Hp × Nat) :=
  (vcells (t 0)).bind fun c2 =>
  let H1 := H.set (n) (some (.row c2 0 true))
  (ld true 1 (ptr (n) 0) H1).bind fun v3 =>
  (C 9 [v3, .int .i64 1048576] H1 (n + 7)).bind fun q4 =>
  (binK .plain .lss q4.1 (.int .i64 0)).bind fun v5 =>
  csel v5
    (some (.bool true, q4.2.1, q4.2.2 + 3))
    ((ld true 1 (ptr (n) 0) q4.2.1).bind fun v6 =>
     (C 11 [v6] q4.2.1 (q4.2.2 + 6)).bind fun q7 =>
     (C 10 [q7.1] q7.2.1 (q7.2.2)).bind fun q8 =>
     (ld true 1 (ptr (n) 0) q8.2.1).bind fun v9 =>
     (C 11 [v9] q8.2.1 (q8.2.2 + 4)).bind fun q10 =>
     let H11 := q10.2.1.set (q8.2.2 + 2) (some (.row [nilS] 0 true))
     (st true 1 (ptr (q8.2.2 + 2) 0) q10.1 H11).bind fun H12 =>
     (ld true 1 (ptr (q8.2.2 + 2) 0) H12).bind fun v13 =>
     (C 12 [v13] H12 (q10.2.2 + 3)).bind fun q14 =>
     (binK .bool .neq q14.1 q8.1).bind fun v15 =>
     csel v15
       (some (.bool false, q14.2.1, q14.2.2 + 4))
       ((ld true 1 (ptr (q8.2.2 + 2) 0) q14.2.1).bind fun v16 =>
        (ld true 1 (ptr (n) 0) q14.2.1).bind fun v17 =>
        (C 11 [v17] q14.2.1 (q14.2.2 + 8)).bind fun q18 =>
        ask (ld true 1 (ptr (q8.2.2 + 2) 0) q18.2.1 = some v16) <|
        (C 13 [v16, q18.1] q18.2.1 (q18.2.2)).bind fun q19 =>
        (un .not q19.1).bind fun v20 =>
        csel v20
          (some (.bool false, q19.2.1, q19.2.2 + 1))
          (some (.bool true, q19.2.1, q19.2.2 + 1))))
theorem s3 (C : Calling) (L : Body → Body) (t : Tm) (H : Hp) (n : Nat) : bodyK Try.prog C L Try.f3 t H n = S3 C L t H n := by kernel_rfl
theorem c3 (args : List Value) (H : Hp) (n : Nat) : Call Try.prog 3 args H n = S3 (Call Try.prog) Loop (argsT args) H n := (Call_body Try.func3 args H n).trans (s3 ..)
/-! 4: laws.FnExactSizeOf -/
noncomputable def S4 (C : Calling) (L : Body → Body) (t : Tm) (H : Hp) (n : Nat) : Option (Value × Hp × Nat) :=
  (vcells (t 0)).bind fun c2 =>
  let H1 := H.set (n) (some (.row c2 0 true))
  (ld true 1 (ptr (n) 0) H1).bind fun v3 =>
  (C 9 [v3, .int .i64 1048576] H1 (n + 7)).bind fun q4 =>
  (binK .plain .lss q4.1 (.int .i64 0)).bind fun v5 =>
  csel v5
    (some (.bool true, q4.2.1, q4.2.2 + 3))
    ((ld true 1 (ptr (n) 0) q4.2.1).bind fun v6 =>
     (C 11 [v6] q4.2.1 (q4.2.2 + 7)).bind fun q7 =>
     (C 14 [q7.1, t 1] q7.2.1 (q7.2.2)).bind fun q8 =>
     (ld true 1 (ptr (n) 0) q8.2.1).bind fun v9 =>
     (C 11 [v9] q8.2.1 (q8.2.2 + 4)).bind fun q10 =>
     let H11 := q10.2.1.set (q8.2.2 + 2) (some (.row [nilS] 0 true))
     (st true 1 (ptr (q8.2.2 + 2) 0) q10.1 H11).bind fun H12 =>
     (ld true 1 (ptr (q8.2.2 + 2) 0) H12).bind fun v13 =>
     (C 15 [v13, t 1] H12 (q10.2.2 + 4)).bind fun q14 =>
     (binK .plain .neq q14.1 q8.1).bind fun v15 =>
     csel v15
       (some (.bool false, q14.2.1, q14.2.2 + 4))
       ((ld true 1 (ptr (q8.2.2 + 2) 0) q14.2.1).bind fun v16 =>
        (ld true 1 (ptr (n) 0) q14.2.1).bind fun v17 =>
        (C 11 [v17] q14.2.1 (q14.2.2 + 8)).bind fun q18 =>
        ask (ld true 1 (ptr (q8.2.2 + 2) 0) q18.2.1 = some v16) <|
        (C 13 [v16, q18.1] q18.2.1 (q18.2.2)).bind fun q19 =>
        (un .not q19.1).bind fun v20 =>
        csel v20
          (some (.bool false, q19.2.1, q19.2.2 + 1))
          (some (.bool true, q19.2.1, q19.2.2 + 1))))
theorem s4 (C : Calling) (L : Body → Body) (t : Tm) (H : Hp) (n : Nat) : bodyK Try.prog C L Try.f4 t H n = S4 C L t H n := by kernel_rfl
theorem c4 (args : List Value) (H : Hp) (n : Nat) : Call Try.prog 4 args H n = S4 (Call Try.prog) Loop (argsT args) H n := (Call_body Try.func4 args H n).trans (s4 ..)
/-! 5: laws.FnExactSame -/
noncomputable def S5 (C : Calling) (L : Body → Body) (t : Tm) (H : Hp) (n : Nat) : Option (Value × Hp × Nat) :=
  (vcells (t 0)).bind fun c2 =>
  let H1 := H.set (n) (some (.row c2 0 true))
  (ld true 1 (ptr (n) 0) H1).bind fun v3 =>
  (C 9 [v3, .int .i64 1048576] H1 (n + 7)).bind fun q4 =>
  (binK .plain .lss q4.1 (.int .i64 0)).bind fun v5 =>
  csel v5
    (some (.bool true, q4.2.1, q4.2.2 + 3))
    ((ld true 1 (ptr (n) 0) q4.2.1).bind fun v6 =>
     (C 11 [v6] q4.2.1 (q4.2.2 + 8)).bind fun q7 =>
     (C 16 [q7.1, t 1, t 2] q7.2.1 (q7.2.2)).bind fun q8 =>
     (ld true 1 (ptr (n) 0) q8.2.1).bind fun v9 =>
     (C 11 [v9] q8.2.1 (q8.2.2 + 4)).bind fun q10 =>
     let H11 := q10.2.1.set (q8.2.2 + 2) (some (.row [nilS] 0 true))
     (st true 1 (ptr (q8.2.2 + 2) 0) q10.1 H11).bind fun H12 =>
     (ld true 1 (ptr (q8.2.2 + 2) 0) H12).bind fun v13 =>
     (C 17 [v13, t 1, t 2] H12 (q10.2.2 + 5)).bind fun q14 =>
     (binK .bool .neq q14.1 q8.1).bind fun v15 =>
     csel v15
       (some (.bool false, q14.2.1, q14.2.2 + 4))
       ((ld true 1 (ptr (q8.2.2 + 2) 0) q14.2.1).bind fun v16 =>
        (ld true 1 (ptr (n) 0) q14.2.1).bind fun v17 =>
        (C 11 [v17] q14.2.1 (q14.2.2 + 8)).bind fun q18 =>
        ask (ld true 1 (ptr (q8.2.2 + 2) 0) q18.2.1 = some v16) <|
        (C 13 [v16, q18.1] q18.2.1 (q18.2.2)).bind fun q19 =>
        (un .not q19.1).bind fun v20 =>
        csel v20
          (some (.bool false, q19.2.1, q19.2.2 + 1))
          (some (.bool true, q19.2.1, q19.2.2 + 1))))
theorem s5 (C : Calling) (L : Body → Body) (t : Tm) (H : Hp) (n : Nat) : bodyK Try.prog C L Try.f5 t H n = S5 C L t H n := by kernel_rfl
theorem c5 (args : List Value) (H : Hp) (n : Nat) : Call Try.prog 5 args H n = S5 (Call Try.prog) Loop (argsT args) H n := (Call_body Try.func5 args H n).trans (s5 ..)
/-! 6: laws.FnExactDefOf -/
noncomputable def S6 (C : Calling) (L : Body → Body) (t : Tm) (H : Hp) (n : Nat) : Option (Value × Hp × Nat) :=
  (vcells (t 0)).bind fun c2 =>
  let H1 := H.set (n) (some (.row c2 0 true))
  (lenV true (t 1)).bind fun v3 =>
  (binK .plain .gtr v3 (.int .i64 1048576)).bind fun v4 =>
  csel v4
    (some (.bool true, H1, n + 6))
    ((ld true 3 (ptr (n) 0) H1).bind fun v5 =>
     (C 18 [v5, .int .i64 1048576] H1 (n + 10)).bind fun q6 =>
     (binK .plain .lss q6.1 (.int .i64 0)).bind fun v7 =>
     csel v7
       (some (.bool true, q6.2.1, q6.2.2 + 3))
       ((ld true 3 (ptr (n) 0) q6.2.1).bind fun v8 =>
        (C 20 [v8] q6.2.1 (q6.2.2 + 7)).bind fun q9 =>
        (C 19 [q9.1, t 1] q9.2.1 (q9.2.2)).bind fun q10 =>
        (ld true 3 (ptr (n) 0) q10.2.1).bind fun v11 =>
        (C 20 [v11] q10.2.1 (q10.2.2 + 4)).bind fun q12 =>
        let H13 := q12.2.1.set (q10.2.2 + 2) (some (.row [nilS, nilS, nilS] 0 true))
        (st true 3 (ptr (q10.2.2 + 2) 0) q12.1 H13).bind fun H14 =>
        (ld true 3 (ptr (q10.2.2 + 2) 0) H14).bind fun v15 =>
        (C 21 [v15, t 1] H14 (q12.2.2 + 4)).bind fun q16 =>
        (binK .plain .neq q16.1 q10.1).bind fun v17 =>
        csel v17
          (some (.bool false, q16.2.1, q16.2.2 + 4))
          ((ld true 3 (ptr (q10.2.2 + 2) 0) q16.2.1).bind fun v18 =>
           (ld true 3 (ptr (n) 0) q16.2.1).bind fun v19 =>
           (C 20 [v19] q16.2.1 (q16.2.2 + 8)).bind fun q20 =>
           ask (ld true 3 (ptr (q10.2.2 + 2) 0) q20.2.1 = some v18) <|
           (C 22 [v18, q20.1] q20.2.1 (q20.2.2)).bind fun q21 =>
           (un .not q21.1).bind fun v22 =>
           csel v22
             (some (.bool false, q21.2.1, q21.2.2 + 1))
             (some (.bool true, q21.2.1, q21.2.2 + 1)))))
theorem s6 (C : Calling) (L : Body → Body) (t : Tm) (H : Hp) (n : Nat) : bodyK Try.prog C L Try.f6 t H n = S6 C L t H n := by kernel_rfl
theorem c6 (args : List Value) (H : Hp) (n : Nat) : Call Try.prog 6 args H n = S6 (Call Try.prog) Loop (argsT args) H n := (Call_body Try.func6 args H n).trans (s6 ..)
/-! 7: laws.FnSize -/
noncomputable def S7 (C : Calling) (L : Body → Body) (t : Tm) (H : Hp) (n : Nat) : Option (Value × Hp × Nat) :=
  (C 23 [t 0] H (n + 3)).bind fun q1 =>
  csel q1.1
    (some (.bool true, q1.2.1, q1.2.2 + 1))
    ((C 24 [t 0] q1.2.1 (q1.2.2 + 8)).bind fun q2 =>
     (ext 0 q2.1).bind fun v3 =>
     (ext 1 q2.1).bind fun v4 =>
     let H5 := q2.2.1.set (q1.2.2 + 5) (some (.row [nilS] 0 true))
     (st true 1 (ptr (q1.2.2 + 5) 0) v3 H5).bind fun H6 =>
     (ld true 1 (ptr (q1.2.2 + 5) 0) H6).bind fun v7 =>
     (C 15 [v7, v4] H6 (q2.2.2 + 4)).bind fun q8 =>
     (ld true 1 (ptr (q1.2.2 + 5) 0) q8.2.1).bind fun v9 =>
     (C 14 [v9, v4] q8.2.1 (q8.2.2 + 5)).bind fun q10 =>
     (binK .plain .neq q8.1 q10.1).bind fun v11 =>
     csel v11
       (some (.bool false, q10.2.1, q10.2.2 + 1))
       ((binK .plain .eql q8.1 (.int .i64 0)).bind fun v12 =>
        csel v12
          ((ld true 1 (ptr (q1.2.2 + 5) 0) q10.2.1).bind fun v13 =>
           (C 10 [v13] q10.2.1 (q10.2.2 + 17)).bind fun q14 =>
           (un .not q14.1).bind fun v15 =>
           let t17 : Tm := put (put (put (put (put (put (put (put (put (put (put (put (put (put (put (put (put (put (put (put (put (put (put (put (put t 2 (.bool false)) 8 (t 0)) 9 q1.1) 11 (t 0)) 12 q2.1) 10 q2.1) 13 v3) 14 v4) 3 (ptr (q1.2.2 + 5) 0)) 4 v4) 15 v7) 16 v4) 17 q8.1) 5 q8.1) 18 q8.1) 19 v9) 20 v4) 21 q10.1) 22 v11) 23 q8.1) 24 v12) 25 v13) 26 q14.1) 27 v15) 28 v15
           (gsel v15 false
             ((binK .plain .lss v4 (.int .i64 0)).bind fun v18 =>
              some (put (put t17 29 v4) 30 v18, q14.2.1, q14.2.2))
             (some (put (put t17 29 (.tuple #[])) 30 (.tuple #[]), q14.2.1, q14.2.2))
           ).bind fun (q16 : R3) =>
           (pickV (q16.1 28) (.bool true) (q16.1 30)).bind fun v19 =>
           let t21 : Tm := put (put q16.1 31 v19) 32 v19
           (gsel v19 false
             ((fieldA 0 (t21 3)).bind fun v22 =>
              (ld false 1 v22 q16.2.1).bind fun v23 =>
              (lenV false v23).bind fun v24 =>
              (binK .plain .geq (t21 4) v24).bind fun v25 =>
              some (put (put (put (put (put t21 33 (t21 4)) 34 v22) 35 v23) 36 v24) 37 v25, q16.2.1, q16.2.2))
             (some (put (put (put (put (put t21 33 (.tuple #[])) 34 (.tuple #[])) 35 (.tuple #[])) 36 (.tuple #[])) 37 (.tuple #[]), q16.2.1, q16.2.2))
           ).bind fun (q20 : R3) =>
           (pickV (q20.1 32) (.bool true) (q20.1 37)).bind fun v26 =>
           some (v26, q20.2.1, q20.2.2))
          ((fieldA 0 (ptr (q1.2.2 + 5) 0)).bind fun v27 =>
           (ld false 1 v27 q10.2.1).bind fun v28 =>
           (idxA 5 v28 v4).bind fun v29 =>
           (ld true 5 v29 q10.2.1).bind fun v30 =>
           let H31 := q10.2.1.set (q10.2.2 + 7) (some (.row [.int .i64 0, .int .i64 0, .string ⟨#[]⟩, .int .i64 0, .int .i64 0] 0 true))
           (st true 5 (ptr (q10.2.2 + 7) 0) v30 H31).bind fun H32 =>
           (fieldA 0 (ptr (q10.2.2 + 7) 0)).bind fun v33 =>
           (ld false 1 v33 H32).bind fun v34 =>
           (binK .plain .eql v34 (.int .i64 5)).bind fun v35 =>
           let t37 : Tm := put (put (put (put (put (put (put (put (put (put (put (put (put (put (put (put (put (put (put (put (put (put (put (put (put (put (put (put (put (put (put (put t 2 (.bool false)) 8 (t 0)) 9 q1.1) 11 (t 0)) 12 q2.1) 10 q2.1) 13 v3) 14 v4) 3 (ptr (q1.2.2 + 5) 0)) 4 v4) 15 v7) 16 v4) 17 q8.1) 5 q8.1) 18 q8.1) 19 v9) 20 v4) 21 q10.1) 22 v11) 23 q8.1) 24 v12) 39 v27) 40 v28) 41 v4) 42 v29) 43 v30) 6 (ptr (q10.2.2 + 7) 0)) 7 (.int .i64 1)) 44 v33) 45 v34) 46 v35) 47 v35
           (gsel v35 false
             ((fieldA 0 (ptr (q10.2.2 + 7) 0)).bind fun v38 =>
              (ld false 1 v38 H32).bind fun v39 =>
              (binK .plain .eql v39 (.int .i64 6)).bind fun v40 =>
              some (put (put (put t37 48 v38) 49 v39) 50 v40, H32, q10.2.2 + 23))
             (some (put (put (put t37 48 (.tuple #[])) 49 (.tuple #[])) 50 (.tuple #[]), H32, q10.2.2 + 23))
           ).bind fun (q36 : R3) =>
           (pickV (q36.1 47) (.bool true) (q36.1 50)).bind fun v41 =>
           let t43 : Tm := put (put q36.1 51 v41) 52 v41
           (gsel v41 false
             ((fieldA 0 (t43 6)).bind fun v44 =>
              (ld false 1 v44 q36.2.1).bind fun v45 =>
              (binK .plain .eql v45 (.int .i64 7)).bind fun v46 =>
              some (put (put (put t43 53 v44) 54 v45) 55 v46, q36.2.1, q36.2.2))
             (some (put (put (put t43 53 (.tuple #[])) 54 (.tuple #[])) 55 (.tuple #[]), q36.2.1, q36.2.2))
           ).bind fun (q42 : R3) =>
           (pickV (q42.1 52) (.bool true) (q42.1 55)).bind fun v47 =>
           let t49 : Tm := put q42.1 56 v47
           (csel v47
             ((ld true 1 (t49 3) q42.2.1).bind fun v50 =>
              (fieldA 3 (t49 6)).bind fun v51 =>
              (ld false 1 v51 q42.2.1).bind fun v52 =>
              (C 15 [v50, v52] q42.2.1 (q42.2.2 + 7)).bind fun q53 =>
              (binK .plain .add (t49 7) q53.1).bind fun v54 =>
              some ⟨.normal, put (put (put (put (put (put (put t49 57 (t49 7)) 58 v50) 59 v51) 60 v52) 61 q53.1) 62 v54) 7 v54, q53.2.1, q53.2.2⟩)
             (some ⟨.normal, t49, q42.2.1, q42.2.2⟩)
           ).bind fun (o48 : Out) =>
           (fieldA 0 (o48.t 6)).bind fun v55 =>
           (ld false 1 v55 o48.H).bind fun v56 =>
           (binK .plain .eql v56 (.int .i64 5)).bind fun v57 =>
           let t59 : Tm := put (put (put o48.t 63 v55) 64 v56) 65 v57
           (csel v57
             ((ld true 1 (t59 3) o48.H).bind fun v60 =>
              (fieldA 4 (t59 6)).bind fun v61 =>
              (ld false 1 v61 o48.H).bind fun v62 =>
              (C 15 [v60, v62] o48.H (o48.n + 10)).bind fun q63 =>
              (binK .plain .add (t59 7) q63.1).bind fun v64 =>
              some ⟨.normal, put (put (put (put (put (put (put t59 66 (t59 7)) 67 v60) 68 v61) 69 v62) 70 q63.1) 71 v64) 7 v64, q63.2.1, q63.2.2⟩)
             (some ⟨.normal, t59, o48.H, o48.n + 3⟩)
           ).bind fun (o58 : Out) =>
           (binK .plain .eql (o58.t 5) (o58.t 7)).bind fun v65 =>
           let t67 : Tm := put (put (put (put o58.t 72 (o58.t 5)) 73 (o58.t 7)) 74 v65) 75 v65
           (gsel v65 false
             ((binK .plain .eql (t67 5) (.int .i64 1000000000)).bind fun v68 =>
              some (put (put (put t67 76 (t67 5)) 77 v68) 78 v68, o58.H, o58.n + 12))
             (some (put (put (put t67 76 (.tuple #[])) 77 (.tuple #[])) 78 (.tuple #[]), o58.H, o58.n + 12))
           ).bind fun (q66 : R3) =>
           let t70 : Tm := q66.1
           (gsel (q66.1 78) true
             ((binK .plain .gtr (t70 7) (.int .i64 1000000000)).bind fun v71 =>
              some (put (put t70 79 (t70 7)) 80 v71, q66.2.1, q66.2.2))
             (some (put (put t70 79 (.tuple #[])) 80 (.tuple #[]), q66.2.1, q66.2.2))
           ).bind fun (q69 : R3) =>
           let t73 : Tm := q69.1
           (gsel (q69.1 75) false
             ((pickV (t73 78) (t73 80) (.bool false)).bind fun v74 =>
              some (put t73 81 v74, q69.2.1, q69.2.2))
             (some (put t73 81 (.tuple #[]), q69.2.1, q69.2.2))
           ).bind fun (q72 : R3) =>
           (pickV (q72.1 75) (.bool true) (q72.1 81)).bind fun v75 =>
           some (v75, q72.2.1, q72.2.2))))
theorem s7 (C : Calling) (L : Body → Body) (t : Tm) (H : Hp) (n : Nat) : bodyK Try.prog C L Try.f7 t H n = S7 C L t H n := by kernel_rfl
theorem c7 (args : List Value) (H : Hp) (n : Nat) : Call Try.prog 7 args H n = S7 (Call Try.prog) Loop (argsT args) H n := (Call_body Try.func7 args H n).trans (s7 ..)
/-! 8: laws.FnExactListOf -/
noncomputable def S8 (C : Calling) (L : Body → Body) (t : Tm) (H : Hp) (n : Nat) : Option (Value × Hp × Nat) :=
  (vcells (t 0)).bind fun c2 =>
  let H1 := H.set (n) (some (.row c2 0 true))
  (ld true 1 (ptr (n) 0) H1).bind fun v3 =>
  (C 9 [v3, .int .i64 1048576] H1 (n + 7)).bind fun q4 =>
  (binK .plain .lss q4.1 (.int .i64 0)).bind fun v5 =>
  csel v5
    (some (.bool true, q4.2.1, q4.2.2 + 3))
    ((ld true 1 (ptr (n) 0) q4.2.1).bind fun v6 =>
     (C 11 [v6] q4.2.1 (q4.2.2 + 11)).bind fun q7 =>
     (C 25 [q7.1, t 1] q7.2.1 (q7.2.2)).bind fun q8 =>
     (ext 0 q8.1).bind fun v9 =>
     (ext 1 q8.1).bind fun v10 =>
     (ld true 1 (ptr (n) 0) q8.2.1).bind fun v11 =>
     (C 11 [v11] q8.2.1 (q8.2.2 + 4)).bind fun q12 =>
     let H13 := q12.2.1.set (q8.2.2 + 2) (some (.row [nilS] 0 true))
     (st true 1 (ptr (q8.2.2 + 2) 0) q12.1 H13).bind fun H14 =>
     (ld true 1 (ptr (q8.2.2 + 2) 0) H14).bind fun v15 =>
     (C 26 [v15, t 1] H14 (q12.2.2 + 8)).bind fun q16 =>
     (ext 0 q16.1).bind fun v17 =>
     (ext 1 q16.1).bind fun v18 =>
     (C 27 [v17, v9] q16.2.1 (q16.2.2 + 9)).bind fun q19 =>
     (un .not q19.1).bind fun v20 =>
     let t22 : Tm := put (put (put (put (put (put (put (put (put (put (put (put (put (put (put (put (put (put (put (put (put (put (put (put (put (put (put (put (put (put (put (put (put (put t 2 (ptr (n) 0)) 4 (.bool false)) 5 (.int .i64 1048576)) 16 v3) 17 (.int .i64 1048576)) 18 q4.1) 5 q4.1) 19 q4.1) 20 v5) 22 v6) 23 q7.1) 24 (t 1)) 25 q8.1) 21 q8.1) 26 v9) 27 v10) 6 v9) 7 v10) 28 v11) 29 q12.1) 8 (ptr (q8.2.2 + 2) 0)) 31 v15) 32 (t 1)) 33 q16.1) 30 q16.1) 34 v17) 35 v18) 9 v17) 10 v18) 36 v17) 37 v9) 38 q19.1) 39 v20) 40 v20
     (gsel v20 false
       ((binK .bool .neq v18 v10).bind fun v23 =>
        some (put (put (put t22 41 v18) 42 v10) 43 v23, q19.2.1, q19.2.2))
       (some (put (put (put t22 41 (.tuple #[])) 42 (.tuple #[])) 43 (.tuple #[]), q19.2.1, q19.2.2))
     ).bind fun (q21 : R3) =>
     (pickV (q21.1 40) (.bool true) (q21.1 43)).bind fun v24 =>
     csel v24
       (some (.bool false, q21.2.1, q21.2.2 + 1))
       ((ld true 1 (q21.1 8) q21.2.1).bind fun v25 =>
        (ld true 1 (q21.1 2) q21.2.1).bind fun v26 =>
        (C 11 [v26] q21.2.1 (q21.2.2 + 5)).bind fun q27 =>
        ask (ld true 1 (q21.1 8) q27.2.1 = some v25) <|
        (C 13 [v25, q27.1] q27.2.1 (q27.2.2)).bind fun q28 =>
        (un .not q28.1).bind fun v29 =>
        csel v29
          (some (.bool false, q28.2.1, q28.2.2 + 1))
          ((ld true 1 (q21.1 8) q28.2.1).bind fun v30 =>
           (C 28 [v30, .int .i64 1] q28.2.1 (q28.2.2 + 5)).bind fun q31 =>
           (binK .plain .lss q31.1 (.int .i64 0)).bind fun v32 =>
           let t34 : Tm := put (put (put (put (put (put (put (put (put (put (put (put (put (put q21.1 44 v24) 45 v25) 46 v26) 47 q27.1) 48 q28.1) 49 v29) 11 (.int .i64 1)) 50 v30) 51 (.int .i64 1)) 52 q31.1) 11 q31.1) 53 q31.1) 54 v32) 55 v32
           (gsel v32 false
             ((C 27 [t34 9, t34 6] q31.2.1 (q31.2.2 + 13)).bind fun q35 =>
              (un .not q35.1).bind fun v36 =>
              some (put (put (put (put t34 56 (t34 9)) 57 (t34 6)) 58 q35.1) 59 v36, q35.2.1, q35.2.2))
             (some (put (put (put (put t34 56 (.tuple #[])) 57 (.tuple #[])) 58 (.tuple #[])) 59 (.tuple #[]), q31.2.1, q31.2.2 + 13))
           ).bind fun (q33 : R3) =>
           (pickV (q33.1 55) (.bool true) (q33.1 59)).bind fun v37 =>
           let t39 : Tm := put (put q33.1 60 v37) 61 v37
           (gsel v37 false
             ((binK .bool .neq (t39 10) (t39 7)).bind fun v40 =>
              some (put (put (put t39 62 (t39 10)) 63 (t39 7)) 64 v40, q33.2.1, q33.2.2))
             (some (put (put (put t39 62 (.tuple #[])) 63 (.tuple #[])) 64 (.tuple #[]), q33.2.1, q33.2.2))
           ).bind fun (q38 : R3) =>
           (pickV (q38.1 61) (.bool true) (q38.1 64)).bind fun v41 =>
           csel v41
             (some (.bool false, q38.2.1, q38.2.2 + 1))
             ((C 29 [q38.1 9, .int .i64 1] q38.2.1 (q38.2.2 + 5)).bind fun q42 =>
              (C 30 [q38.1 9, .int .i64 1] q42.2.1 (q42.2.2 + 5)).bind fun q43 =>
              (binK .plain .lss q43.1 (.int .i64 0)).bind fun v44 =>
              csel v44
                (some (.bool false, q43.2.1, q43.2.2 + 3))
                ((binK .plain .neq q43.1 q42.1).bind fun v45 =>
                 csel v45
                   (some (.bool false, q43.2.1, q43.2.2 + 6))
                   ((ld true 1 (q38.1 2) q43.2.1).bind fun v46 =>
                    (C 11 [v46] q43.2.1 (q43.2.2 + 14)).bind fun q47 =>
                    (C 26 [q47.1, q38.1 1] q47.2.1 (q47.2.2)).bind fun q48 =>
                    (ext 0 q48.1).bind fun v49 =>
                    (ext 1 q48.1).bind fun v50 =>
                    (C 27 [v49, q38.1 6] q48.2.1 (q48.2.2 + 9)).bind fun q51 =>
                    (un .not q51.1).bind fun v52 =>
                    let t54 : Tm := put (put (put (put (put (put (put (put (put (put (put (put (put (put (put (put (put (put (put (put (put (put (put (put (put (put (put (put (put (put q38.1 65 v41) 12 (.int .i64 1)) 66 (q38.1 9)) 67 (.int .i64 1)) 68 q42.1) 12 q42.1) 13 (.int .i64 1)) 69 (q38.1 9)) 70 (.int .i64 1)) 71 q43.1) 13 q43.1) 72 q43.1) 73 v44) 74 q43.1) 75 q42.1) 76 v45) 78 v46) 79 q47.1) 80 (q38.1 1)) 81 q48.1) 77 q48.1) 82 v49) 83 v50) 14 v49) 15 v50) 84 v49) 85 (q38.1 6)) 86 q51.1) 87 v52) 88 v52
                    (gsel v52 false
                      ((binK .bool .neq v50 (t54 7)).bind fun v55 =>
                       some (put (put (put t54 89 v50) 90 (t54 7)) 91 v55, q51.2.1, q51.2.2))
                      (some (put (put (put t54 89 (.tuple #[])) 90 (.tuple #[])) 91 (.tuple #[]), q51.2.1, q51.2.2))
                    ).bind fun (q53 : R3) =>
                    (pickV (q53.1 88) (.bool true) (q53.1 91)).bind fun v56 =>
                    csel v56
                      (some (.bool false, q53.2.1, q53.2.2 + 1))
                      ((C 30 [q53.1 9, .int .i64 1] q53.2.1 (q53.2.2 + 5)).bind fun q57 =>
                       (binK .plain .lss q57.1 (.int .i64 0)).bind fun v58 =>
                       csel v58
                         (some (.bool false, q57.2.1, q57.2.2 + 3))
                         ((binK .plain .neq q57.1 (q53.1 12)).bind fun v59 =>
                          csel v59
                            (some (.bool false, q57.2.1, q57.2.2 + 6))
                            (some (.bool true, q57.2.1, q57.2.2 + 6))))))))))
theorem s8 (C : Calling) (L : Body → Body) (t : Tm) (H : Hp) (n : Nat) : bodyK Try.prog C L Try.f8 t H n = S8 C L t H n := by kernel_rfl
theorem c8 (args : List Value) (H : Hp) (n : Nat) : Call Try.prog 8 args H n = S8 (Call Try.prog) Loop (argsT args) H n := (Call_body Try.func8 args H n).trans (s8 ..)
/-! 9: laws.szPool -/
noncomputable def S9 (C : Calling) (L : Body → Body) (t : Tm) (H : Hp) (n : Nat) : Option (Value × Hp × Nat) :=
  (vcells (t 0)).bind fun c2 =>
  let H1 := H.set (n) (some (.row c2 0 true))
  (fieldA 0 (ptr (n) 0)).bind fun v3 =>
  (ld false 1 v3 H1).bind fun v4 =>
  (C 31 [v4, t 1] H1 (n + 7)).bind fun q5 =>
  (binK .plain .lss q5.1 (.int .i64 0)).bind fun v6 =>
  csel v6
    (some (.int .i64 (-1), q5.2.1, q5.2.2 + 3))
    (some (q5.1, q5.2.1, q5.2.2 + 4))
theorem s9 (C : Calling) (L : Body → Body) (t : Tm) (H : Hp) (n : Nat) : bodyK Try.prog C L Try.f9 t H n = S9 C L t H n := by kernel_rfl
theorem c9 (args : List Value) (H : Hp) (n : Nat) : Call Try.prog 9 args H n = S9 (Call Try.prog) Loop (argsT args) H n := (Call_body Try.func9 args H n).trans (s9 ..)
/-! 10: spec.PoolOk -/
noncomputable def S10L0 (C : Calling) (L : Body → Body) : Body := fun t H n =>
  (fieldA 0 (t 1)).bind fun v4 =>
  (ld false 1 v4 H).bind fun v5 =>
  (lenV false v5).bind fun v6 =>
  (binK .plain .lss (t 3) v6).bind fun v7 =>
  csel v7
    ((fieldA 0 (t 1)).bind fun v8 =>
     (ld false 1 v8 H).bind fun v9 =>
     (idxA 5 v9 (t 3)).bind fun v10 =>
     (ld true 5 v10 H).bind fun v11 =>
     (C 32 [v11, t 3] H (n + 13)).bind fun q12 =>
     (un .not q12.1).bind fun v13 =>
     csel v13
       (some ⟨.ret, put (put (put (put (put (put (put (put (put (put (put (put (put (put t 4 (t 3)) 5 v4) 6 v5) 7 v6) 8 v7) 11 v8) 12 v9) 13 (t 3)) 14 v10) 15 v11) 16 (t 3)) 17 q12.1) 18 v13) 2 (.bool false), q12.2.1, q12.2.2 + 1⟩)
       ((binK .plain .add (t 3) (.int .i64 1)).bind fun v14 =>
        some ⟨.normal, put (put (put (put (put (put (put (put (put (put (put (put (put (put (put (put t 4 (t 3)) 5 v4) 6 v5) 7 v6) 8 v7) 11 v8) 12 v9) 13 (t 3)) 14 v10) 15 v11) 16 (t 3)) 17 q12.1) 18 v13) 9 (t 3)) 10 v14) 3 v14, q12.2.1, q12.2.2 + 3⟩))
    (some ⟨(.exit 0), put (put (put (put (put t 4 (t 3)) 5 v4) 6 v5) 7 v6) 8 v7, H, n + 5⟩)
noncomputable def S10 (C : Calling) (L : Body → Body) (t : Tm) (H : Hp) (n : Nat) : Option (Value × Hp × Nat) :=
  (vcells (t 0)).bind fun c2 =>
  let H1 := H.set (n) (some (.row c2 0 true))
  (L (S10L0 C L) (put (put (put t 1 (ptr (n) 0)) 2 (.bool false)) 3 (.int .i64 0)) H1 (n + 3)).bind fun (o3 : Out) =>
  let o15 := outOf 0 o3
  thenK o15
    ((fieldA 0 (o15.t 1)).bind fun v16 =>
     (ld false 1 v16 o15.H).bind fun v17 =>
     (lenV false v17).bind fun v18 =>
     (binK .plain .leq v18 (.int .i64 3000)).bind fun v19 =>
     some (v19, o15.H, o15.n + 5))
    (finE o15.e
       (some (o15.t 2, o15.H, o15.n)))
theorem s10 (C : Calling) (L : Body → Body) (t : Tm) (H : Hp) (n : Nat) : bodyK Try.prog C L Try.f10 t H n = S10 C L t H n := by kernel_rfl
theorem c10 (args : List Value) (H : Hp) (n : Nat) : Call Try.prog 10 args H n = S10 (Call Try.prog) Loop (argsT args) H n := (Call_body Try.func10 args H n).trans (s10 ..)
/-! 11: laws.toPool -/
noncomputable def S11 (C : Calling) (L : Body → Body) (t : Tm) (H : Hp) (n : Nat) : Option (Value × Hp × Nat) :=
  (vcells (t 0)).bind fun c2 =>
  let H1 := H.set (n) (some (.row c2 0 true))
  let H3 := H1.set (n + 1) (some (.row [nilS] 0 true))
  let H4 := H3.set (n + 2) (some (.row [nilS] 0 true))
  (fieldA 0 (ptr (n) 0)).bind fun v5 =>
  (ld false 1 v5 H4).bind fun v6 =>
  (C 33 [v6] H4 (n + 8)).bind fun q7 =>
  (fieldA 0 (ptr (n + 2) 0)).bind fun v8 =>
  (st false 1 v8 q7.1 q7.2.1).bind fun H9 =>
  (ld true 1 (ptr (n + 2) 0) H9).bind fun v10 =>
  (st true 1 (ptr (n + 1) 0) v10 H9).bind fun H11 =>
  (ld true 1 (ptr (n + 1) 0) H11).bind fun v12 =>
  some (v12, H11, q7.2.2 + 2)
theorem s11 (C : Calling) (L : Body → Body) (t : Tm) (H : Hp) (n : Nat) : bodyK Try.prog C L Try.f11 t H n = S11 C L t H n := by kernel_rfl
theorem c11 (args : List Value) (H : Hp) (n : Nat) : Call Try.prog 11 args H n = S11 (Call Try.prog) Loop (argsT args) H n := (Call_body Try.func11 args H n).trans (s11 ..)
/-! 12: impl.PoolOk -/
noncomputable def S12L0 (C : Calling) (L : Body → Body) : Body := fun t H n =>
  (binK .plain .lss (t 8) (t 7)).bind fun v7 =>
  csel v7
    ((idxA 5 (t 6) (t 8)).bind fun v8 =>
     (ld true 5 v8 H).bind fun v9 =>
     let H10 := H.set (n + 4) (some (.row [.int .i64 0, .int .i64 0, .string ⟨#[]⟩, .int .i64 0, .int .i64 0] 0 true))
     (st true 5 (ptr (n + 4) 0) v9 H10).bind fun H11 =>
     (ld true 5 (ptr (n + 4) 0) H11).bind fun v12 =>
     (C 34 [v12, t 8] H11 (n + 11)).bind fun q13 =>
     (un .not q13.1).bind fun v14 =>
     csel v14
       (some ⟨.ret, put (put (put (put (put (put (put (put (put (put (put t 9 v7) 10 (t 8)) 11 v8) 12 v9) 4 (ptr (n + 4) 0)) 3 (t 8)) 13 v12) 14 (t 8)) 15 q13.1) 16 v14) 2 (.bool false), q13.2.1, q13.2.2 + 1⟩)
       ((binK .plain .add (t 8) (.int .i64 1)).bind fun v15 =>
        some ⟨.normal, put (put (put (put (put (put (put (put (put (put (put (put t 9 v7) 10 (t 8)) 11 v8) 12 v9) 4 (ptr (n + 4) 0)) 3 (t 8)) 13 v12) 14 (t 8)) 15 q13.1) 16 v14) 17 v15) 8 v15, q13.2.1, q13.2.2 + 2⟩))
    (some ⟨(.exit 0), put t 9 v7, H, n + 1⟩)
noncomputable def S12 (C : Calling) (L : Body → Body) (t : Tm) (H : Hp) (n : Nat) : Option (Value × Hp × Nat) :=
  (vcells (t 0)).bind fun c2 =>
  let H1 := H.set (n) (some (.row c2 0 true))
  (fieldA 0 (ptr (n) 0)).bind fun v3 =>
  (ld false 1 v3 H1).bind fun v4 =>
  (lenV false v4).bind fun v5 =>
  (L (S12L0 C L) (put (put (put (put (put (put t 1 (ptr (n) 0)) 2 (.bool false)) 5 v3) 6 v4) 7 v5) 8 (.int .i64 0)) H1 (n + 6)).bind fun (o6 : Out) =>
  let o16 := outOf 0 o6
  thenK o16
    ((fieldA 0 (o16.t 1)).bind fun v17 =>
     (ld false 1 v17 o16.H).bind fun v18 =>
     (lenV false v18).bind fun v19 =>
     (binK .plain .leq v19 (.int .i64 3000)).bind fun v20 =>
     some (v20, o16.H, o16.n + 5))
    (finE o16.e
       (some (o16.t 2, o16.H, o16.n)))
theorem s12 (C : Calling) (L : Body → Body) (t : Tm) (H : Hp) (n : Nat) : bodyK Try.prog C L Try.f12 t H n = S12 C L t H n := by kernel_rfl
theorem c12 (args : List Value) (H : Hp) (n : Nat) : Call Try.prog 12 args H n = S12 (Call Try.prog) Loop (argsT args) H n := (Call_body Try.func12 args H n).trans (s12 ..)
/-! 13: laws.eqPool -/
noncomputable def S13 (C : Calling) (L : Body → Body) (t : Tm) (H : Hp) (n : Nat) : Option (Value × Hp × Nat) :=
  (vcells (t 0)).bind fun c2 =>
  let H1 := H.set (n) (some (.row c2 0 true))
  (vcells (t 1)).bind fun c4 =>
  let H3 := H1.set (n + 1) (some (.row c4 0 true))
  (fieldA 0 (ptr (n) 0)).bind fun v5 =>
  (ld false 1 v5 H3).bind fun v6 =>
  (fieldA 0 (ptr (n + 1) 0)).bind fun v7 =>
  (ld false 1 v7 H3).bind fun v8 =>
  (C 35 [v6, v8] H3 (n + 9)).bind fun q9 =>
  (un .not q9.1).bind fun v10 =>
  csel v10
    (some (.bool false, q9.2.1, q9.2.2 + 1))
    (some (.bool true, q9.2.1, q9.2.2 + 1))
theorem s13 (C : Calling) (L : Body → Body) (t : Tm) (H : Hp) (n : Nat) : bodyK Try.prog C L Try.f13 t H n = S13 C L t H n := by kernel_rfl
theorem c13 (args : List Value) (H : Hp) (n : Nat) : Call Try.prog 13 args H n = S13 (Call Try.prog) Loop (argsT args) H n := (Call_body Try.func13 args H n).trans (s13 ..)
/-! 14: spec.SizeOf -/
noncomputable def S14L0 (C : Calling) (L : Body → Body) : Body := fun t H n =>
  (binK .plain .leq (t 6) (t 1)).bind fun v14 =>
  csel v14
    ((fieldA 0 (t 2)).bind fun v15 =>
     (ld false 1 v15 H).bind fun v16 =>
     (idxA 5 v16 (t 6)).bind fun v17 =>
     (ld true 5 v17 H).bind fun v18 =>
     let H19 := H.set (n + 9) (some (.row [.int .i64 0, .int .i64 0, .string ⟨#[]⟩, .int .i64 0, .int .i64 0] 0 true))
     (st true 5 (ptr (n + 9) 0) v18 H19).bind fun H20 =>
     (fieldA 0 (ptr (n + 9) 0)).bind fun v21 =>
     (ld false 1 v21 H20).bind fun v22 =>
     (binK .plain .eql v22 (.int .i64 5)).bind fun v23 =>
     let t25 : Tm := put (put (put (put (put (put (put (put (put (put (put (put (put (put t 19 (t 6)) 20 (t 1)) 21 v14) 7 (.int .i64 1)) 24 v15) 25 v16) 26 (t 6)) 27 v17) 28 v18) 8 (ptr (n + 9) 0)) 29 v21) 30 v22) 32 v23) 31 v23
     (csel v23
       ((fieldA 3 (ptr (n + 9) 0)).bind fun v26 =>
        (ld false 1 v26 H20).bind fun v27 =>
        (idxA 1 (t25 5) v27).bind fun v28 =>
        (ld false 1 v28 H20).bind fun v29 =>
        (binK .plain .add (.int .i64 1) v29).bind fun v30 =>
        (fieldA 4 (ptr (n + 9) 0)).bind fun v31 =>
        (ld false 1 v31 H20).bind fun v32 =>
        (idxA 1 (t25 5) v32).bind fun v33 =>
        (ld false 1 v33 H20).bind fun v34 =>
        (binK .plain .add v30 v34).bind fun v35 =>
        some ⟨.normal, put (put (put (put (put (put (put (put (put (put (put (put (put t25 33 (t25 5)) 34 v26) 35 v27) 36 v28) 37 v29) 38 v30) 39 (t25 5)) 40 v31) 41 v32) 42 v33) 43 v34) 44 v35) 7 v35, H20, n + 28⟩)
       ((binK .plain .eql v22 (.int .i64 6)).bind fun v36 =>
        let t38 : Tm := put (put t25 46 v36) 45 v36
        (csel v36
          (some ⟨.normal, t38, H20, n + 17⟩)
          ((binK .plain .eql v22 (.int .i64 7)).bind fun v39 =>
           some ⟨.normal, put (put t38 47 v39) 45 v39, H20, n + 19⟩)
        ).bind fun (o37 : Out) =>
        (csel (o37.t 45)
          ((fieldA 3 (o37.t 8)).bind fun v42 =>
           (ld false 1 v42 o37.H).bind fun v43 =>
           (idxA 1 (o37.t 5) v43).bind fun v44 =>
           (ld false 1 v44 o37.H).bind fun v45 =>
           (binK .plain .add (.int .i64 1) v45).bind fun v46 =>
           some ⟨.normal, put (put (put (put (put (put (put o37.t 48 (o37.t 5)) 49 v42) 50 v43) 51 v44) 52 v45) 53 v46) 7 v46, o37.H, o37.n + 7⟩)
          (some ⟨.normal, o37.t, o37.H, o37.n⟩)
        ).bind fun (o40 : Out) =>
        some ⟨.normal, o40.t, o40.H, o40.n⟩)
     ).bind fun (o24 : Out) =>
     (C 37 [o24.t 7, .int .i64 1000000000] o24.H (o24.n + 6)).bind fun q47 =>
     (bsl (o24.n + 3) 1 1 [.int .i64 0] [(0, 1, q47.1)] q47.2.1).bind fun p48 =>
     (app (o24.n + 4) 1 8 (o24.t 5) p48.1 p48.2).bind fun p49 =>
     (binK .plain .add (o24.t 6) (.int .i64 1)).bind fun v50 =>
     some ⟨.normal, put (put (put (put (put (put (put (put (put o24.t 54 (o24.t 5)) 55 (o24.t 7)) 56 q47.1) 57 p48.1) 58 p49.1) 5 p49.1) 22 (o24.t 6)) 23 v50) 6 v50, p49.2, q47.2.2 + 3⟩)
    (some ⟨(.exit 0), put (put (put t 19 (t 6)) 20 (t 1)) 21 v14, H, n + 3⟩)
noncomputable def S14 (C : Calling) (L : Body → Body) (t : Tm) (H : Hp) (n : Nat) : Option (Value × Hp × Nat) :=
  (vcells (t 0)).bind fun c2 =>
  let H1 := H.set (n) (some (.row c2 0 true))
  (ld true 1 (ptr (n) 0) H1).bind fun v3 =>
  (C 10 [v3] H1 (n + 11)).bind fun q4 =>
  (un .not q4.1).bind fun v5 =>
  let t7 : Tm := put (put (put (put (put (put t 2 (ptr (n) 0)) 4 (.int .i64 0)) 9 v3) 10 q4.1) 11 v5) 12 v5
  (gsel v5 false
    ((ld true 1 (ptr (n) 0) q4.2.1).bind fun v8 =>
     (C 36 [v8, t7 1] q4.2.1 (q4.2.2)).bind fun q9 =>
     (un .not q9.1).bind fun v10 =>
     some (put (put (put (put t7 13 v8) 14 (t7 1)) 15 q9.1) 16 v10, q9.2.1, q9.2.2))
    (some (put (put (put (put t7 13 (.tuple #[])) 14 (.tuple #[])) 15 (.tuple #[])) 16 (.tuple #[]), q4.2.1, q4.2.2))
  ).bind fun (q6 : R3) =>
  (pickV (q6.1 12) (.bool true) (q6.1 16)).bind fun v11 =>
  csel v11
    (some (.int .i64 0, q6.2.1, q6.2.2 + 1))
    ((bsl (q6.2.2) 1 0 [.int .i64 0] [] q6.2.1).bind fun p12 =>
     (L (S14L0 C L) (put (put (put (put q6.1 17 v11) 18 p12.1) 5 p12.1) 6 (.int .i64 0)) p12.2 (q6.2.2 + 3)).bind fun (o13 : Out) =>
     (idxA 1 (o13.t 5) (o13.t 1)).bind fun v51 =>
     (ld false 1 v51 o13.H).bind fun v52 =>
     some (v52, o13.H, o13.n + 5))
theorem s14 (C : Calling) (L : Body → Body) (t : Tm) (H : Hp) (n : Nat) : bodyK Try.prog C L Try.f14 t H n = S14 C L t H n := by kernel_rfl
theorem c14 (args : List Value) (H : Hp) (n : Nat) : Call Try.prog 14 args H n = S14 (Call Try.prog) Loop (argsT args) H n := (Call_body Try.func14 args H n).trans (s14 ..)
/-! 15: impl.SizeOf -/
noncomputable def S15L0 (C : Calling) (L : Body → Body) : Body := fun t H n =>
  (binK .plain .lss (t 22) (t 21)).bind fun v17 =>
  csel v17
    ((idxA 5 (t 20) (t 22)).bind fun v18 =>
     (ld true 5 v18 H).bind fun v19 =>
     let H20 := H.set (n + 3) (some (.row [.int .i64 0, .int .i64 0, .string ⟨#[]⟩, .int .i64 0, .int .i64 0] 0 true))
     (st true 5 (ptr (n + 3) 0) v19 H20).bind fun H21 =>
     (fieldA 0 (ptr (n + 3) 0)).bind fun v22 =>
     (ld false 1 v22 H21).bind fun v23 =>
     (binK .plain .eql v23 (.int .i64 5)).bind fun v24 =>
     let t26 : Tm := put (put (put (put (put (put (put (put (put t 23 v17) 24 v18) 25 v19) 7 (ptr (n + 3) 0)) 8 (.int .i64 1)) 26 v22) 27 v23) 29 v24) 28 v24
     (csel v24
       ((fieldA 3 (ptr (n + 3) 0)).bind fun v27 =>
        (ld false 1 v27 H21).bind fun v28 =>
        (idxA 1 (t26 5) v28).bind fun v29 =>
        (ld false 1 v29 H21).bind fun v30 =>
        (fieldA 4 (ptr (n + 3) 0)).bind fun v31 =>
        (ld false 1 v31 H21).bind fun v32 =>
        (idxA 1 (t26 5) v32).bind fun v33 =>
        (ld false 1 v33 H21).bind fun v34 =>
        (binK .plain .add v30 v34).bind fun v35 =>
        (binK .plain .add (.int .i64 1) v35).bind fun v36 =>
        some ⟨.normal, put (put (put (put (put (put (put (put (put (put (put (put (put (put t26 30 (.int .i64 1)) 31 (t26 5)) 32 v27) 33 v28) 34 v29) 35 v30) 36 (t26 5)) 37 v31) 38 v32) 39 v33) 40 v34) 41 v35) 42 v36) 8 v36, H21, n + 24⟩)
       ((binK .plain .eql v23 (.int .i64 6)).bind fun v37 =>
        let t39 : Tm := put (put t26 44 v37) 43 v37
        (csel v37
          (some ⟨.normal, t39, H21, n + 12⟩)
          ((binK .plain .eql v23 (.int .i64 7)).bind fun v40 =>
           some ⟨.normal, put (put t39 45 v40) 43 v40, H21, n + 14⟩)
        ).bind fun (o38 : Out) =>
        (csel (o38.t 43)
          ((fieldA 3 (o38.t 7)).bind fun v43 =>
           (ld false 1 v43 o38.H).bind fun v44 =>
           (idxA 1 (o38.t 5) v44).bind fun v45 =>
           (ld false 1 v45 o38.H).bind fun v46 =>
           (binK .plain .add (o38.t 8) v46).bind fun v47 =>
           some ⟨.normal, put (put (put (put (put (put (put (put o38.t 46 (o38.t 8)) 47 (o38.t 5)) 48 v43) 49 v44) 50 v45) 51 v46) 52 v47) 8 v47, o38.H, o38.n + 8⟩)
          (some ⟨.normal, o38.t, o38.H, o38.n⟩)
        ).bind fun (o41 : Out) =>
        some ⟨.normal, o41.t, o41.H, o41.n⟩)
     ).bind fun (o25 : Out) =>
     (minV (o25.t 8) (.int .i64 1000000000)).bind fun v48 =>
     (bsl (o25.n + 3) 1 1 [.int .i64 0] [(0, 1, v48)] o25.H).bind fun p49 =>
     (app (o25.n + 4) 1 8 (o25.t 5) p49.1 p49.2).bind fun p50 =>
     (binK .plain .add (o25.t 22) (.int .i64 1)).bind fun v51 =>
     some ⟨.normal, put (put (put (put (put (put (put (put o25.t 53 (o25.t 5)) 54 (o25.t 8)) 55 v48) 56 p49.1) 57 p50.1) 5 p50.1) 58 v51) 22 v51, p50.2, o25.n + 8⟩)
    (some ⟨(.exit 0), put t 23 v17, H, n + 1⟩)
noncomputable def S15 (C : Calling) (L : Body → Body) (t : Tm) (H : Hp) (n : Nat) : Option (Value × Hp × Nat) :=
  (vcells (t 0)).bind fun c2 =>
  let H1 := H.set (n) (some (.row c2 0 true))
  (ld true 1 (ptr (n) 0) H1).bind fun v3 =>
  (C 12 [v3] H1 (n + 11)).bind fun q4 =>
  (un .not q4.1).bind fun v5 =>
  let t7 : Tm := put (put (put (put (put (put t 2 (ptr (n) 0)) 4 (.int .i64 0)) 9 v3) 10 q4.1) 11 v5) 12 v5
  (gsel v5 false
    ((ld true 1 (ptr (n) 0) q4.2.1).bind fun v8 =>
     (C 38 [v8, t7 1] q4.2.1 (q4.2.2)).bind fun q9 =>
     (un .not q9.1).bind fun v10 =>
     some (put (put (put (put t7 13 v8) 14 (t7 1)) 15 q9.1) 16 v10, q9.2.1, q9.2.2))
    (some (put (put (put (put t7 13 (.tuple #[])) 14 (.tuple #[])) 15 (.tuple #[])) 16 (.tuple #[]), q4.2.1, q4.2.2))
  ).bind fun (q6 : R3) =>
  (pickV (q6.1 12) (.bool true) (q6.1 16)).bind fun v11 =>
  csel v11
    (some (.int .i64 0, q6.2.1, q6.2.2 + 1))
    ((bsl (q6.2.2) 1 0 [.int .i64 0] [] q6.2.1).bind fun p12 =>
     (fieldA 0 (q6.1 2)).bind fun v13 =>
     (ld false 1 v13 p12.2).bind fun v14 =>
     (lenV false v14).bind fun v15 =>
     (L (S15L0 C L) (put (put (put (put (put (put (put q6.1 17 v11) 18 p12.1) 5 p12.1) 19 v13) 20 v14) 21 v15) 22 (.int .i64 0)) p12.2 (q6.2.2 + 6)).bind fun (o16 : Out) =>
     (idxA 1 (o16.t 5) (o16.t 1)).bind fun v52 =>
     (ld false 1 v52 o16.H).bind fun v53 =>
     some (v53, o16.H, o16.n + 5))
theorem s15 (C : Calling) (L : Body → Body) (t : Tm) (H : Hp) (n : Nat) : bodyK Try.prog C L Try.f15 t H n = S15 C L t H n := by kernel_rfl
theorem c15 (args : List Value) (H : Hp) (n : Nat) : Call Try.prog 15 args H n = S15 (Call Try.prog) Loop (argsT args) H n := (Call_body Try.func15 args H n).trans (s15 ..)
/-! 16: spec.Same -/
noncomputable def S16 (C : Calling) (L : Body → Body) (t : Tm) (H : Hp) (n : Nat) : Option (Value × Hp × Nat) :=
  (vcells (t 0)).bind fun c2 =>
  let H1 := H.set (n) (some (.row c2 0 true))
  (ld true 1 (ptr (n) 0) H1).bind fun v3 =>
  (C 10 [v3] H1 (n + 17)).bind fun q4 =>
  (un .not q4.1).bind fun v5 =>
  let t7 : Tm := put (put (put (put (put (put t 3 (ptr (n) 0)) 6 (.bool false)) 8 v3) 9 q4.1) 10 v5) 11 v5
  (gsel v5 false
    ((ld true 1 (ptr (n) 0) q4.2.1).bind fun v8 =>
     (C 36 [v8, t7 1] q4.2.1 (q4.2.2)).bind fun q9 =>
     (un .not q9.1).bind fun v10 =>
     some (put (put (put (put t7 12 v8) 13 (t7 1)) 14 q9.1) 15 v10, q9.2.1, q9.2.2))
    (some (put (put (put (put t7 12 (.tuple #[])) 13 (.tuple #[])) 14 (.tuple #[])) 15 (.tuple #[]), q4.2.1, q4.2.2))
  ).bind fun (q6 : R3) =>
  (pickV (q6.1 11) (.bool true) (q6.1 15)).bind fun v11 =>
  let t13 : Tm := put (put q6.1 16 v11) 17 v11
  (gsel v11 false
    ((ld true 1 (t13 3) q6.2.1).bind fun v14 =>
     (C 36 [v14, t13 2] q6.2.1 (q6.2.2)).bind fun q15 =>
     (un .not q15.1).bind fun v16 =>
     some (put (put (put (put t13 18 v14) 19 (t13 2)) 20 q15.1) 21 v16, q15.2.1, q15.2.2))
    (some (put (put (put (put t13 18 (.tuple #[])) 19 (.tuple #[])) 20 (.tuple #[])) 21 (.tuple #[]), q6.2.1, q6.2.2))
  ).bind fun (q12 : R3) =>
  (pickV (q12.1 17) (.bool true) (q12.1 21)).bind fun v17 =>
  csel v17
    (some (.bool false, q12.2.1, q12.2.2 + 1))
    ((ld true 1 (q12.1 3) q12.2.1).bind fun v18 =>
     (C 39 [v18] q12.2.1 (q12.2.2 + 3)).bind fun q19 =>
     (idxA 1 q19.1 (q12.1 1)).bind fun v20 =>
     (ld false 1 v20 q19.2.1).bind fun v21 =>
     (idxA 1 q19.1 (q12.1 2)).bind fun v22 =>
     (ld false 1 v22 q19.2.1).bind fun v23 =>
     (binK .plain .eql v21 v23).bind fun v24 =>
     some (v24, q19.2.1, q19.2.2 + 10))
theorem s16 (C : Calling) (L : Body → Body) (t : Tm) (H : Hp) (n : Nat) : bodyK Try.prog C L Try.f16 t H n = S16 C L t H n := by kernel_rfl
theorem c16 (args : List Value) (H : Hp) (n : Nat) : Call Try.prog 16 args H n = S16 (Call Try.prog) Loop (argsT args) H n := (Call_body Try.func16 args H n).trans (s16 ..)
/-! 17: impl.Same -/
noncomputable def S17 (C : Calling) (L : Body → Body) (t : Tm) (H : Hp) (n : Nat) : Option (Value × Hp × Nat) :=
  (vcells (t 0)).bind fun c2 =>
  let H1 := H.set (n) (some (.row c2 0 true))
  (ld true 1 (ptr (n) 0) H1).bind fun v3 =>
  (C 12 [v3] H1 (n + 17)).bind fun q4 =>
  (un .not q4.1).bind fun v5 =>
  let t7 : Tm := put (put (put (put (put (put t 3 (ptr (n) 0)) 6 (.bool false)) 8 v3) 9 q4.1) 10 v5) 11 v5
  (gsel v5 false
    ((ld true 1 (ptr (n) 0) q4.2.1).bind fun v8 =>
     (C 38 [v8, t7 1] q4.2.1 (q4.2.2)).bind fun q9 =>
     (un .not q9.1).bind fun v10 =>
     some (put (put (put (put t7 12 v8) 13 (t7 1)) 14 q9.1) 15 v10, q9.2.1, q9.2.2))
    (some (put (put (put (put t7 12 (.tuple #[])) 13 (.tuple #[])) 14 (.tuple #[])) 15 (.tuple #[]), q4.2.1, q4.2.2))
  ).bind fun (q6 : R3) =>
  (pickV (q6.1 11) (.bool true) (q6.1 15)).bind fun v11 =>
  let t13 : Tm := put (put q6.1 16 v11) 17 v11
  (gsel v11 false
    ((ld true 1 (t13 3) q6.2.1).bind fun v14 =>
     (C 38 [v14, t13 2] q6.2.1 (q6.2.2)).bind fun q15 =>
     (un .not q15.1).bind fun v16 =>
     some (put (put (put (put t13 18 v14) 19 (t13 2)) 20 q15.1) 21 v16, q15.2.1, q15.2.2))
    (some (put (put (put (put t13 18 (.tuple #[])) 19 (.tuple #[])) 20 (.tuple #[])) 21 (.tuple #[]), q6.2.1, q6.2.2))
  ).bind fun (q12 : R3) =>
  (pickV (q12.1 17) (.bool true) (q12.1 21)).bind fun v17 =>
  csel v17
    (some (.bool false, q12.2.1, q12.2.2 + 1))
    ((ld true 1 (q12.1 3) q12.2.1).bind fun v18 =>
     (C 40 [v18] q12.2.1 (q12.2.2 + 3)).bind fun q19 =>
     (idxA 1 q19.1 (q12.1 1)).bind fun v20 =>
     (ld false 1 v20 q19.2.1).bind fun v21 =>
     (idxA 1 q19.1 (q12.1 2)).bind fun v22 =>
     (ld false 1 v22 q19.2.1).bind fun v23 =>
     (binK .plain .eql v21 v23).bind fun v24 =>
     some (v24, q19.2.1, q19.2.2 + 10))
theorem s17 (C : Calling) (L : Body → Body) (t : Tm) (H : Hp) (n : Nat) : bodyK Try.prog C L Try.f17 t H n = S17 C L t H n := by kernel_rfl
theorem c17 (args : List Value) (H : Hp) (n : Nat) : Call Try.prog 17 args H n = S17 (Call Try.prog) Loop (argsT args) H n := (Call_body Try.func17 args H n).trans (s17 ..)
/-! 18: laws.szCode -/
noncomputable def S18 (C : Calling) (L : Body → Body) (t : Tm) (H : Hp) (n : Nat) : Option (Value × Hp × Nat) :=
  (vcells (t 0)).bind fun c2 =>
  let H1 := H.set (n) (some (.row c2 0 true))
  (fieldA 0 (ptr (n) 0)).bind fun v3 =>
  (ld true 1 v3 H1).bind fun v4 =>
  (C 9 [v4, t 1] H1 (n + 7)).bind fun q5 =>
  (binK .plain .lss q5.1 (.int .i64 0)).bind fun v6 =>
  csel v6
    (some (.int .i64 (-1), q5.2.1, q5.2.2 + 3))
    ((fieldA 1 (ptr (n) 0)).bind fun v7 =>
     (ld false 1 v7 q5.2.1).bind fun v8 =>
     (C 41 [v8, q5.1] q5.2.1 (q5.2.2 + 7)).bind fun q9 =>
     (binK .plain .lss q9.1 (.int .i64 0)).bind fun v10 =>
     csel v10
       (some (.int .i64 (-1), q9.2.1, q9.2.2 + 3))
       ((fieldA 2 (ptr (n) 0)).bind fun v11 =>
        (ld false 1 v11 q9.2.1).bind fun v12 =>
        (C 42 [v12, q9.1] q9.2.1 (q9.2.2 + 7)).bind fun q13 =>
        (binK .plain .lss q13.1 (.int .i64 0)).bind fun v14 =>
        csel v14
          (some (.int .i64 (-1), q13.2.1, q13.2.2 + 3))
          (some (q13.1, q13.2.1, q13.2.2 + 4))))
theorem s18 (C : Calling) (L : Body → Body) (t : Tm) (H : Hp) (n : Nat) : bodyK Try.prog C L Try.f18 t H n = S18 C L t H n := by kernel_rfl
theorem c18 (args : List Value) (H : Hp) (n : Nat) : Call Try.prog 18 args H n = S18 (Call Try.prog) Loop (argsT args) H n := (Call_body Try.func18 args H n).trans (s18 ..)
/-! 19: spec.DefOf -/
noncomputable def S19L0 (C : Calling) (L : Body → Body) : Body := fun t H n =>
  (fieldA 2 (t 2)).bind fun v4 =>
  (ld false 1 v4 H).bind fun v5 =>
  (lenV false v5).bind fun v6 =>
  (binK .plain .lss (t 5) v6).bind fun v7 =>
  csel v7
    ((fieldA 2 (t 2)).bind fun v8 =>
     (ld false 1 v8 H).bind fun v9 =>
     (idxA 3 v9 (t 5)).bind fun v10 =>
     (fieldA 0 v10).bind fun v11 =>
     (ld false 1 v11 H).bind fun v12 =>
     (binK .plain .eql v12 (t 1)).bind fun v13 =>
     csel v13
       (some ⟨.ret, put (put (put (put (put (put (put (put (put (put (put (put (put (put (put t 6 (t 5)) 7 v4) 8 v5) 9 v6) 10 v7) 13 v8) 14 v9) 15 (t 5)) 16 v10) 17 v11) 18 v12) 19 (t 1)) 20 v13) 21 (t 5)) 4 (t 5), H, n + 15⟩)
       ((binK .plain .add (t 5) (.int .i64 1)).bind fun v14 =>
        some ⟨.normal, put (put (put (put (put (put (put (put (put (put (put (put (put (put (put (put t 6 (t 5)) 7 v4) 8 v5) 9 v6) 10 v7) 13 v8) 14 v9) 15 (t 5)) 16 v10) 17 v11) 18 v12) 19 (t 1)) 20 v13) 11 (t 5)) 12 v14) 5 v14, H, n + 16⟩))
    (some ⟨(.exit 0), put (put (put (put (put t 6 (t 5)) 7 v4) 8 v5) 9 v6) 10 v7, H, n + 5⟩)
noncomputable def S19 (C : Calling) (L : Body → Body) (t : Tm) (H : Hp) (n : Nat) : Option (Value × Hp × Nat) :=
  (vcells (t 0)).bind fun c2 =>
  let H1 := H.set (n) (some (.row c2 0 true))
  (L (S19L0 C L) (put (put (put t 2 (ptr (n) 0)) 4 (.int .i64 0)) 5 (.int .i64 0)) H1 (n + 3)).bind fun (o3 : Out) =>
  let o15 := outOf 0 o3
  thenK o15
    (some (.int .i64 (-1), o15.H, o15.n + 1))
    (finE o15.e
       (some (o15.t 4, o15.H, o15.n)))
theorem s19 (C : Calling) (L : Body → Body) (t : Tm) (H : Hp) (n : Nat) : bodyK Try.prog C L Try.f19 t H n = S19 C L t H n := by kernel_rfl
theorem c19 (args : List Value) (H : Hp) (n : Nat) : Call Try.prog 19 args H n = S19 (Call Try.prog) Loop (argsT args) H n := (Call_body Try.func19 args H n).trans (s19 ..)
/-! 20: laws.toCode -/
noncomputable def S20 (C : Calling) (L : Body → Body) (t : Tm) (H : Hp) (n : Nat) : Option (Value × Hp × Nat) :=
  (vcells (t 0)).bind fun c2 =>
  let H1 := H.set (n) (some (.row c2 0 true))
  let H3 := H1.set (n + 1) (some (.row [nilS, nilS, nilS] 0 true))
  let H4 := H3.set (n + 2) (some (.row [nilS, nilS, nilS] 0 true))
  (fieldA 0 (ptr (n) 0)).bind fun v5 =>
  (ld true 1 v5 H4).bind fun v6 =>
  (C 11 [v6] H4 (n + 8)).bind fun q7 =>
  (fieldA 0 (ptr (n + 2) 0)).bind fun v8 =>
  (st true 1 v8 q7.1 q7.2.1).bind fun H9 =>
  (fieldA 1 (ptr (n) 0)).bind fun v10 =>
  (ld false 1 v10 H9).bind fun v11 =>
  (C 43 [v11] H9 (q7.2.2 + 5)).bind fun q12 =>
  (fieldA 1 (ptr (n + 2) 0)).bind fun v13 =>
  (st false 1 v13 q12.1 q12.2.1).bind fun H14 =>
  (fieldA 2 (ptr (n) 0)).bind fun v15 =>
  (ld false 1 v15 H14).bind fun v16 =>
  (C 44 [v16] H14 (q12.2.2 + 5)).bind fun q17 =>
  (fieldA 2 (ptr (n + 2) 0)).bind fun v18 =>
  (st false 1 v18 q17.1 q17.2.1).bind fun H19 =>
  (ld true 3 (ptr (n + 2) 0) H19).bind fun v20 =>
  (st true 3 (ptr (n + 1) 0) v20 H19).bind fun H21 =>
  (ld true 3 (ptr (n + 1) 0) H21).bind fun v22 =>
  some (v22, H21, q17.2.2 + 2)
theorem s20 (C : Calling) (L : Body → Body) (t : Tm) (H : Hp) (n : Nat) : bodyK Try.prog C L Try.f20 t H n = S20 C L t H n := by kernel_rfl
theorem c20 (args : List Value) (H : Hp) (n : Nat) : Call Try.prog 20 args H n = S20 (Call Try.prog) Loop (argsT args) H n := (Call_body Try.func20 args H n).trans (s20 ..)
/-! 21: impl.DefOf -/
noncomputable def S21 (C : Calling) (L : Body → Body) (t : Tm) (H : Hp) (n : Nat) : Option (Value × Hp × Nat) :=
  (vcells (t 0)).bind fun c2 =>
  let H1 := H.set (n) (some (.row c2 0 true))
  (vcells (t 1)).bind fun c4 =>
  let H3 := H1.set (n + 1) (some (.row c4 0 true))
  (fieldA 2 (ptr (n) 0)).bind fun v5 =>
  (ld false 1 v5 H3).bind fun v6 =>
  iteK ([ptr (n + 1) 0].all ptrV) <|
  (C 45 [v6, .func (.func 46) #[] ⟨[ptr (n + 1) 0]⟩] H3 (n + 8)).bind fun q7 =>
  some (q7.1, q7.2.1, q7.2.2)
theorem s21 (C : Calling) (L : Body → Body) (t : Tm) (H : Hp) (n : Nat) : bodyK Try.prog C L Try.f21 t H n = S21 C L t H n := by kernel_rfl
theorem c21 (args : List Value) (H : Hp) (n : Nat) : Call Try.prog 21 args H n = S21 (Call Try.prog) Loop (argsT args) H n := (Call_body Try.func21 args H n).trans (s21 ..)
/-! 22: laws.eqCode -/
noncomputable def S22 (C : Calling) (L : Body → Body) (t : Tm) (H : Hp) (n : Nat) : Option (Value × Hp × Nat) :=
  (vcells (t 0)).bind fun c2 =>
  let H1 := H.set (n) (some (.row c2 0 true))
  (vcells (t 1)).bind fun c4 =>
  let H3 := H1.set (n + 1) (some (.row c4 0 true))
  (fieldA 0 (ptr (n) 0)).bind fun v5 =>
  (ld true 1 v5 H3).bind fun v6 =>
  (fieldA 0 (ptr (n + 1) 0)).bind fun v7 =>
  (ld true 1 v7 H3).bind fun v8 =>
  (C 13 [v6, v8] H3 (n + 9)).bind fun q9 =>
  (un .not q9.1).bind fun v10 =>
  csel v10
    (some (.bool false, q9.2.1, q9.2.2 + 1))
    ((fieldA 1 (ptr (n) 0)).bind fun v11 =>
     (ld false 1 v11 q9.2.1).bind fun v12 =>
     (fieldA 1 (ptr (n + 1) 0)).bind fun v13 =>
     (ld false 1 v13 q9.2.1).bind fun v14 =>
     (C 47 [v12, v14] q9.2.1 (q9.2.2 + 6)).bind fun q15 =>
     (un .not q15.1).bind fun v16 =>
     csel v16
       (some (.bool false, q15.2.1, q15.2.2 + 1))
       ((fieldA 2 (ptr (n) 0)).bind fun v17 =>
        (ld false 1 v17 q15.2.1).bind fun v18 =>
        (fieldA 2 (ptr (n + 1) 0)).bind fun v19 =>
        (ld false 1 v19 q15.2.1).bind fun v20 =>
        (C 48 [v18, v20] q15.2.1 (q15.2.2 + 6)).bind fun q21 =>
        (un .not q21.1).bind fun v22 =>
        csel v22
          (some (.bool false, q21.2.1, q21.2.2 + 1))
          (some (.bool true, q21.2.1, q21.2.2 + 1))))
theorem s22 (C : Calling) (L : Body → Body) (t : Tm) (H : Hp) (n : Nat) : bodyK Try.prog C L Try.f22 t H n = S22 C L t H n := by kernel_rfl
theorem c22 (args : List Value) (H : Hp) (n : Nat) : Call Try.prog 22 args H n = S22 (Call Try.prog) Loop (argsT args) H n := (Call_body Try.func22 args H n).trans (s22 ..)
/-! 23: laws.big -/
noncomputable def S23 (C : Calling) (L : Body → Body) (t : Tm) (H : Hp) (n : Nat) : Option (Value × Hp × Nat) :=
  (lenV false (t 0)).bind fun v1 =>
  (binK .plain .gtr v1 (.int .i64 1048576)).bind fun v2 =>
  some (v2, H, n + 5)
theorem s23 (C : Calling) (L : Body → Body) (t : Tm) (H : Hp) (n : Nat) : bodyK Try.prog C L Try.f23 t H n = S23 C L t H n := by kernel_rfl
theorem c23 (args : List Value) (H : Hp) (n : Nat) : Call Try.prog 23 args H n = S23 (Call Try.prog) Loop (argsT args) H n := (Call_body Try.func23 args H n).trans (s23 ..)
/-! 24: spec.DrawSizeOf -/
noncomputable def S24L0 (C : Calling) (L : Body → Body) : Body := fun t H n =>
  (binK .plain .lss (t 6) (.int .i64 40)).bind fun v14 =>
  csel v14
    ((bld [.int .i64 0, .int .i64 0, .string ⟨#[]⟩, .int .i64 0, .int .i64 0] [(0, 1, .int .i64 5), (3, 1, t 6), (4, 1, t 6)]).bind fun v15 =>
     (C 52 [t 5, v15] H (n + 6)).bind fun q16 =>
     (binK .plain .add (t 6) (.int .i64 1)).bind fun v17 =>
     some ⟨.normal, put (put (put (put (put (put (put (put (put t 16 (t 6)) 17 v14) 20 (t 6)) 21 (t 6)) 22 v15) 23 q16.1) 18 (t 6)) 19 v17) 6 v17, q16.2.1, q16.2.2 + 3⟩)
    (some ⟨(.exit 0), put (put t 16 (t 6)) 17 v14, H, n + 2⟩)
noncomputable def S24 (C : Calling) (L : Body → Body) (t : Tm) (H : Hp) (n : Nat) : Option (Value × Hp × Nat) :=
  let H1 := H.set (n) (some (.row [nilS] 0 true))
  (C 49 [t 0] H1 (n + 5)).bind fun q2 =>
  (C 50 [q2.1] q2.2.1 (q2.2.2 + 4)).bind fun q3 =>
  let H4 := q3.2.1.set (q2.2.2 + 2) (some (.row [nilS] 0 true))
  (st true 1 (ptr (q2.2.2 + 2) 0) q3.1 H4).bind fun H5 =>
  (C 51 [q2.1, .int .i64 12] H5 (q3.2.2 + 2)).bind fun q6 =>
  let t8 : Tm := put (put (put (put (put (put (put (put (put (put t 2 (ptr (n) 0)) 3 (.int .i64 0)) 7 (t 0)) 8 q2.1) 4 q2.1) 9 q2.1) 10 q3.1) 5 (ptr (q2.2.2 + 2) 0)) 11 q2.1) 12 q6.1
  (csel q6.1
    ((bld [.int .i64 0, .int .i64 0, .string ⟨#[]⟩, .int .i64 0, .int .i64 0] [(0, 1, .int .i64 1)]).bind fun v9 =>
     (bsl (q6.2.2 + 1) 5 1 [.int .i64 0, .int .i64 0, .string ⟨#[]⟩, .int .i64 0, .int .i64 0] [(0, 5, v9)] q6.2.1).bind fun p10 =>
     (bld [nilS] [(0, 1, p10.1)]).bind fun v11 =>
     (st true 1 (ptr (q2.2.2 + 2) 0) v11 p10.2).bind fun H12 =>
     (L (S24L0 C L) (put (put (put (put t8 13 v9) 14 p10.1) 15 v11) 6 (.int .i64 0)) H12 (q6.2.2 + 5)).bind fun (o13 : Out) =>
     some ⟨.normal, o13.t, o13.H, o13.n⟩)
    (some ⟨.normal, t8, q6.2.1, q6.2.2⟩)
  ).bind fun (o7 : Out) =>
  (ld true 1 (o7.t 5) o7.H).bind fun v18 =>
  (ld true 1 (o7.t 5) o7.H).bind fun v19 =>
  (C 53 [o7.t 4, v19] o7.H (o7.n + 6)).bind fun q20 =>
  ask (ld true 1 (o7.t 5) q20.2.1 = some v18) <|
  (st true 1 (o7.t 2) v18 q20.2.1).bind fun H21 =>
  (ld true 1 (o7.t 2) H21).bind fun v22 =>
  iteK ([v22, q20.1].all notTup) <|
  some (.tuple ⟨[v22, q20.1]⟩, H21, q20.2.2)
theorem s24 (C : Calling) (L : Body → Body) (t : Tm) (H : Hp) (n : Nat) : bodyK Try.prog C L Try.f24 t H n = S24 C L t H n := by kernel_rfl
theorem c24 (args : List Value) (H : Hp) (n : Nat) : Call Try.prog 24 args H n = S24 (Call Try.prog) Loop (argsT args) H n := (Call_body Try.func24 args H n).trans (s24 ..)
/-! 25: spec.ListOf -/
noncomputable def S25 (C : Calling) (L : Body → Body) (t : Tm) (H : Hp) (n : Nat) : Option (Value × Hp × Nat) :=
  (vcells (t 0)).bind fun c2 =>
  let H1 := H.set (n) (some (.row c2 0 true))
  (ld true 1 (ptr (n) 0) H1).bind fun v3 =>
  (C 10 [v3] H1 (n + 12)).bind fun q4 =>
  (un .not q4.1).bind fun v5 =>
  let t7 : Tm := put (put (put (put (put (put (put t 2 (ptr (n) 0)) 4 nilS) 5 (.bool false)) 6 v3) 7 q4.1) 8 v5) 9 v5
  (gsel v5 false
    ((ld true 1 (ptr (n) 0) q4.2.1).bind fun v8 =>
     (C 36 [v8, t7 1] q4.2.1 (q4.2.2)).bind fun q9 =>
     (un .not q9.1).bind fun v10 =>
     some (put (put (put (put t7 10 v8) 11 (t7 1)) 12 q9.1) 13 v10, q9.2.1, q9.2.2))
    (some (put (put (put (put t7 10 (.tuple #[])) 11 (.tuple #[])) 12 (.tuple #[])) 13 (.tuple #[]), q4.2.1, q4.2.2))
  ).bind fun (q6 : R3) =>
  (pickV (q6.1 9) (.bool true) (q6.1 13)).bind fun v11 =>
  csel v11
    ((bsl (q6.2.2) 1 0 [.int .i64 0] [] q6.2.1).bind fun p12 =>
     iteK ([p12.1, .bool false].all notTup) <|
     some (.tuple ⟨[p12.1, .bool false]⟩, p12.2, q6.2.2 + 3))
    ((ld true 1 (q6.1 2) q6.2.1).bind fun v13 =>
     (C 54 [v13, q6.1 1] q6.2.1 (q6.2.2 + 7)).bind fun q14 =>
     (ext 0 q14.1).bind fun v15 =>
     (ext 1 q14.1).bind fun v16 =>
     iteK ([v15, v16].all notTup) <|
     some (.tuple ⟨[v15, v16]⟩, q14.2.1, q14.2.2))
theorem s25 (C : Calling) (L : Body → Body) (t : Tm) (H : Hp) (n : Nat) : bodyK Try.prog C L Try.f25 t H n = S25 C L t H n := by kernel_rfl
theorem c25 (args : List Value) (H : Hp) (n : Nat) : Call Try.prog 25 args H n = S25 (Call Try.prog) Loop (argsT args) H n := (Call_body Try.func25 args H n).trans (s25 ..)
/-! 26: impl.ListOf -/
noncomputable def S26 (C : Calling) (L : Body → Body) (t : Tm) (H : Hp) (n : Nat) : Option (Value × Hp × Nat) :=
  (vcells (t 0)).bind fun c2 =>
  let H1 := H.set (n) (some (.row c2 0 true))
  (ld true 1 (ptr (n) 0) H1).bind fun v3 =>
  (C 12 [v3] H1 (n + 12)).bind fun q4 =>
  (un .not q4.1).bind fun v5 =>
  let t7 : Tm := put (put (put (put (put (put (put t 2 (ptr (n) 0)) 4 nilS) 5 (.bool false)) 8 v3) 9 q4.1) 10 v5) 11 v5
  (gsel v5 false
    ((ld true 1 (ptr (n) 0) q4.2.1).bind fun v8 =>
     (C 38 [v8, t7 1] q4.2.1 (q4.2.2)).bind fun q9 =>
     (un .not q9.1).bind fun v10 =>
     some (put (put (put (put t7 12 v8) 13 (t7 1)) 14 q9.1) 15 v10, q9.2.1, q9.2.2))
    (some (put (put (put (put t7 12 (.tuple #[])) 13 (.tuple #[])) 14 (.tuple #[])) 15 (.tuple #[]), q4.2.1, q4.2.2))
  ).bind fun (q6 : R3) =>
  (pickV (q6.1 11) (.bool true) (q6.1 15)).bind fun v11 =>
  csel v11
    (iteK ([nilS, .bool false].all notTup) <|
     some (.tuple ⟨[nilS, .bool false]⟩, q6.2.1, q6.2.2 + 2))
    ((C 55 [q6.1 2, q6.1 1] q6.2.1 (q6.2.2 + 7)).bind fun q12 =>
     (ext 0 q12.1).bind fun v13 =>
     (ext 1 q12.1).bind fun v14 =>
     (un .not v14).bind fun v15 =>
     csel v15
       (iteK ([nilS, .bool false].all notTup) <|
        some (.tuple ⟨[nilS, .bool false]⟩, q12.2.1, q12.2.2 + 4))
       (iteK ([v13, .bool true].all notTup) <|
        some (.tuple ⟨[v13, .bool true]⟩, q12.2.1, q12.2.2 + 5)))
theorem s26 (C : Calling) (L : Body → Body) (t : Tm) (H : Hp) (n : Nat) : bodyK Try.prog C L Try.f26 t H n = S26 C L t H n := by kernel_rfl
theorem c26 (args : List Value) (H : Hp) (n : Nat) : Call Try.prog 26 args H n = S26 (Call Try.prog) Loop (argsT args) H n := (Call_body Try.func26 args H n).trans (s26 ..)
/-! 27: laws.eqIntS -/
noncomputable def S27L0 (C : Calling) (L : Body → Body) : Body := fun t H n =>
  (lenV false (t 0)).bind fun v5 =>
  (binK .plain .lss (t 5) v5).bind fun v6 =>
  csel v6
    ((idxA 1 (t 0) (t 5)).bind fun v7 =>
     (ld false 1 v7 H).bind fun v8 =>
     (idxA 1 (t 1) (t 5)).bind fun v9 =>
     (ld false 1 v9 H).bind fun v10 =>
     (binK .plain .neq v8 v10).bind fun v11 =>
     csel v11
       (some ⟨.ret, put (put (put (put (put (put (put (put (put (put (put (put (put (put t 11 (t 5)) 12 (t 0)) 13 v5) 14 v6) 17 (t 0)) 18 (t 5)) 19 v7) 20 v8) 21 (t 1)) 22 (t 5)) 23 v9) 24 v10) 25 v11) 4 (.bool false), H, n + 14⟩)
       ((binK .plain .add (t 5) (.int .i64 1)).bind fun v12 =>
        some ⟨.normal, put (put (put (put (put (put (put (put (put (put (put (put (put (put (put (put t 11 (t 5)) 12 (t 0)) 13 v5) 14 v6) 17 (t 0)) 18 (t 5)) 19 v7) 20 v8) 21 (t 1)) 22 (t 5)) 23 v9) 24 v10) 25 v11) 15 (t 5)) 16 v12) 5 v12, H, n + 16⟩))
    (some ⟨(.exit 0), put (put (put (put t 11 (t 5)) 12 (t 0)) 13 v5) 14 v6, H, n + 4⟩)
noncomputable def S27 (C : Calling) (L : Body → Body) (t : Tm) (H : Hp) (n : Nat) : Option (Value × Hp × Nat) :=
  (lenV false (t 0)).bind fun v1 =>
  (lenV false (t 1)).bind fun v2 =>
  (binK .plain .neq v1 v2).bind fun v3 =>
  csel v3
    (some (.bool false, H, n + 7))
    ((L (S27L0 C L) (put (put (put (put (put (put (put t 4 (.bool false)) 6 (t 0)) 7 v1) 8 (t 1)) 9 v2) 10 v3) 5 (.int .i64 0)) H (n + 7)).bind fun (o4 : Out) =>
     let o13 := outOf 0 o4
     thenK o13
       (some (.bool true, o13.H, o13.n + 1))
       (finE o13.e
          (some (o13.t 4, o13.H, o13.n))))
theorem s27 (C : Calling) (L : Body → Body) (t : Tm) (H : Hp) (n : Nat) : bodyK Try.prog C L Try.f27 t H n = S27 C L t H n := by kernel_rfl
theorem c27 (args : List Value) (H : Hp) (n : Nat) : Call Try.prog 27 args H n = S27 (Call Try.prog) Loop (argsT args) H n := (Call_body Try.func27 args H n).trans (s27 ..)
/-! 28: laws.markPool -/
noncomputable def S28 (C : Calling) (L : Body → Body) (t : Tm) (H : Hp) (n : Nat) : Option (Value × Hp × Nat) :=
  (vcells (t 0)).bind fun c2 =>
  let H1 := H.set (n) (some (.row c2 0 true))
  (fieldA 0 (ptr (n) 0)).bind fun v3 =>
  (ld false 1 v3 H1).bind fun v4 =>
  (C 56 [v4, t 1] H1 (n + 7)).bind fun q5 =>
  some (q5.1, q5.2.1, q5.2.2 + 2)
theorem s28 (C : Calling) (L : Body → Body) (t : Tm) (H : Hp) (n : Nat) : bodyK Try.prog C L Try.f28 t H n = S28 C L t H n := by kernel_rfl
theorem c28 (args : List Value) (H : Hp) (n : Nat) : Call Try.prog 28 args H n = S28 (Call Try.prog) Loop (argsT args) H n := (Call_body Try.func28 args H n).trans (s28 ..)
/-! 29: laws.markIntS -/
noncomputable def S29L0 (C : Calling) (L : Body → Body) : Body := fun t H n =>
  (lenV false (t 0)).bind fun v2 =>
  (binK .plain .lss (t 5) v2).bind fun v3 =>
  csel v3
    ((idxA 1 (t 0) (t 5)).bind fun v4 =>
     (st false 1 v4 (t 1) H).bind fun H5 =>
     (binK .plain .add (t 1) (.int .i64 1)).bind fun v6 =>
     (binK .plain .add (t 5) (.int .i64 1)).bind fun v7 =>
     some ⟨.normal, put (put (put (put (put (put (put (put (put (put (put (put (put (put t 6 (t 5)) 7 (t 0)) 8 v2) 9 v3) 12 (t 0)) 13 (t 5)) 14 (t 1)) 15 v4) 16 (t 1)) 17 v6) 1 v6) 10 (t 5)) 11 v7) 5 v7, H5, n + 15⟩)
    (some ⟨(.exit 0), put (put (put (put t 6 (t 5)) 7 (t 0)) 8 v2) 9 v3, H, n + 4⟩)
noncomputable def S29 (C : Calling) (L : Body → Body) (t : Tm) (H : Hp) (n : Nat) : Option (Value × Hp × Nat) :=
  (L (S29L0 C L) (put (put t 4 (.int .i64 0)) 5 (.int .i64 0)) H (n + 2)).bind fun (o1 : Out) =>
  some (o1.t 1, o1.H, o1.n + 2)
theorem s29 (C : Calling) (L : Body → Body) (t : Tm) (H : Hp) (n : Nat) : bodyK Try.prog C L Try.f29 t H n = S29 C L t H n := by kernel_rfl
theorem c29 (args : List Value) (H : Hp) (n : Nat) : Call Try.prog 29 args H n = S29 (Call Try.prog) Loop (argsT args) H n := (Call_body Try.func29 args H n).trans (s29 ..)
/-! 30: laws.heldIntS -/
noncomputable def S30L0 (C : Calling) (L : Body → Body) : Body := fun t H n =>
  (lenV false (t 0)).bind fun v2 =>
  (binK .plain .lss (t 5) v2).bind fun v3 =>
  csel v3
    ((idxA 1 (t 0) (t 5)).bind fun v4 =>
     (ld false 1 v4 H).bind fun v5 =>
     (binK .plain .neq v5 (t 1)).bind fun v6 =>
     csel v6
       (some ⟨.ret, put (put (put (put (put (put (put (put (put (put (put t 6 (t 5)) 7 (t 0)) 8 v2) 9 v3) 12 (t 0)) 13 (t 5)) 14 v4) 15 v5) 16 (t 1)) 17 v6) 4 (.int .i64 (-1)), H, n + 11⟩)
       ((binK .plain .add (t 1) (.int .i64 1)).bind fun v7 =>
        (binK .plain .add (t 5) (.int .i64 1)).bind fun v8 =>
        some ⟨.normal, put (put (put (put (put (put (put (put (put (put (put (put (put (put (put (put t 6 (t 5)) 7 (t 0)) 8 v2) 9 v3) 12 (t 0)) 13 (t 5)) 14 v4) 15 v5) 16 (t 1)) 17 v6) 18 (t 1)) 19 v7) 1 v7) 10 (t 5)) 11 v8) 5 v8, H, n + 16⟩))
    (some ⟨(.exit 0), put (put (put (put t 6 (t 5)) 7 (t 0)) 8 v2) 9 v3, H, n + 4⟩)
noncomputable def S30 (C : Calling) (L : Body → Body) (t : Tm) (H : Hp) (n : Nat) : Option (Value × Hp × Nat) :=
  (L (S30L0 C L) (put (put t 4 (.int .i64 0)) 5 (.int .i64 0)) H (n + 2)).bind fun (o1 : Out) =>
  let o9 := outOf 0 o1
  thenK o9
    (some (o9.t 1, o9.H, o9.n + 2))
    (finE o9.e
       (some (o9.t 4, o9.H, o9.n)))
theorem s30 (C : Calling) (L : Body → Body) (t : Tm) (H : Hp) (n : Nat) : bodyK Try.prog C L Try.f30 t H n = S30 C L t H n := by kernel_rfl
theorem c30 (args : List Value) (H : Hp) (n : Nat) : Call Try.prog 30 args H n = S30 (Call Try.prog) Loop (argsT args) H n := (Call_body Try.func30 args H n).trans (s30 ..)
/-! 31: laws.szNodeS -/
noncomputable def S31L0 (C : Calling) (L : Body → Body) : Body := fun t H n =>
  (lenV false (t 0)).bind fun v5 =>
  (binK .plain .lss (t 5) v5).bind fun v6 =>
  csel v6
    ((idxA 5 (t 0) (t 5)).bind fun v7 =>
     (ld true 5 v7 H).bind fun v8 =>
     (C 57 [v8, t 1] H (n + 11)).bind fun q9 =>
     (binK .plain .lss q9.1 (.int .i64 0)).bind fun v10 =>
     csel v10
       (some ⟨.ret, put (put (put (put (put (put (put (put (put (put (put (put (put (put t 12 (t 5)) 13 (t 0)) 14 v5) 15 v6) 18 (t 0)) 19 (t 5)) 20 v7) 21 v8) 22 (t 1)) 23 q9.1) 1 q9.1) 24 q9.1) 25 v10) 4 (.int .i64 (-1)), q9.2.1, q9.2.2 + 3⟩)
       ((binK .plain .add (t 5) (.int .i64 1)).bind fun v11 =>
        some ⟨.normal, put (put (put (put (put (put (put (put (put (put (put (put (put (put (put (put t 12 (t 5)) 13 (t 0)) 14 v5) 15 v6) 18 (t 0)) 19 (t 5)) 20 v7) 21 v8) 22 (t 1)) 23 q9.1) 1 q9.1) 24 q9.1) 25 v10) 16 (t 5)) 17 v11) 5 v11, q9.2.1, q9.2.2 + 5⟩))
    (some ⟨(.exit 0), put (put (put (put t 12 (t 5)) 13 (t 0)) 14 v5) 15 v6, H, n + 4⟩)
noncomputable def S31 (C : Calling) (L : Body → Body) (t : Tm) (H : Hp) (n : Nat) : Option (Value × Hp × Nat) :=
  (lenV false (t 0)).bind fun v1 =>
  (binK .plain .sub (t 1) v1).bind fun v2 =>
  (binK .plain .lss v2 (.int .i64 0)).bind fun v3 =>
  csel v3
    (some (.int .i64 (-1), H, n + 9))
    ((L (S31L0 C L) (put (put (put (put (put (put (put (put (put t 4 (.int .i64 0)) 6 (t 1)) 7 (t 0)) 8 v1) 9 v2) 1 v2) 10 v2) 11 v3) 5 (.int .i64 0)) H (n + 9)).bind fun (o4 : Out) =>
     let o12 := outOf 0 o4
     thenK o12
       (some (o12.t 1, o12.H, o12.n + 2))
       (finE o12.e
          (some (o12.t 4, o12.H, o12.n))))
theorem s31 (C : Calling) (L : Body → Body) (t : Tm) (H : Hp) (n : Nat) : bodyK Try.prog C L Try.f31 t H n = S31 C L t H n := by kernel_rfl
theorem c31 (args : List Value) (H : Hp) (n : Nat) : Call Try.prog 31 args H n = S31 (Call Try.prog) Loop (argsT args) H n := (Call_body Try.func31 args H n).trans (s31 ..)
/-! 32: spec.l2Node -/
noncomputable def S32 (C : Calling) (L : Body → Body) (t : Tm) (H : Hp) (n : Nat) : Option (Value × Hp × Nat) :=
  (vcells (t 0)).bind fun c2 =>
  let H1 := H.set (n) (some (.row c2 0 true))
  (fieldA 3 (ptr (n) 0)).bind fun v3 =>
  (ld false 1 v3 H1).bind fun v4 =>
  (binK .plain .sub (t 1) (.int .i64 1)).bind fun v5 =>
  (C 58 [v4, .int .i64 0, v5] H1 (n + 8)).bind fun q6 =>
  (fieldA 4 (ptr (n) 0)).bind fun v7 =>
  (ld false 1 v7 q6.2.1).bind fun v8 =>
  (binK .plain .sub (t 1) (.int .i64 1)).bind fun v9 =>
  (C 58 [v8, .int .i64 0, v9] q6.2.1 (q6.2.2 + 6)).bind fun q10 =>
  (fieldA 0 (ptr (n) 0)).bind fun v11 =>
  (ld false 1 v11 q10.2.1).bind fun v12 =>
  (binK .plain .eql v12 (.int .i64 1)).bind fun v13 =>
  csel v13
    ((ld true 5 (ptr (n) 0) q10.2.1).bind fun v14 =>
     (bld [.int .i64 0, .int .i64 0, .string ⟨#[]⟩, .int .i64 0, .int .i64 0] [(0, 1, .int .i64 1)]).bind fun v15 =>
     (binK (.agg [(0, (.int .i64)), (1, (.int .i64)), (2, .string), (3, (.int .i64)), (4, (.int .i64))]) .eql v14 v15).bind fun v16 =>
     some (v16, q10.2.1, q10.2.2 + 8))
    ((binK .plain .eql v12 (.int .i64 2)).bind fun v17 =>
     csel v17
       ((fieldA 1 (ptr (n) 0)).bind fun v18 =>
        (ld false 1 v18 q10.2.1).bind fun v19 =>
        (C 58 [v19, .int .i64 0, .int .i64 1] q10.2.1 (q10.2.2 + 17)).bind fun q20 =>
        let t22 : Tm := put (put (put (put (put (put (put (put (put (put (put (put (put (put (put (put (put (put (put (put (put (put (put (put t 2 (ptr (n) 0)) 4 (.bool false)) 7 v3) 8 v4) 9 (t 1)) 10 v5) 11 q6.1) 5 q6.1) 12 v7) 13 v8) 14 (t 1)) 15 v9) 16 q10.1) 6 q10.1) 17 v11) 18 v12) 20 v13) 19 v13) 25 v17) 24 v17) 26 v18) 27 v19) 28 q20.1) 29 q20.1
        (gsel q20.1 true
          ((ld true 5 (ptr (n) 0) q20.2.1).bind fun v23 =>
           (fieldA 1 (ptr (n) 0)).bind fun v24 =>
           (ld false 1 v24 q20.2.1).bind fun v25 =>
           (bld [.int .i64 0, .int .i64 0, .string ⟨#[]⟩, .int .i64 0, .int .i64 0] [(0, 1, .int .i64 2), (1, 1, v25)]).bind fun v26 =>
           (binK (.agg [(0, (.int .i64)), (1, (.int .i64)), (2, .string), (3, (.int .i64)), (4, (.int .i64))]) .eql v23 v26).bind fun v27 =>
           some (put (put (put (put (put t22 30 v23) 31 v24) 32 v25) 33 v26) 34 v27, q20.2.1, q20.2.2))
          (some (put (put (put (put (put t22 30 (.tuple #[])) 31 (.tuple #[])) 32 (.tuple #[])) 33 (.tuple #[])) 34 (.tuple #[]), q20.2.1, q20.2.2))
        ).bind fun (q21 : R3) =>
        (pickV (q21.1 29) (q21.1 34) (.bool false)).bind fun v28 =>
        some (v28, q21.2.1, q21.2.2))
       ((binK .plain .eql v12 (.int .i64 3)).bind fun v29 =>
        csel v29
          ((fieldA 1 (ptr (n) 0)).bind fun v30 =>
           (ld false 1 v30 q10.2.1).bind fun v31 =>
           (C 58 [v31, .int .i64 (-1000000000), .int .i64 1000000000] q10.2.1 (q10.2.2 + 19)).bind fun q32 =>
           let t34 : Tm := put (put (put (put (put (put (put (put (put (put (put (put (put (put (put (put (put (put (put (put (put (put (put (put (put (put t 2 (ptr (n) 0)) 4 (.bool false)) 7 v3) 8 v4) 9 (t 1)) 10 v5) 11 q6.1) 5 q6.1) 12 v7) 13 v8) 14 (t 1)) 15 v9) 16 q10.1) 6 q10.1) 17 v11) 18 v12) 20 v13) 19 v13) 25 v17) 24 v17) 37 v29) 36 v29) 38 v30) 39 v31) 40 q32.1) 41 q32.1
           (gsel q32.1 true
             ((ld true 5 (ptr (n) 0) q32.2.1).bind fun v35 =>
              (fieldA 1 (ptr (n) 0)).bind fun v36 =>
              (ld false 1 v36 q32.2.1).bind fun v37 =>
              (bld [.int .i64 0, .int .i64 0, .string ⟨#[]⟩, .int .i64 0, .int .i64 0] [(0, 1, .int .i64 3), (1, 1, v37)]).bind fun v38 =>
              (binK (.agg [(0, (.int .i64)), (1, (.int .i64)), (2, .string), (3, (.int .i64)), (4, (.int .i64))]) .eql v35 v38).bind fun v39 =>
              some (put (put (put (put (put t34 42 v35) 43 v36) 44 v37) 45 v38) 46 v39, q32.2.1, q32.2.2))
             (some (put (put (put (put (put t34 42 (.tuple #[])) 43 (.tuple #[])) 44 (.tuple #[])) 45 (.tuple #[])) 46 (.tuple #[]), q32.2.1, q32.2.2))
           ).bind fun (q33 : R3) =>
           (pickV (q33.1 41) (q33.1 46) (.bool false)).bind fun v40 =>
           some (v40, q33.2.1, q33.2.2))
          ((binK .plain .eql v12 (.int .i64 4)).bind fun v41 =>
           csel v41
             ((fieldA 2 (ptr (n) 0)).bind fun v42 =>
              (ld false 1 v42 q10.2.1).bind fun v43 =>
              (C 59 [v43] q10.2.1 (q10.2.2 + 21)).bind fun q44 =>
              let t46 : Tm := put (put (put (put (put (put (put (put (put (put (put (put (put (put (put (put (put (put (put (put (put (put (put (put (put (put (put (put t 2 (ptr (n) 0)) 4 (.bool false)) 7 v3) 8 v4) 9 (t 1)) 10 v5) 11 q6.1) 5 q6.1) 12 v7) 13 v8) 14 (t 1)) 15 v9) 16 q10.1) 6 q10.1) 17 v11) 18 v12) 20 v13) 19 v13) 25 v17) 24 v17) 37 v29) 36 v29) 49 v41) 48 v41) 50 v42) 51 v43) 52 q44.1) 53 q44.1
              (gsel q44.1 true
                ((ld true 5 (ptr (n) 0) q44.2.1).bind fun v47 =>
                 (fieldA 2 (ptr (n) 0)).bind fun v48 =>
                 (ld false 1 v48 q44.2.1).bind fun v49 =>
                 (bld [.int .i64 0, .int .i64 0, .string ⟨#[]⟩, .int .i64 0, .int .i64 0] [(0, 1, .int .i64 4), (2, 1, v49)]).bind fun v50 =>
                 (binK (.agg [(0, (.int .i64)), (1, (.int .i64)), (2, .string), (3, (.int .i64)), (4, (.int .i64))]) .eql v47 v50).bind fun v51 =>
                 some (put (put (put (put (put t46 54 v47) 55 v48) 56 v49) 57 v50) 58 v51, q44.2.1, q44.2.2))
                (some (put (put (put (put (put t46 54 (.tuple #[])) 55 (.tuple #[])) 56 (.tuple #[])) 57 (.tuple #[])) 58 (.tuple #[]), q44.2.1, q44.2.2))
              ).bind fun (q45 : R3) =>
              (pickV (q45.1 53) (q45.1 58) (.bool false)).bind fun v52 =>
              some (v52, q45.2.1, q45.2.2))
             ((binK .plain .eql v12 (.int .i64 5)).bind fun v53 =>
              csel v53
                ((pickV q6.1 (gsel q6.1 true q10.1 (.tuple #[])) (.bool false)).bind fun v54 =>
                 let t56 : Tm := put (put (put (put (put (put (put (put (put (put (put (put (put (put (put (put (put (put (put (put (put (put (put (put (put (put (put (put (put (put (put t 2 (ptr (n) 0)) 4 (.bool false)) 7 v3) 8 v4) 9 (t 1)) 10 v5) 11 q6.1) 5 q6.1) 12 v7) 13 v8) 14 (t 1)) 15 v9) 16 q10.1) 6 q10.1) 17 v11) 18 v12) 20 v13) 19 v13) 25 v17) 24 v17) 37 v29) 36 v29) 49 v41) 48 v41) 61 v53) 60 v53) 62 q6.1) 63 q6.1) 64 (gsel q6.1 true q10.1 (.tuple #[]))) 65 v54) 66 v54
                 (gsel v54 true
                   ((fieldA 1 (ptr (n) 0)).bind fun v57 =>
                    (ld false 1 v57 q10.2.1).bind fun v58 =>
                    (binK .plain .eql v58 (.int .i64 0)).bind fun v59 =>
                    some (put (put (put t56 67 v57) 68 v58) 69 v59, q10.2.1, q10.2.2 + 27))
                   (some (put (put (put t56 67 (.tuple #[])) 68 (.tuple #[])) 69 (.tuple #[]), q10.2.1, q10.2.2 + 27))
                 ).bind fun (q55 : R3) =>
                 (pickV (q55.1 66) (q55.1 69) (.bool false)).bind fun v60 =>
                 let t62 : Tm := put (put q55.1 70 v60) 71 v60
                 (gsel v60 true
                   ((fieldA 2 (t62 2)).bind fun v63 =>
                    (ld false 1 v63 q55.2.1).bind fun v64 =>
                    (binK .plain .eql v64 (.string ⟨#[]⟩)).bind fun v65 =>
                    some (put (put (put t62 72 v63) 73 v64) 74 v65, q55.2.1, q55.2.2))
                   (some (put (put (put t62 72 (.tuple #[])) 73 (.tuple #[])) 74 (.tuple #[]), q55.2.1, q55.2.2))
                 ).bind fun (q61 : R3) =>
                 (pickV (q61.1 71) (q61.1 74) (.bool false)).bind fun v66 =>
                 some (v66, q61.2.1, q61.2.2))
                ((binK .plain .eql v12 (.int .i64 6)).bind fun v67 =>
                 csel v67
                   (let t69 : Tm := put (put (put (put (put (put (put (put (put (put (put (put (put (put (put (put (put (put (put (put (put (put (put (put (put (put (put (put (put (put t 2 (ptr (n) 0)) 4 (.bool false)) 7 v3) 8 v4) 9 (t 1)) 10 v5) 11 q6.1) 5 q6.1) 12 v7) 13 v8) 14 (t 1)) 15 v9) 16 q10.1) 6 q10.1) 17 v11) 18 v12) 20 v13) 19 v13) 25 v17) 24 v17) 37 v29) 36 v29) 49 v41) 48 v41) 61 v53) 60 v53) 77 v67) 76 v67) 78 q6.1) 79 q6.1
                    (gsel q6.1 true
                      ((fieldA 1 (ptr (n) 0)).bind fun v70 =>
                       (ld false 1 v70 q10.2.1).bind fun v71 =>
                       (C 58 [v71, .int .i64 0, .int .i64 1000000000] q10.2.1 (q10.2.2 + 31)).bind fun q72 =>
                       some (put (put (put t69 80 v70) 81 v71) 82 q72.1, q72.2.1, q72.2.2))
                      (some (put (put (put t69 80 (.tuple #[])) 81 (.tuple #[])) 82 (.tuple #[]), q10.2.1, q10.2.2 + 31))
                    ).bind fun (q68 : R3) =>
                    (pickV (q68.1 79) (q68.1 82) (.bool false)).bind fun v73 =>
                    let t75 : Tm := put (put q68.1 83 v73) 84 v73
                    (gsel v73 true
                      ((fieldA 4 (t75 2)).bind fun v76 =>
                       (ld false 1 v76 q68.2.1).bind fun v77 =>
                       (binK .plain .eql v77 (.int .i64 0)).bind fun v78 =>
                       some (put (put (put t75 85 v76) 86 v77) 87 v78, q68.2.1, q68.2.2))
                      (some (put (put (put t75 85 (.tuple #[])) 86 (.tuple #[])) 87 (.tuple #[]), q68.2.1, q68.2.2))
                    ).bind fun (q74 : R3) =>
                    (pickV (q74.1 84) (q74.1 87) (.bool false)).bind fun v79 =>
                    let t81 : Tm := put (put q74.1 88 v79) 89 v79
                    (gsel v79 true
                      ((fieldA 2 (t81 2)).bind fun v82 =>
                       (ld false 1 v82 q74.2.1).bind fun v83 =>
                       (binK .plain .eql v83 (.string ⟨#[]⟩)).bind fun v84 =>
                       some (put (put (put t81 90 v82) 91 v83) 92 v84, q74.2.1, q74.2.2))
                      (some (put (put (put t81 90 (.tuple #[])) 91 (.tuple #[])) 92 (.tuple #[]), q74.2.1, q74.2.2))
                    ).bind fun (q80 : R3) =>
                    (pickV (q80.1 89) (q80.1 92) (.bool false)).bind fun v85 =>
                    some (v85, q80.2.1, q80.2.2))
                   ((binK .plain .eql v12 (.int .i64 7)).bind fun v86 =>
                    csel v86
                      (let t88 : Tm := put (put (put (put (put (put (put (put (put (put (put (put (put (put (put (put (put (put (put (put (put (put (put (put (put (put (put (put (put (put (put (put t 2 (ptr (n) 0)) 4 (.bool false)) 7 v3) 8 v4) 9 (t 1)) 10 v5) 11 q6.1) 5 q6.1) 12 v7) 13 v8) 14 (t 1)) 15 v9) 16 q10.1) 6 q10.1) 17 v11) 18 v12) 20 v13) 19 v13) 25 v17) 24 v17) 37 v29) 36 v29) 49 v41) 48 v41) 61 v53) 60 v53) 77 v67) 76 v67) 95 v86) 94 v86) 96 q6.1) 97 q6.1
                       (gsel q6.1 true
                         ((fieldA 1 (ptr (n) 0)).bind fun v89 =>
                          (ld false 1 v89 q10.2.1).bind fun v90 =>
                          (binK .plain .eql v90 (.int .i64 0)).bind fun v91 =>
                          some (put (put (put t88 98 v89) 99 v90) 100 v91, q10.2.1, q10.2.2 + 33))
                         (some (put (put (put t88 98 (.tuple #[])) 99 (.tuple #[])) 100 (.tuple #[]), q10.2.1, q10.2.2 + 33))
                       ).bind fun (q87 : R3) =>
                       (pickV (q87.1 97) (q87.1 100) (.bool false)).bind fun v92 =>
                       let t94 : Tm := put (put q87.1 101 v92) 102 v92
                       (gsel v92 true
                         ((fieldA 4 (t94 2)).bind fun v95 =>
                          (ld false 1 v95 q87.2.1).bind fun v96 =>
                          (binK .plain .eql v96 (.int .i64 0)).bind fun v97 =>
                          some (put (put (put t94 103 v95) 104 v96) 105 v97, q87.2.1, q87.2.2))
                         (some (put (put (put t94 103 (.tuple #[])) 104 (.tuple #[])) 105 (.tuple #[]), q87.2.1, q87.2.2))
                       ).bind fun (q93 : R3) =>
                       (pickV (q93.1 102) (q93.1 105) (.bool false)).bind fun v98 =>
                       let t100 : Tm := put (put q93.1 106 v98) 107 v98
                       (gsel v98 true
                         ((fieldA 2 (t100 2)).bind fun v101 =>
                          (ld false 1 v101 q93.2.1).bind fun v102 =>
                          (binK .plain .eql v102 (.string ⟨#[]⟩)).bind fun v103 =>
                          some (put (put (put t100 108 v101) 109 v102) 110 v103, q93.2.1, q93.2.2))
                         (some (put (put (put t100 108 (.tuple #[])) 109 (.tuple #[])) 110 (.tuple #[]), q93.2.1, q93.2.2))
                       ).bind fun (q99 : R3) =>
                       (pickV (q99.1 107) (q99.1 110) (.bool false)).bind fun v104 =>
                       some (v104, q99.2.1, q99.2.2))
                      ((binK .plain .eql v12 (.int .i64 8)).bind fun v105 =>
                       csel v105
                         ((fieldA 1 (ptr (n) 0)).bind fun v106 =>
                          (ld false 1 v106 q10.2.1).bind fun v107 =>
                          (C 58 [v107, .int .i64 0, .int .i64 99] q10.2.1 (q10.2.2 + 29)).bind fun q108 =>
                          let t110 : Tm := put (put (put (put (put (put (put (put (put (put (put (put (put (put (put (put (put (put (put (put (put (put (put (put (put (put (put (put (put (put (put (put (put (put (put (put t 2 (ptr (n) 0)) 4 (.bool false)) 7 v3) 8 v4) 9 (t 1)) 10 v5) 11 q6.1) 5 q6.1) 12 v7) 13 v8) 14 (t 1)) 15 v9) 16 q10.1) 6 q10.1) 17 v11) 18 v12) 20 v13) 19 v13) 25 v17) 24 v17) 37 v29) 36 v29) 49 v41) 48 v41) 61 v53) 60 v53) 77 v67) 76 v67) 95 v86) 94 v86) 113 v105) 112 v105) 114 v106) 115 v107) 116 q108.1) 117 q108.1
                          (gsel q108.1 true
                            ((ld true 5 (ptr (n) 0) q108.2.1).bind fun v111 =>
                             (fieldA 1 (ptr (n) 0)).bind fun v112 =>
                             (ld false 1 v112 q108.2.1).bind fun v113 =>
                             (bld [.int .i64 0, .int .i64 0, .string ⟨#[]⟩, .int .i64 0, .int .i64 0] [(0, 1, .int .i64 8), (1, 1, v113)]).bind fun v114 =>
                             (binK (.agg [(0, (.int .i64)), (1, (.int .i64)), (2, .string), (3, (.int .i64)), (4, (.int .i64))]) .eql v111 v114).bind fun v115 =>
                             some (put (put (put (put (put t110 118 v111) 119 v112) 120 v113) 121 v114) 122 v115, q108.2.1, q108.2.2))
                            (some (put (put (put (put (put t110 118 (.tuple #[])) 119 (.tuple #[])) 120 (.tuple #[])) 121 (.tuple #[])) 122 (.tuple #[]), q108.2.1, q108.2.2))
                          ).bind fun (q109 : R3) =>
                          (pickV (q109.1 117) (q109.1 122) (.bool false)).bind fun v116 =>
                          some (v116, q109.2.1, q109.2.2))
                         ((binK .plain .eql v12 (.int .i64 9)).bind fun v117 =>
                          csel v117
                            ((fieldA 1 (ptr (n) 0)).bind fun v118 =>
                             (ld false 1 v118 q10.2.1).bind fun v119 =>
                             (C 58 [v119, .int .i64 0, .int .i64 1000000000] q10.2.1 (q10.2.2 + 31)).bind fun q120 =>
                             let t122 : Tm := put (put (put (put (put (put (put (put (put (put (put (put (put (put (put (put (put (put (put (put (put (put (put (put (put (put (put (put (put (put (put (put (put (put (put (put (put (put t 2 (ptr (n) 0)) 4 (.bool false)) 7 v3) 8 v4) 9 (t 1)) 10 v5) 11 q6.1) 5 q6.1) 12 v7) 13 v8) 14 (t 1)) 15 v9) 16 q10.1) 6 q10.1) 17 v11) 18 v12) 20 v13) 19 v13) 25 v17) 24 v17) 37 v29) 36 v29) 49 v41) 48 v41) 61 v53) 60 v53) 77 v67) 76 v67) 95 v86) 94 v86) 113 v105) 112 v105) 125 v117) 124 v117) 126 v118) 127 v119) 128 q120.1) 129 q120.1
                             (gsel q120.1 true
                               ((ld true 5 (ptr (n) 0) q120.2.1).bind fun v123 =>
                                (fieldA 1 (ptr (n) 0)).bind fun v124 =>
                                (ld false 1 v124 q120.2.1).bind fun v125 =>
                                (bld [.int .i64 0, .int .i64 0, .string ⟨#[]⟩, .int .i64 0, .int .i64 0] [(0, 1, .int .i64 9), (1, 1, v125)]).bind fun v126 =>
                                (binK (.agg [(0, (.int .i64)), (1, (.int .i64)), (2, .string), (3, (.int .i64)), (4, (.int .i64))]) .eql v123 v126).bind fun v127 =>
                                some (put (put (put (put (put t122 130 v123) 131 v124) 132 v125) 133 v126) 134 v127, q120.2.1, q120.2.2))
                               (some (put (put (put (put (put t122 130 (.tuple #[])) 131 (.tuple #[])) 132 (.tuple #[])) 133 (.tuple #[])) 134 (.tuple #[]), q120.2.1, q120.2.2))
                             ).bind fun (q121 : R3) =>
                             (pickV (q121.1 129) (q121.1 134) (.bool false)).bind fun v128 =>
                             some (v128, q121.2.1, q121.2.2))
                            (some (.bool false, q10.2.1, q10.2.2 + 21))))))))))
theorem s32 (C : Calling) (L : Body → Body) (t : Tm) (H : Hp) (n : Nat) : bodyK Try.prog C L Try.f32 t H n = S32 C L t H n := by kernel_rfl
theorem c32 (args : List Value) (H : Hp) (n : Nat) : Call Try.prog 32 args H n = S32 (Call Try.prog) Loop (argsT args) H n := (Call_body Try.func32 args H n).trans (s32 ..)
end Go.Proofs.Ythpbfeibbjnloaa.Ax
