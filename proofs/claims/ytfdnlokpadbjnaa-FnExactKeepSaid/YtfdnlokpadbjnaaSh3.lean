/- What the bodies of some functions of the program come to in the abstract machine. -/
import Derived.Test.YtfdnlokpadbjnaaProg
import Derived.Test.YtfdnlokpadbjnaaAx3
set_option linter.unusedVariables false
namespace Go.Proofs.Ytfdnlokpadbjnaa.Ax
open Go
set_option maxRecDepth 100000
/-! 93: impl.Pool).moveIn -/
noncomputable def S93L0 (C : Calling) (L : Body → Body) : Body := fun t H n =>
  (binK .plain .lss (t 21) (t 20)).bind fun v13 =>
  csel v13
    (let t15 : Tm := put t 22 v13
     Option.bind
       ((idxA 5 (t15 19) (t15 21)).bind fun v16 =>
        (ld true 5 v16 H).bind fun v17 =>
        let H18 := H.set (n + 4) (some (.row [.int .i64 0, .int .i64 0, .string ⟨#[]⟩, .int .i64 0, .int .i64 0] 0 true))
        (st true 5 (ptr (n + 4) 0) v17 H18).bind fun H19 =>
        (idxA 1 (t15 7) (t15 21)).bind fun v20 =>
        (st false 1 v20 (.int .i64 (-1)) H19).bind fun H21 =>
        (idxA 1 (t15 8) (t15 21)).bind fun v22 =>
        (ld false 1 v22 H21).bind fun v23 =>
        (un .not v23).bind fun v24 =>
        csel v24
          (some ⟨(.exit 1), put (put (put (put (put (put (put (put (put (put (put (put (put t15 23 (t15 21)) 24 v16) 25 v17) 10 (ptr (n + 4) 0)) 9 (t15 21)) 26 (t15 7)) 27 (t15 21)) 28 v20) 29 (t15 8)) 30 (t15 21)) 31 v22) 32 v23) 33 v24, H21, n + 16⟩)
          ((fieldA 0 (ptr (n + 4) 0)).bind fun v25 =>
           (ld false 1 v25 H21).bind fun v26 =>
           (binK .plain .eql v26 (.int .i64 5)).bind fun v27 =>
           let t29 : Tm := put (put (put (put (put (put (put (put (put (put (put (put (put (put (put (put (put t15 23 (t15 21)) 24 v16) 25 v17) 10 (ptr (n + 4) 0)) 9 (t15 21)) 26 (t15 7)) 27 (t15 21)) 28 v20) 29 (t15 8)) 30 (t15 21)) 31 v22) 32 v23) 33 v24) 34 v25) 35 v26) 37 v27) 36 v27
           (csel v27
             ((fieldA 3 (ptr (n + 4) 0)).bind fun v30 =>
              (ld false 1 v30 H21).bind fun v31 =>
              (idxA 1 (t29 7) v31).bind fun v32 =>
              (ld false 1 v32 H21).bind fun v33 =>
              (fieldA 4 (ptr (n + 4) 0)).bind fun v34 =>
              (ld false 1 v34 H21).bind fun v35 =>
              (idxA 1 (t29 7) v35).bind fun v36 =>
              (ld false 1 v36 H21).bind fun v37 =>
              (fieldA 3 (ptr (n + 4) 0)).bind fun v38 =>
              (st false 1 v38 v33 H21).bind fun H39 =>
              ask (ld false 1 v36 H39 = some v37) <|
              (fieldA 4 (ptr (n + 4) 0)).bind fun v40 =>
              (st false 1 v40 v37 H39).bind fun H41 =>
              some ⟨.normal, put (put (put (put (put (put (put (put (put (put (put (put t29 38 (t29 7)) 39 v30) 40 v31) 41 v32) 42 v33) 43 (t29 7)) 44 v34) 45 v35) 46 v36) 47 v37) 48 v38) 49 v40, H41, n + 34⟩)
             ((binK .plain .eql v26 (.int .i64 6)).bind fun v42 =>
              let t44 : Tm := put (put t29 51 v42) 50 v42
              (csel v42
                (some ⟨.normal, t44, H21, n + 22⟩)
                ((binK .plain .eql v26 (.int .i64 7)).bind fun v45 =>
                 some ⟨.normal, put (put t44 52 v45) 50 v45, H21, n + 24⟩)
              ).bind fun (o43 : Out) =>
              (csel (o43.t 50)
                ((fieldA 3 (o43.t 10)).bind fun v48 =>
                 (ld false 1 v48 o43.H).bind fun v49 =>
                 (idxA 1 (o43.t 7) v49).bind fun v50 =>
                 (ld false 1 v50 o43.H).bind fun v51 =>
                 (fieldA 3 (o43.t 10)).bind fun v52 =>
                 (st false 1 v52 v51 o43.H).bind fun H53 =>
                 some ⟨.normal, put (put (put (put (put (put o43.t 53 (o43.t 7)) 54 v48) 55 v49) 56 v50) 57 v51) 58 v52, H53, o43.n + 7⟩)
                (some ⟨.normal, o43.t, o43.H, o43.n⟩)
              ).bind fun (o46 : Out) =>
              some ⟨.normal, o46.t, o46.H, o46.n⟩)
           ).bind fun (o28 : Out) =>
           (ld true 5 (o28.t 10) o28.H).bind fun v54 =>
           (C 83 [o28.t 0, v54] o28.H (o28.n + 7)).bind fun q55 =>
           (idxA 1 (o28.t 7) (o28.t 9)).bind fun v56 =>
           (st false 1 v56 q55.1 q55.2.1).bind fun H57 =>
           some ⟨.normal, put (put (put (put (put (put o28.t 59 (o28.t 7)) 60 (o28.t 9)) 61 (o28.t 0)) 62 v54) 63 q55.1) 64 v56, H57, q55.2.2⟩))
     fun (o14 : Out) =>
     (binK .plain .add (o14.t 21) (.int .i64 1)).bind fun v58 =>
     some ⟨.normal, put (put o14.t 65 v58) 21 v58, o14.H, o14.n + 2⟩)
    (some ⟨(.exit 0), put t 22 v13, H, n + 1⟩)
noncomputable def S93 (C : Calling) (L : Body → Body) (t : Tm) (H : Hp) (n : Nat) : Option (Value × Hp × Nat) :=
  (vcells (t 1)).bind fun c2 =>
  let H1 := H.set (n) (some (.row c2 0 true))
  (fieldA 0 (ptr (n) 0)).bind fun v3 =>
  (ld false 1 v3 H1).bind fun v4 =>
  (lenV false v4).bind fun v5 =>
  (mks (n + 5) 1 8 [.int .i64 0] v5 v5 H1).bind fun p6 =>
  (ld true 1 (ptr (n) 0) p6.2).bind fun v7 =>
  (C 106 [v7, t 2] p6.2 (n + 11)).bind fun q8 =>
  (fieldA 0 (ptr (n) 0)).bind fun v9 =>
  (ld false 1 v9 q8.2.1).bind fun v10 =>
  (lenV false v10).bind fun v11 =>
  (L (S93L0 C L) (put (put (put (put (put (put (put (put (put (put (put (put (put (put (put t 4 (ptr (n) 0)) 6 nilS) 11 v3) 12 v4) 13 v5) 14 p6.1) 7 p6.1) 15 v7) 16 (t 2)) 17 q8.1) 8 q8.1) 18 v9) 19 v10) 20 v11) 21 (.int .i64 0)) q8.2.1 (q8.2.2 + 4)).bind fun (o12 : Out) =>
  some (o12.t 7, o12.H, o12.n + 2)
theorem s93 (C : Calling) (L : Body → Body) (t : Tm) (H : Hp) (n : Nat) : bodyK Try.prog C L Try.f93 t H n = S93 C L t H n := by kernel_rfl
theorem c93 (args : List Value) (H : Hp) (n : Nat) : Call Try.prog 93 args H n = S93 (Call Try.prog) Loop (argsT args) H n := (Call_body Try.func93 args H n).trans (s93 ..)
/-! 94: impl.PutNum -/
noncomputable def S94L0 (C : Calling) (L : Body → Body) : Body := fun t H n =>
  (binK .plain .gtr (t 0) (.int .i64 127)).bind fun v4 =>
  csel v4
    ((binK .plain .rem (t 0) (.int .i64 128)).bind fun v5 =>
     (binK .plain .add v5 (.int .i64 128)).bind fun v6 =>
     (conv (.toInt .u8) (n + 6) v6 H).bind fun p7 =>
     (bsl (n + 7) 1 1 [.int .u8 0] [(0, 1, p7.1)] p7.2).bind fun p8 =>
     (app (n + 8) 1 1 (t 3) p8.1 p8.2).bind fun p9 =>
     (binK .plain .quo (t 0) (.int .i64 128)).bind fun v10 =>
     some ⟨.normal, put (put (put (put (put (put (put (put (put (put (put (put (put t 7 (t 0)) 8 v4) 9 (t 3)) 10 (t 0)) 11 v5) 12 v6) 13 p7.1) 14 p8.1) 15 p9.1) 3 p9.1) 16 (t 0)) 17 v10) 0 v10, p9.2, n + 13⟩)
    (some ⟨(.exit 0), put (put t 7 (t 0)) 8 v4, H, n + 2⟩)
noncomputable def S94 (C : Calling) (L : Body → Body) (t : Tm) (H : Hp) (n : Nat) : Option (Value × Hp × Nat) :=
  (binK .plain .lss (t 0) (.int .i64 0)).bind fun v1 =>
  csel v1
    (some (nilS, H, n + 4))
    ((bsl (n + 3) 1 0 [.int .u8 0] [] H).bind fun p2 =>
     (L (S94L0 C L) (put (put (put (put (put t 2 nilS) 4 (t 0)) 5 v1) 6 p2.1) 3 p2.1) p2.2 (n + 5)).bind fun (o3 : Out) =>
     (conv (.toInt .u8) (o3.n + 2) (o3.t 0) o3.H).bind fun p11 =>
     (bsl (o3.n + 3) 1 1 [.int .u8 0] [(0, 1, p11.1)] p11.2).bind fun p12 =>
     (app (o3.n + 4) 1 1 (o3.t 3) p12.1 p12.2).bind fun p13 =>
     some (p13.1, p13.2, o3.n + 6))
theorem s94 (C : Calling) (L : Body → Body) (t : Tm) (H : Hp) (n : Nat) : bodyK Try.prog C L Try.f94 t H n = S94 C L t H n := by kernel_rfl
theorem c94 (args : List Value) (H : Hp) (n : Nat) : Call Try.prog 94 args H n = S94 (Call Try.prog) Loop (argsT args) H n := (Call_body Try.func94 args H n).trans (s94 ..)
/-! 95: impl.PutText -/
noncomputable def S95 (C : Calling) (L : Body → Body) (t : Tm) (H : Hp) (n : Nat) : Option (Value × Hp × Nat) :=
  (lenV true (t 0)).bind fun v1 =>
  (C 94 [v1] H (n + 7)).bind fun q2 =>
  (app (n + 5) 1 1 q2.1 (t 0) q2.2.1).bind fun p3 =>
  some (p3.1, p3.2, q2.2.2)
theorem s95 (C : Calling) (L : Body → Body) (t : Tm) (H : Hp) (n : Nat) : bodyK Try.prog C L Try.f95 t H n = S95 C L t H n := by kernel_rfl
theorem c95 (args : List Value) (H : Hp) (n : Nat) : Call Try.prog 95 args H n = S95 (Call Try.prog) Loop (argsT args) H n := (Call_body Try.func95 args H n).trans (s95 ..)
/-! 96: laws.eqNode -/
noncomputable def S96 (C : Calling) (L : Body → Body) (t : Tm) (H : Hp) (n : Nat) : Option (Value × Hp × Nat) :=
  (vcells (t 0)).bind fun c2 =>
  let H1 := H.set (n) (some (.row c2 0 true))
  (vcells (t 1)).bind fun c4 =>
  let H3 := H1.set (n + 1) (some (.row c4 0 true))
  (fieldA 0 (ptr (n) 0)).bind fun v5 =>
  (ld false 1 v5 H3).bind fun v6 =>
  (fieldA 0 (ptr (n + 1) 0)).bind fun v7 =>
  (ld false 1 v7 H3).bind fun v8 =>
  (binK .plain .neq v6 v8).bind fun v9 =>
  csel v9
    (some (.bool false, H3, n + 9))
    ((fieldA 1 (ptr (n) 0)).bind fun v10 =>
     (ld false 1 v10 H3).bind fun v11 =>
     (fieldA 1 (ptr (n + 1) 0)).bind fun v12 =>
     (ld false 1 v12 H3).bind fun v13 =>
     (binK .plain .neq v11 v13).bind fun v14 =>
     csel v14
       (some (.bool false, H3, n + 14))
       ((fieldA 2 (ptr (n) 0)).bind fun v15 =>
        (ld false 1 v15 H3).bind fun v16 =>
        (fieldA 2 (ptr (n + 1) 0)).bind fun v17 =>
        (ld false 1 v17 H3).bind fun v18 =>
        (binK .plain .neq v16 v18).bind fun v19 =>
        csel v19
          (some (.bool false, H3, n + 19))
          ((fieldA 3 (ptr (n) 0)).bind fun v20 =>
           (ld false 1 v20 H3).bind fun v21 =>
           (fieldA 3 (ptr (n + 1) 0)).bind fun v22 =>
           (ld false 1 v22 H3).bind fun v23 =>
           (binK .plain .neq v21 v23).bind fun v24 =>
           csel v24
             (some (.bool false, H3, n + 24))
             ((fieldA 4 (ptr (n) 0)).bind fun v25 =>
              (ld false 1 v25 H3).bind fun v26 =>
              (fieldA 4 (ptr (n + 1) 0)).bind fun v27 =>
              (ld false 1 v27 H3).bind fun v28 =>
              (binK .plain .neq v26 v28).bind fun v29 =>
              csel v29
                (some (.bool false, H3, n + 29))
                (some (.bool true, H3, n + 29))))))
theorem s96 (C : Calling) (L : Body → Body) (t : Tm) (H : Hp) (n : Nat) : bodyK Try.prog C L Try.f96 t H n = S96 C L t H n := by kernel_rfl
theorem c96 (args : List Value) (H : Hp) (n : Nat) : Call Try.prog 96 args H n = S96 (Call Try.prog) Loop (argsT args) H n := (Call_body Try.func96 args H n).trans (s96 ..)
/-! 97: impl.writing).text -/
noncomputable def S97 (C : Calling) (L : Body → Body) (t : Tm) (H : Hp) (n : Nat) : Option (Value × Hp × Nat) :=
  (nilchk (t 0)).bind fun v1 =>
  (fieldA 1 v1).bind fun v2 =>
  (ld false 1 v2 H).bind fun v3 =>
  (app (n + 6) 1 1 v3 (t 1) H).bind fun p4 =>
  (nilchk (t 0)).bind fun v5 =>
  (fieldA 1 v5).bind fun v6 =>
  (st false 1 v6 p4.1 p4.2).bind fun H7 =>
  some (.tuple ⟨[]⟩, H7, n + 10)
theorem s97 (C : Calling) (L : Body → Body) (t : Tm) (H : Hp) (n : Nat) : bodyK Try.prog C L Try.f97 t H n = S97 C L t H n := by kernel_rfl
theorem c97 (args : List Value) (H : Hp) (n : Nat) : Call Try.prog 97 args H n = S97 (Call Try.prog) Loop (argsT args) H n := (Call_body Try.func97 args H n).trans (s97 ..)
/-! 98: impl.writing).pairs -/
noncomputable def S98L0 (C : Calling) (L : Body → Body) : Body := fun t H n =>
  (nilchk (t 0)).bind fun v2 =>
  (fieldA 0 v2).bind fun v3 =>
  (fieldA 0 v3).bind fun v4 =>
  (ld false 1 v4 H).bind fun v5 =>
  (idxA 5 v5 (t 1)).bind fun v6 =>
  (fieldA 0 v6).bind fun v7 =>
  (ld false 1 v7 H).bind fun v8 =>
  (binK .plain .eql v8 (.int .i64 5)).bind fun v9 =>
  let t11 : Tm := put (put (put (put (put (put (put (put (put (put (put t 6 (t 0)) 7 v2) 8 v3) 9 v4) 10 v5) 11 (t 1)) 12 v6) 13 v7) 14 v8) 15 v9) 16 v9
  (gsel v9 true
    ((C 67 [t11 0] H (n + 15)).bind fun q12 =>
     (un .not q12.1).bind fun v13 =>
     some (put (put (put t11 17 (t11 0)) 18 q12.1) 19 v13, q12.2.1, q12.2.2))
    (some (put (put (put t11 17 (.tuple #[])) 18 (.tuple #[])) 19 (.tuple #[]), H, n + 15))
  ).bind fun (q10 : R3) =>
  (pickV (q10.1 16) (q10.1 19) (.bool false)).bind fun v14 =>
  csel v14
    ((un .not (q10.1 4)).bind fun v15 =>
     let t17 : Tm := put (put (put q10.1 20 v14) 21 (q10.1 4)) 22 v15
     (csel v15
       ((C 97 [t17 0, .string ⟨#[32]⟩] q10.2.1 (q10.2.2 + 4)).bind fun q18 =>
        some ⟨.normal, put (put t17 23 (t17 0)) 24 q18.1, q18.2.1, q18.2.2⟩)
       (some ⟨.normal, t17, q10.2.1, q10.2.2 + 2⟩)
     ).bind fun (o16 : Out) =>
     (nilchk (o16.t 0)).bind fun v19 =>
     (fieldA 0 v19).bind fun v20 =>
     (fieldA 0 v20).bind fun v21 =>
     (ld false 1 v21 o16.H).bind fun v22 =>
     (idxA 5 v22 (o16.t 1)).bind fun v23 =>
     (fieldA 3 v23).bind fun v24 =>
     (ld false 1 v24 o16.H).bind fun v25 =>
     (C 66 [o16.t 0, v25] o16.H (o16.n + 11)).bind fun q26 =>
     (nilchk (o16.t 0)).bind fun v27 =>
     (fieldA 0 v27).bind fun v28 =>
     (fieldA 0 v28).bind fun v29 =>
     (ld false 1 v29 q26.2.1).bind fun v30 =>
     (idxA 5 v30 (o16.t 1)).bind fun v31 =>
     (fieldA 4 v31).bind fun v32 =>
     (ld false 1 v32 q26.2.1).bind fun v33 =>
     some ⟨.normal, put (put (put (put (put (put (put (put (put (put (put (put (put (put (put (put (put (put (put (put (put (put o16.t 25 (o16.t 0)) 26 (o16.t 0)) 27 v19) 28 v20) 29 v21) 30 v22) 31 (o16.t 1)) 32 v23) 33 v24) 34 v25) 35 q26.1) 36 (o16.t 0)) 37 v27) 38 v28) 39 v29) 40 v30) 41 (o16.t 1)) 42 v31) 43 v32) 44 v33) 1 v33) 4 (.bool false), q26.2.1, q26.2.2 + 11⟩)
    (some ⟨(.exit 0), put q10.1 20 v14, q10.2.1, q10.2.2⟩)
noncomputable def S98 (C : Calling) (L : Body → Body) (t : Tm) (H : Hp) (n : Nat) : Option (Value × Hp × Nat) :=
  (L (S98L0 C L) (put t 4 (.bool true)) H (n + 1)).bind fun (o1 : Out) =>
  (nilchk (o1.t 0)).bind fun v34 =>
  (fieldA 0 v34).bind fun v35 =>
  (fieldA 0 v35).bind fun v36 =>
  (ld false 1 v36 o1.H).bind fun v37 =>
  (idxA 5 v37 (o1.t 1)).bind fun v38 =>
  (fieldA 0 v38).bind fun v39 =>
  (ld false 1 v39 o1.H).bind fun v40 =>
  (binK .plain .neq v40 (.int .i64 1)).bind fun v41 =>
  let t43 : Tm := put (put (put (put (put (put (put (put (put (put (put (put (put o1.t 45 (o1.t 0)) 46 v34) 47 v35) 48 v36) 49 v37) 50 (o1.t 1)) 51 v38) 52 v39) 53 v40) 5 v40) 54 v40) 55 v41) 56 v41
  (gsel v41 true
    ((binK .plain .neq v40 (.int .i64 5)).bind fun v44 =>
     some (put (put t43 57 v40) 58 v44, o1.H, o1.n + 16))
    (some (put (put t43 57 (.tuple #[])) 58 (.tuple #[]), o1.H, o1.n + 16))
  ).bind fun (q42 : R3) =>
  (pickV (q42.1 56) (q42.1 58) (.bool false)).bind fun v45 =>
  let t47 : Tm := put q42.1 59 v45
  (csel v45
    ((C 97 [t47 0, .string ⟨#[32, 46, 32]⟩] q42.2.1 (q42.2.2 + 2)).bind fun q48 =>
     (C 66 [t47 0, t47 1] q48.2.1 (q48.2.2 + 3)).bind fun q49 =>
     some ⟨.normal, put (put (put (put (put t47 60 (t47 0)) 61 q48.1) 62 (t47 0)) 63 (t47 1)) 64 q49.1, q49.2.1, q49.2.2⟩)
    (some ⟨.normal, t47, q42.2.1, q42.2.2⟩)
  ).bind fun (o46 : Out) =>
  some (.tuple ⟨[]⟩, o46.H, o46.n)
theorem s98 (C : Calling) (L : Body → Body) (t : Tm) (H : Hp) (n : Nat) : bodyK Try.prog C L Try.f98 t H n = S98 C L t H n := by kernel_rfl
theorem c98 (args : List Value) (H : Hp) (n : Nat) : Call Try.prog 98 args H n = S98 (Call Try.prog) Loop (argsT args) H n := (Call_body Try.func98 args H n).trans (s98 ..)
/-! 99: impl.decimal -/
noncomputable def S99 (C : Calling) (L : Body → Body) (t : Tm) (H : Hp) (n : Nat) : Option (Value × Hp × Nat) :=
  (binK .plain .lss (t 0) (.int .i64 0)).bind fun v1 =>
  let t3 : Tm := put (put (put (put t 2 (.string ⟨#[]⟩)) 4 (t 0)) 5 v1) 6 v1
  (gsel v1 true
    ((binK .plain .gtr (t3 0) (.int .i64 (-10))).bind fun v4 =>
     some (put (put t3 7 (t3 0)) 8 v4, H, n + 8))
    (some (put (put t3 7 (.tuple #[])) 8 (.tuple #[]), H, n + 8))
  ).bind fun (q2 : R3) =>
  (pickV (q2.1 6) (q2.1 8) (.bool false)).bind fun v5 =>
  csel v5
    ((un .neg (q2.1 0)).bind fun v6 =>
     (C 99 [v6] q2.2.1 (q2.2.2 + 5)).bind fun q7 =>
     (binK .plain .add (.string ⟨#[45]⟩) q7.1).bind fun v8 =>
     some (v8, q7.2.1, q7.2.2))
    ((binK .plain .lss (q2.1 0) (.int .i64 0)).bind fun v9 =>
     csel v9
       ((binK .plain .quo (q2.1 0) (.int .i64 10)).bind fun v10 =>
        (C 99 [v10] q2.2.1 (q2.2.2 + 12)).bind fun q11 =>
        (binK .plain .rem (q2.1 0) (.int .i64 10)).bind fun v12 =>
        (un .neg v12).bind fun v13 =>
        (C 99 [v13] q11.2.1 (q11.2.2)).bind fun q14 =>
        (binK .plain .add q11.1 q14.1).bind fun v15 =>
        some (v15, q14.2.1, q14.2.2))
       ((binK .plain .lss (q2.1 0) (.int .i64 10)).bind fun v16 =>
        csel v16
          ((binK .plain .add (.int .i64 48) (q2.1 0)).bind fun v17 =>
           (conv (.toInt .i32) (q2.2.2 + 8) v17 q2.2.1).bind fun p18 =>
           (conv .intToStr (q2.2.2 + 9) p18.1 p18.2).bind fun p19 =>
           some (p19.1, p19.2, q2.2.2 + 11))
          ((binK .plain .quo (q2.1 0) (.int .i64 10)).bind fun v20 =>
           (C 99 [v20] q2.2.1 (q2.2.2 + 16)).bind fun q21 =>
           (binK .plain .rem (q2.1 0) (.int .i64 10)).bind fun v22 =>
           (binK .plain .add (.int .i64 48) v22).bind fun v23 =>
           (conv (.toInt .i32) (q2.2.2 + 12) v23 q21.2.1).bind fun p24 =>
           (conv .intToStr (q2.2.2 + 13) p24.1 p24.2).bind fun p25 =>
           (binK .plain .add q21.1 p25.1).bind fun v26 =>
           some (v26, p25.2, q21.2.2))))
theorem s99 (C : Calling) (L : Body → Body) (t : Tm) (H : Hp) (n : Nat) : bodyK Try.prog C L Try.f99 t H n = S99 C L t H n := by kernel_rfl
theorem c99 (args : List Value) (H : Hp) (n : Nat) : Call Try.prog 99 args H n = S99 (Call Try.prog) Loop (argsT args) H n := (Call_body Try.func99 args H n).trans (s99 ..)
/-! 100: laws.markText -/
noncomputable def S100L0 (C : Calling) (L : Body → Body) : Body := fun t H n =>
  (binK .plain .gtr (t 0) (.int .i64 0)).bind fun v3 =>
  csel v3
    ((binK .plain .rem (t 0) (.int .i64 10)).bind fun v4 =>
     (binK .plain .add (.int .i64 48) v4).bind fun v5 =>
     (conv (.toInt .u8) (n + 5) v5 H).bind fun p6 =>
     (bsl (n + 6) 1 1 [.int .u8 0] [(0, 1, p6.1)] p6.2).bind fun p7 =>
     (conv .bytesToStr (n + 7) p7.1 p7.2).bind fun p8 =>
     (binK .plain .add p8.1 (t 3)).bind fun v9 =>
     (binK .plain .quo (t 0) (.int .i64 10)).bind fun v10 =>
     some ⟨.normal, put (put (put (put (put (put (put (put (put (put (put (put (put (put t 6 (t 0)) 7 v3) 8 (t 0)) 9 v4) 10 v5) 11 p6.1) 12 p7.1) 13 p8.1) 14 (t 3)) 15 v9) 3 v9) 16 (t 0)) 17 v10) 0 v10, p8.2, n + 14⟩)
    (some ⟨(.exit 0), put (put t 6 (t 0)) 7 v3, H, n + 2⟩)
noncomputable def S100 (C : Calling) (L : Body → Body) (t : Tm) (H : Hp) (n : Nat) : Option (Value × Hp × Nat) :=
  (binK .plain .leq (t 0) (.int .i64 0)).bind fun v1 =>
  csel v1
    (some (.string ⟨#[109, 48]⟩, H, n + 4))
    ((L (S100L0 C L) (put (put (put (put t 2 (.string ⟨#[]⟩)) 4 (t 0)) 5 v1) 3 (.string ⟨#[]⟩)) H (n + 4)).bind fun (o2 : Out) =>
     (binK .plain .add (.string ⟨#[109]⟩) (o2.t 3)).bind fun v11 =>
     some (v11, o2.H, o2.n + 3))
theorem s100 (C : Calling) (L : Body → Body) (t : Tm) (H : Hp) (n : Nat) : bodyK Try.prog C L Try.f100 t H n = S100 C L t H n := by kernel_rfl
theorem c100 (args : List Value) (H : Hp) (n : Nat) : Call Try.prog 100 args H n = S100 (Call Try.prog) Loop (argsT args) H n := (Call_body Try.func100 args H n).trans (s100 ..)
/-! 101: impl.rootsOk$1 -/
noncomputable def S101 (C : Calling) (L : Body → Body) (t : Tm) (H : Hp) (n : Nat) : Option (Value × Hp × Nat) :=
  (ld true 1 (t 1) H).bind fun v1 =>
  (C 46 [v1, t 0] H (n + 6)).bind fun q2 =>
  (un .not q2.1).bind fun v3 =>
  some (v3, q2.2.1, q2.2.2)
theorem s101 (C : Calling) (L : Body → Body) (t : Tm) (H : Hp) (n : Nat) : bodyK Try.prog C L Try.f101 t H n = S101 C L t H n := by kernel_rfl
theorem c101 (args : List Value) (H : Hp) (n : Nat) : Call Try.prog 101 args H n = S101 (Call Try.prog) Loop (argsT args) H n := (Call_body Try.func101 args H n).trans (s101 ..)
/-! 102: impl.NameOk -/
noncomputable def S102L0 (C : Calling) (L : Body → Body) : Body := fun t H n =>
  (binK .plain .lss (t 10) (t 9)).bind fun v6 =>
  csel v6
    ((idxS (t 0) (t 10)).bind fun v7 =>
     (C 107 [v7] H (n + 8)).bind fun q8 =>
     (un .not q8.1).bind fun v9 =>
     csel v9
       (some ⟨.ret, put (put (put (put (put (put (put (put (put t 11 v6) 12 (t 10)) 3 (t 10)) 13 (t 0)) 14 (t 10)) 15 v7) 16 q8.1) 17 v9) 2 (.bool false), q8.2.1, q8.2.2 + 1⟩)
       ((binK .plain .add (t 10) (.int .i64 1)).bind fun v10 =>
        some ⟨.normal, put (put (put (put (put (put (put (put (put (put t 11 v6) 12 (t 10)) 3 (t 10)) 13 (t 0)) 14 (t 10)) 15 v7) 16 q8.1) 17 v9) 18 v10) 10 v10, q8.2.1, q8.2.2 + 2⟩))
    (some ⟨(.exit 0), put t 11 v6, H, n + 1⟩)
noncomputable def S102 (C : Calling) (L : Body → Body) (t : Tm) (H : Hp) (n : Nat) : Option (Value × Hp × Nat) :=
  (lenV true (t 0)).bind fun v1 =>
  (C 82 [v1, .int .i64 1, .int .i64 12] H (n + 5)).bind fun q2 =>
  (un .not q2.1).bind fun v3 =>
  csel v3
    (some (.bool false, q2.2.1, q2.2.2 + 1))
    ((lenV true (t 0)).bind fun v4 =>
     (L (S102L0 C L) (put (put (put (put (put (put (put (put t 2 (.bool false)) 4 (t 0)) 5 v1) 6 q2.1) 7 v3) 8 (t 0)) 9 v4) 10 (.int .i64 0)) q2.2.1 (q2.2.2 + 3)).bind fun (o5 : Out) =>
     let o11 := outOf 0 o5
     thenK o11
       (some (.bool true, o11.H, o11.n + 1))
       (finE o11.e
          (some (o11.t 2, o11.H, o11.n))))
theorem s102 (C : Calling) (L : Body → Body) (t : Tm) (H : Hp) (n : Nat) : bodyK Try.prog C L Try.f102 t H n = S102 C L t H n := by kernel_rfl
theorem c102 (args : List Value) (H : Hp) (n : Nat) : Call Try.prog 102 args H n = S102 (Call Try.prog) Loop (argsT args) H n := (Call_body Try.func102 args H n).trans (s102 ..)
/-! 103: spec.l2DrawNode -/
noncomputable def S103 (C : Calling) (L : Body → Body) (t : Tm) (H : Hp) (n : Nat) : Option (Value × Hp × Nat) :=
  let H1 := H.set (n) (some (.row [.int .i64 0, .int .i64 0, .string ⟨#[]⟩, .int .i64 0, .int .i64 0] 0 true))
  (binK .plain .eql (t 1) (.int .i64 0)).bind fun v2 =>
  let t4 : Tm := put (put (put (put t 4 (ptr (n) 0)) 6 (t 1)) 7 v2) 8 v2
  (gsel v2 false
    ((C 54 [t4 0, .int .i64 2] H1 (n + 7)).bind fun q5 =>
     some (put (put t4 9 (t4 0)) 10 q5.1, q5.2.1, q5.2.2))
    (some (put (put t4 9 (.tuple #[])) 10 (.tuple #[]), H1, n + 7))
  ).bind fun (q3 : R3) =>
  (pickV (q3.1 8) (.bool true) (q3.1 10)).bind fun v6 =>
  csel v6
    ((C 108 [q3.1 0] q3.2.1 (q3.2.2 + 3)).bind fun q7 =>
     (st true 5 (q3.1 4) q7.1 q7.2.1).bind fun H8 =>
     (ld true 5 (q3.1 4) H8).bind fun v9 =>
     some (v9, H8, q7.2.2))
    ((binK .plain .sub (q3.1 1) (.int .i64 1)).bind fun v10 =>
     (C 79 [q3.1 1, .int .i64 5] q3.2.1 (q3.2.2 + 8)).bind fun q11 =>
     (C 41 [q3.1 0, q11.1] q11.2.1 (q11.2.2)).bind fun q12 =>
     (binK .plain .sub v10 q12.1).bind fun v13 =>
     (C 41 [q3.1 0, .int .i64 8] q12.2.1 (q12.2.2 + 2)).bind fun q14 =>
     (binK .plain .eql q14.1 (.int .i64 0)).bind fun v15 =>
     csel v15
       ((C 41 [q3.1 0, .int .i64 9] q14.2.1 (q14.2.2 + 7)).bind fun q16 =>
        (bld [.int .i64 0, .int .i64 0, .string ⟨#[]⟩, .int .i64 0, .int .i64 0] [(0, 1, .int .i64 6), (1, 1, q16.1), (3, 1, v13)]).bind fun v17 =>
        (st true 5 (q3.1 4) v17 q16.2.1).bind fun H18 =>
        (ld true 5 (q3.1 4) H18).bind fun v19 =>
        some (v19, H18, q16.2.2))
       ((binK .plain .eql q14.1 (.int .i64 1)).bind fun v20 =>
        csel v20
          ((bld [.int .i64 0, .int .i64 0, .string ⟨#[]⟩, .int .i64 0, .int .i64 0] [(0, 1, .int .i64 7), (3, 1, v13)]).bind fun v21 =>
           (st true 5 (q3.1 4) v21 q14.2.1).bind fun H22 =>
           (ld true 5 (q3.1 4) H22).bind fun v23 =>
           some (v23, H22, q14.2.2 + 7))
          ((binK .plain .sub (q3.1 1) (.int .i64 1)).bind fun v24 =>
           (C 79 [q3.1 1, .int .i64 4] q14.2.1 (q14.2.2 + 14)).bind fun q25 =>
           (C 41 [q3.1 0, q25.1] q25.2.1 (q25.2.2)).bind fun q26 =>
           (binK .plain .sub v24 q26.1).bind fun v27 =>
           (bld [.int .i64 0, .int .i64 0, .string ⟨#[]⟩, .int .i64 0, .int .i64 0] [(0, 1, .int .i64 5), (3, 1, v13), (4, 1, v27)]).bind fun v28 =>
           (st true 5 (q3.1 4) v28 q26.2.1).bind fun H29 =>
           (ld true 5 (q3.1 4) H29).bind fun v30 =>
           some (v30, H29, q26.2.2))))
theorem s103 (C : Calling) (L : Body → Body) (t : Tm) (H : Hp) (n : Nat) : bodyK Try.prog C L Try.f103 t H n = S103 C L t H n := by kernel_rfl
theorem c103 (args : List Value) (H : Hp) (n : Nat) : Call Try.prog 103 args H n = S103 (Call Try.prog) Loop (argsT args) H n := (Call_body Try.func103 args H n).trans (s103 ..)
/-! 104: spec.l1Pick -/
noncomputable def S104 (C : Calling) (L : Body → Body) (t : Tm) (H : Hp) (n : Nat) : Option (Value × Hp × Nat) :=
  (lenV false (t 1)).bind fun v1 =>
  (C 41 [t 0, v1] H (n + 9)).bind fun q2 =>
  (idxA 1 (t 1) q2.1).bind fun v3 =>
  (ld false 1 v3 q2.2.1).bind fun v4 =>
  some (v4, q2.2.1, q2.2.2)
theorem s104 (C : Calling) (L : Body → Body) (t : Tm) (H : Hp) (n : Nat) : bodyK Try.prog C L Try.f104 t H n = S104 C L t H n := by kernel_rfl
theorem c104 (args : List Value) (H : Hp) (n : Nat) : Call Try.prog 104 args H n = S104 (Call Try.prog) Loop (argsT args) H n := (Call_body Try.func104 args H n).trans (s104 ..)
/-! 105: spec.NameOk -/
noncomputable def S105L0 (C : Calling) (L : Body → Body) : Body := fun t H n =>
  (lenV true (t 0)).bind fun v2 =>
  (binK .plain .lss (t 3) v2).bind fun v3 =>
  csel v3
    ((idxS (t 0) (t 3)).bind fun v4 =>
     (C 109 [v4] H (n + 9)).bind fun q5 =>
     (un .not q5.1).bind fun v6 =>
     csel v6
       (some ⟨.ret, put (put (put (put (put (put (put (put (put (put t 4 (t 3)) 5 (t 0)) 6 v2) 7 v3) 10 (t 0)) 11 (t 3)) 12 v4) 13 q5.1) 14 v6) 2 (.bool false), q5.2.1, q5.2.2 + 1⟩)
       ((binK .plain .add (t 3) (.int .i64 1)).bind fun v7 =>
        some ⟨.normal, put (put (put (put (put (put (put (put (put (put (put (put t 4 (t 3)) 5 (t 0)) 6 v2) 7 v3) 10 (t 0)) 11 (t 3)) 12 v4) 13 q5.1) 14 v6) 8 (t 3)) 9 v7) 3 v7, q5.2.1, q5.2.2 + 3⟩))
    (some ⟨(.exit 0), put (put (put (put t 4 (t 3)) 5 (t 0)) 6 v2) 7 v3, H, n + 4⟩)
noncomputable def S105 (C : Calling) (L : Body → Body) (t : Tm) (H : Hp) (n : Nat) : Option (Value × Hp × Nat) :=
  (L (S105L0 C L) (put (put t 2 (.bool false)) 3 (.int .i64 0)) H (n + 2)).bind fun (o1 : Out) =>
  let o8 := outOf 0 o1
  thenK o8
    ((lenV true (o8.t 0)).bind fun v9 =>
     (C 86 [v9, .int .i64 1, .int .i64 12] o8.H (o8.n + 4)).bind fun q10 =>
     some (q10.1, q10.2.1, q10.2.2))
    (finE o8.e
       (some (o8.t 2, o8.H, o8.n)))
theorem s105 (C : Calling) (L : Body → Body) (t : Tm) (H : Hp) (n : Nat) : bodyK Try.prog C L Try.f105 t H n = S105 C L t H n := by kernel_rfl
theorem c105 (args : List Value) (H : Hp) (n : Nat) : Call Try.prog 105 args H n = S105 (Call Try.prog) Loop (argsT args) H n := (Call_body Try.func105 args H n).trans (s105 ..)
/-! 106: impl.reach -/
noncomputable def S106L1 (C : Calling) (L : Body → Body) : Body := fun t H n =>
  (binK .plain .geq (t 8) (.int .i64 0)).bind fun v20 =>
  csel v20
    (let t22 : Tm := put (put t 28 (t 8)) 29 v20
     Option.bind
       ((idxA 1 (t22 5) (t22 8)).bind fun v23 =>
        (ld false 1 v23 H).bind fun v24 =>
        (un .not v24).bind fun v25 =>
        csel v25
          (some ⟨(.exit 3), put (put (put (put (put t22 32 (t22 5)) 33 (t22 8)) 34 v23) 35 v24) 36 v25, H, n + 7⟩)
          ((fieldA 0 (t22 2)).bind fun v26 =>
           (ld false 1 v26 H).bind fun v27 =>
           (idxA 5 v27 (t22 8)).bind fun v28 =>
           (ld true 5 v28 H).bind fun v29 =>
           let H30 := H.set (n + 12) (some (.row [.int .i64 0, .int .i64 0, .string ⟨#[]⟩, .int .i64 0, .int .i64 0] 0 true))
           (st true 5 (ptr (n + 12) 0) v29 H30).bind fun H31 =>
           (fieldA 0 (ptr (n + 12) 0)).bind fun v32 =>
           (ld false 1 v32 H31).bind fun v33 =>
           (binK .plain .eql v33 (.int .i64 5)).bind fun v34 =>
           let t36 : Tm := put (put (put (put (put (put (put (put (put (put (put (put (put (put (put t22 32 (t22 5)) 33 (t22 8)) 34 v23) 35 v24) 36 v25) 37 v26) 38 v27) 39 (t22 8)) 40 v28) 41 v29) 9 (ptr (n + 12) 0)) 42 v32) 43 v33) 45 v34) 44 v34
           (csel v34
             ((fieldA 3 (ptr (n + 12) 0)).bind fun v37 =>
              (ld false 1 v37 H31).bind fun v38 =>
              (idxA 1 (t36 5) v38).bind fun v39 =>
              (st false 1 v39 (.bool true) H31).bind fun H40 =>
              (fieldA 4 (ptr (n + 12) 0)).bind fun v41 =>
              (ld false 1 v41 H40).bind fun v42 =>
              (idxA 1 (t36 5) v42).bind fun v43 =>
              (st false 1 v43 (.bool true) H40).bind fun H44 =>
              some ⟨.normal, put (put (put (put (put (put (put (put t36 46 (t36 5)) 47 v37) 48 v38) 49 v39) 50 (t36 5)) 51 v41) 52 v42) 53 v43, H44, n + 28⟩)
             ((binK .plain .eql v33 (.int .i64 6)).bind fun v45 =>
              let t47 : Tm := put (put t36 55 v45) 54 v45
              (csel v45
                (some ⟨.normal, t47, H31, n + 20⟩)
                ((binK .plain .eql v33 (.int .i64 7)).bind fun v48 =>
                 some ⟨.normal, put (put t47 56 v48) 54 v48, H31, n + 22⟩)
              ).bind fun (o46 : Out) =>
              (csel (o46.t 54)
                ((fieldA 3 (o46.t 9)).bind fun v51 =>
                 (ld false 1 v51 o46.H).bind fun v52 =>
                 (idxA 1 (o46.t 5) v52).bind fun v53 =>
                 (st false 1 v53 (.bool true) o46.H).bind fun H54 =>
                 some ⟨.normal, put (put (put (put o46.t 57 (o46.t 5)) 58 v51) 59 v52) 60 v53, H54, o46.n + 5⟩)
                (some ⟨.normal, o46.t, o46.H, o46.n⟩)
              ).bind fun (o49 : Out) =>
              some ⟨.normal, o49.t, o49.H, o49.n⟩)
           ).bind fun (o35 : Out) =>
           some ⟨.normal, o35.t, o35.H, o35.n⟩))
     fun (o21 : Out) =>
     (binK .plain .sub (o21.t 8) (.int .i64 1)).bind fun v55 =>
     some ⟨.normal, put (put (put o21.t 30 (o21.t 8)) 31 v55) 8 v55, o21.H, o21.n + 3⟩)
    (some ⟨(.exit 2), put (put t 28 (t 8)) 29 v20, H, n + 2⟩)
noncomputable def S106L0 (C : Calling) (L : Body → Body) : Body := fun t H n =>
  (binK .plain .lss (t 16) (t 15)).bind fun v9 =>
  csel v9
    ((idxA 1 (t 14) (t 16)).bind fun v10 =>
     (ld false 1 v10 H).bind fun v11 =>
     (idxA 1 (t 5) v11).bind fun v12 =>
     (st false 1 v12 (.bool true) H).bind fun H13 =>
     (binK .plain .add (t 16) (.int .i64 1)).bind fun v14 =>
     some ⟨.normal, put (put (put (put (put (put (put (put (put t 17 v9) 18 v10) 19 v11) 7 v11) 20 (t 5)) 21 v11) 22 v12) 23 v14) 16 v14, H13, n + 10⟩)
    (some ⟨(.exit 0), put t 17 v9, H, n + 1⟩)
noncomputable def S106 (C : Calling) (L : Body → Body) (t : Tm) (H : Hp) (n : Nat) : Option (Value × Hp × Nat) :=
  (vcells (t 0)).bind fun c2 =>
  let H1 := H.set (n) (some (.row c2 0 true))
  (fieldA 0 (ptr (n) 0)).bind fun v3 =>
  (ld false 1 v3 H1).bind fun v4 =>
  (lenV false v4).bind fun v5 =>
  (mks (n + 5) 1 1 [.bool false] v5 v5 H1).bind fun p6 =>
  (lenV false (t 1)).bind fun v7 =>
  (L (S106L0 C L) (put (put (put (put (put (put (put (put (put (put t 2 (ptr (n) 0)) 4 nilS) 10 v3) 11 v4) 12 v5) 13 p6.1) 5 p6.1) 14 (t 1)) 15 v7) 16 (.int .i64 0)) p6.2 (n + 10)).bind fun (o8 : Out) =>
  (fieldA 0 (o8.t 2)).bind fun v15 =>
  (ld false 1 v15 o8.H).bind fun v16 =>
  (lenV false v16).bind fun v17 =>
  (binK .plain .sub v17 (.int .i64 1)).bind fun v18 =>
  (L (S106L1 C L) (put (put (put (put (put o8.t 24 v15) 25 v16) 26 v17) 27 v18) 8 v18) o8.H (o8.n + 5)).bind fun (o19 : Out) =>
  some (o19.t 5, o19.H, o19.n + 2)
theorem s106 (C : Calling) (L : Body → Body) (t : Tm) (H : Hp) (n : Nat) : bodyK Try.prog C L Try.f106 t H n = S106 C L t H n := by kernel_rfl
theorem c106 (args : List Value) (H : Hp) (n : Nat) : Call Try.prog 106 args H n = S106 (Call Try.prog) Loop (argsT args) H n := (Call_body Try.func106 args H n).trans (s106 ..)
/-! 107: impl.isNameByte -/
noncomputable def S107 (C : Calling) (L : Body → Body) (t : Tm) (H : Hp) (n : Nat) : Option (Value × Hp × Nat) :=
  (binK .plain .geq (t 0) (.int .u8 97)).bind fun v1 =>
  let t3 : Tm := put (put (put (put t 2 (.bool false)) 3 (t 0)) 4 v1) 5 v1
  (gsel v1 true
    ((binK .plain .leq (t3 0) (.int .u8 122)).bind fun v4 =>
     some (put (put t3 6 (t3 0)) 7 v4, H, n + 14))
    (some (put (put t3 6 (.tuple #[])) 7 (.tuple #[]), H, n + 14))
  ).bind fun (q2 : R3) =>
  (pickV (q2.1 5) (q2.1 7) (.bool false)).bind fun v5 =>
  let t7 : Tm := put (put q2.1 8 v5) 9 v5
  (gsel v5 false
    ((bsl (n + 8) 1 8 [.int .u8 0] [(0, 1, .int .u8 43), (1, 1, .int .u8 45), (2, 1, .int .u8 42), (3, 1, .int .u8 60), (4, 1, .int .u8 61), (5, 1, .int .u8 63), (6, 1, .int .u8 33), (7, 1, .int .u8 47)] q2.2.1).bind fun p8 =>
     (conv .mark (n + 9) p8.1 p8.2).bind fun p9 =>
     (C 110 [p9.1, t7 0] p9.2 (q2.2.2)).bind fun q10 =>
     some (put (put (put (put t7 10 p8.1) 11 p9.1) 12 (t7 0)) 13 q10.1, q10.2.1, q10.2.2))
    (some (put (put (put (put t7 10 (.tuple #[])) 11 (.tuple #[])) 12 (.tuple #[])) 13 (.tuple #[]), q2.2.1, q2.2.2))
  ).bind fun (q6 : R3) =>
  (pickV (q6.1 9) (.bool true) (q6.1 13)).bind fun v11 =>
  some (v11, q6.2.1, q6.2.2)
theorem s107 (C : Calling) (L : Body → Body) (t : Tm) (H : Hp) (n : Nat) : bodyK Try.prog C L Try.f107 t H n = S107 C L t H n := by kernel_rfl
theorem c107 (args : List Value) (H : Hp) (n : Nat) : Call Try.prog 107 args H n = S107 (Call Try.prog) Loop (argsT args) H n := (Call_body Try.func107 args H n).trans (s107 ..)
/-! 108: spec.l2DrawAtom -/
noncomputable def S108 (C : Calling) (L : Body → Body) (t : Tm) (H : Hp) (n : Nat) : Option (Value × Hp × Nat) :=
  let H1 := H.set (n) (some (.row [.int .i64 0, .int .i64 0, .string ⟨#[]⟩, .int .i64 0, .int .i64 0] 0 true))
  (C 41 [t 0, .int .i64 8] H1 (n + 3)).bind fun q2 =>
  (binK .plain .eql q2.1 (.int .i64 0)).bind fun v3 =>
  csel v3
    ((bld [.int .i64 0, .int .i64 0, .string ⟨#[]⟩, .int .i64 0, .int .i64 0] [(0, 1, .int .i64 1)]).bind fun v4 =>
     (st true 5 (ptr (n) 0) v4 q2.2.1).bind fun H5 =>
     (ld true 5 (ptr (n) 0) H5).bind fun v6 =>
     some (v6, H5, q2.2.2 + 4))
    ((binK .plain .eql q2.1 (.int .i64 1)).bind fun v7 =>
     csel v7
       ((C 41 [t 0, .int .i64 2] q2.2.1 (q2.2.2 + 8)).bind fun q8 =>
        (bld [.int .i64 0, .int .i64 0, .string ⟨#[]⟩, .int .i64 0, .int .i64 0] [(0, 1, .int .i64 2), (1, 1, q8.1)]).bind fun v9 =>
        (st true 5 (ptr (n) 0) v9 q8.2.1).bind fun H10 =>
        (ld true 5 (ptr (n) 0) H10).bind fun v11 =>
        some (v11, H10, q8.2.2))
       ((binK .plain .eql q2.1 (.int .i64 2)).bind fun v12 =>
        csel v12
          ((bsl (q2.2.2 + 7) 1 6 [.string ⟨#[]⟩] [(0, 1, .string ⟨#[97]⟩), (1, 1, .string ⟨#[98, 99]⟩), (2, 1, .string ⟨#[120]⟩), (3, 1, .string ⟨#[102]⟩), (4, 1, .string ⟨#[43]⟩), (5, 1, .string ⟨#[108, 105, 115, 116]⟩)] q2.2.1).bind fun p13 =>
           (C 104 [t 0, p13.1] p13.2 (q2.2.2 + 11)).bind fun q14 =>
           (bld [.int .i64 0, .int .i64 0, .string ⟨#[]⟩, .int .i64 0, .int .i64 0] [(0, 1, .int .i64 4), (2, 1, q14.1)]).bind fun v15 =>
           (st true 5 (ptr (n) 0) v15 q14.2.1).bind fun H16 =>
           (ld true 5 (ptr (n) 0) H16).bind fun v17 =>
           some (v17, H16, q14.2.2))
          ((binK .plain .eql q2.1 (.int .i64 3)).bind fun v18 =>
           csel v18
             ((C 41 [t 0, .int .i64 5] q2.2.1 (q2.2.2 + 12)).bind fun q19 =>
              (bld [.int .i64 0, .int .i64 0, .string ⟨#[]⟩, .int .i64 0, .int .i64 0] [(0, 1, .int .i64 9), (1, 1, q19.1)]).bind fun v20 =>
              (st true 5 (ptr (n) 0) v20 q19.2.1).bind fun H21 =>
              (ld true 5 (ptr (n) 0) H21).bind fun v22 =>
              some (v22, H21, q19.2.2))
             ((binK .plain .eql q2.1 (.int .i64 4)).bind fun v23 =>
              csel v23
                ((C 41 [t 0, .int .i64 5] q2.2.1 (q2.2.2 + 14)).bind fun q24 =>
                 (bld [.int .i64 0, .int .i64 0, .string ⟨#[]⟩, .int .i64 0, .int .i64 0] [(0, 1, .int .i64 8), (1, 1, q24.1)]).bind fun v25 =>
                 (st true 5 (ptr (n) 0) v25 q24.2.1).bind fun H26 =>
                 (ld true 5 (ptr (n) 0) H26).bind fun v27 =>
                 some (v27, H26, q24.2.2))
                ((C 41 [t 0, .int .i64 12] q2.2.1 (q2.2.2 + 15)).bind fun q28 =>
                 (binK .plain .sub q28.1 (.int .i64 3)).bind fun v29 =>
                 (bld [.int .i64 0, .int .i64 0, .string ⟨#[]⟩, .int .i64 0, .int .i64 0] [(0, 1, .int .i64 3), (1, 1, v29)]).bind fun v30 =>
                 (st true 5 (ptr (n) 0) v30 q28.2.1).bind fun H31 =>
                 (ld true 5 (ptr (n) 0) H31).bind fun v32 =>
                 some (v32, H31, q28.2.2))))))
theorem s108 (C : Calling) (L : Body → Body) (t : Tm) (H : Hp) (n : Nat) : bodyK Try.prog C L Try.f108 t H n = S108 C L t H n := by kernel_rfl
theorem c108 (args : List Value) (H : Hp) (n : Nat) : Call Try.prog 108 args H n = S108 (Call Try.prog) Loop (argsT args) H n := (Call_body Try.func108 args H n).trans (s108 ..)
/-! 109: spec.l2NameByte -/
noncomputable def S109 (C : Calling) (L : Body → Body) (t : Tm) (H : Hp) (n : Nat) : Option (Value × Hp × Nat) :=
  (binK .plain .geq (t 0) (.int .u8 97)).bind fun v1 =>
  let t3 : Tm := put (put (put (put t 2 (.bool false)) 3 (t 0)) 4 v1) 5 v1
  (gsel v1 true
    ((binK .plain .leq (t3 0) (.int .u8 122)).bind fun v4 =>
     some (put (put t3 6 (t3 0)) 7 v4, H, n + 40))
    (some (put (put t3 6 (.tuple #[])) 7 (.tuple #[]), H, n + 40))
  ).bind fun (q2 : R3) =>
  (pickV (q2.1 5) (q2.1 7) (.bool false)).bind fun v5 =>
  let t7 : Tm := put (put q2.1 8 v5) 9 v5
  (gsel v5 false
    ((binK .plain .eql (t7 0) (.int .u8 43)).bind fun v8 =>
     some (put (put t7 10 (t7 0)) 11 v8, q2.2.1, q2.2.2))
    (some (put (put t7 10 (.tuple #[])) 11 (.tuple #[]), q2.2.1, q2.2.2))
  ).bind fun (q6 : R3) =>
  (pickV (q6.1 9) (.bool true) (q6.1 11)).bind fun v9 =>
  let t11 : Tm := put (put q6.1 12 v9) 13 v9
  (gsel v9 false
    ((binK .plain .eql (t11 0) (.int .u8 45)).bind fun v12 =>
     some (put (put t11 14 (t11 0)) 15 v12, q6.2.1, q6.2.2))
    (some (put (put t11 14 (.tuple #[])) 15 (.tuple #[]), q6.2.1, q6.2.2))
  ).bind fun (q10 : R3) =>
  (pickV (q10.1 13) (.bool true) (q10.1 15)).bind fun v13 =>
  let t15 : Tm := put (put q10.1 16 v13) 17 v13
  (gsel v13 false
    ((binK .plain .eql (t15 0) (.int .u8 42)).bind fun v16 =>
     some (put (put t15 18 (t15 0)) 19 v16, q10.2.1, q10.2.2))
    (some (put (put t15 18 (.tuple #[])) 19 (.tuple #[]), q10.2.1, q10.2.2))
  ).bind fun (q14 : R3) =>
  (pickV (q14.1 17) (.bool true) (q14.1 19)).bind fun v17 =>
  let t19 : Tm := put (put q14.1 20 v17) 21 v17
  (gsel v17 false
    ((binK .plain .eql (t19 0) (.int .u8 60)).bind fun v20 =>
     some (put (put t19 22 (t19 0)) 23 v20, q14.2.1, q14.2.2))
    (some (put (put t19 22 (.tuple #[])) 23 (.tuple #[]), q14.2.1, q14.2.2))
  ).bind fun (q18 : R3) =>
  (pickV (q18.1 21) (.bool true) (q18.1 23)).bind fun v21 =>
  let t23 : Tm := put (put q18.1 24 v21) 25 v21
  (gsel v21 false
    ((binK .plain .eql (t23 0) (.int .u8 61)).bind fun v24 =>
     some (put (put t23 26 (t23 0)) 27 v24, q18.2.1, q18.2.2))
    (some (put (put t23 26 (.tuple #[])) 27 (.tuple #[]), q18.2.1, q18.2.2))
  ).bind fun (q22 : R3) =>
  (pickV (q22.1 25) (.bool true) (q22.1 27)).bind fun v25 =>
  let t27 : Tm := put (put q22.1 28 v25) 29 v25
  (gsel v25 false
    ((binK .plain .eql (t27 0) (.int .u8 63)).bind fun v28 =>
     some (put (put t27 30 (t27 0)) 31 v28, q22.2.1, q22.2.2))
    (some (put (put t27 30 (.tuple #[])) 31 (.tuple #[]), q22.2.1, q22.2.2))
  ).bind fun (q26 : R3) =>
  (pickV (q26.1 29) (.bool true) (q26.1 31)).bind fun v29 =>
  let t31 : Tm := put (put q26.1 32 v29) 33 v29
  (gsel v29 false
    ((binK .plain .eql (t31 0) (.int .u8 33)).bind fun v32 =>
     some (put (put t31 34 (t31 0)) 35 v32, q26.2.1, q26.2.2))
    (some (put (put t31 34 (.tuple #[])) 35 (.tuple #[]), q26.2.1, q26.2.2))
  ).bind fun (q30 : R3) =>
  (pickV (q30.1 33) (.bool true) (q30.1 35)).bind fun v33 =>
  let t35 : Tm := put (put q30.1 36 v33) 37 v33
  (gsel v33 false
    ((binK .plain .eql (t35 0) (.int .u8 47)).bind fun v36 =>
     some (put (put t35 38 (t35 0)) 39 v36, q30.2.1, q30.2.2))
    (some (put (put t35 38 (.tuple #[])) 39 (.tuple #[]), q30.2.1, q30.2.2))
  ).bind fun (q34 : R3) =>
  (pickV (q34.1 37) (.bool true) (q34.1 39)).bind fun v37 =>
  some (v37, q34.2.1, q34.2.2)
theorem s109 (C : Calling) (L : Body → Body) (t : Tm) (H : Hp) (n : Nat) : bodyK Try.prog C L Try.f109 t H n = S109 C L t H n := by kernel_rfl
theorem c109 (args : List Value) (H : Hp) (n : Nat) : Call Try.prog 109 args H n = S109 (Call Try.prog) Loop (argsT args) H n := (Call_body Try.func109 args H n).trans (s109 ..)
/-! 110: slices.Contains[[]byte,byte] -/
noncomputable def S110 (C : Calling) (L : Body → Body) (t : Tm) (H : Hp) (n : Nat) : Option (Value × Hp × Nat) :=
  (C 111 [t 0, t 1] H (n + 6)).bind fun q1 =>
  (binK .plain .geq q1.1 (.int .i64 0)).bind fun v2 =>
  some (v2, q1.2.1, q1.2.2)
theorem s110 (C : Calling) (L : Body → Body) (t : Tm) (H : Hp) (n : Nat) : bodyK Try.prog C L Try.f110 t H n = S110 C L t H n := by kernel_rfl
theorem c110 (args : List Value) (H : Hp) (n : Nat) : Call Try.prog 110 args H n = S110 (Call Try.prog) Loop (argsT args) H n := (Call_body Try.func110 args H n).trans (s110 ..)
/-! 111: slices.Index[[]byte,byte] -/
noncomputable def S111L0 (C : Calling) (L : Body → Body) : Body := fun t H n =>
  (binK .plain .lss (t 8) (t 7)).bind fun v3 =>
  csel v3
    ((idxA 1 (t 0) (t 8)).bind fun v4 =>
     (ld false 1 v4 H).bind fun v5 =>
     (binK .plain .eql (t 1) v5).bind fun v6 =>
     csel v6
       (some ⟨.ret, put (put (put (put (put (put (put (put (put (put (put t 9 v3) 10 (t 8)) 5 (t 8)) 11 (t 1)) 12 (t 0)) 13 (t 8)) 14 v4) 15 v5) 16 v6) 17 (t 8)) 4 (t 8), H, n + 11⟩)
       ((binK .plain .add (t 8) (.int .i64 1)).bind fun v7 =>
        some ⟨.normal, put (put (put (put (put (put (put (put (put (put (put t 9 v3) 10 (t 8)) 5 (t 8)) 11 (t 1)) 12 (t 0)) 13 (t 8)) 14 v4) 15 v5) 16 v6) 18 v7) 8 v7, H, n + 11⟩))
    (some ⟨(.exit 0), put t 9 v3, H, n + 1⟩)
noncomputable def S111 (C : Calling) (L : Body → Body) (t : Tm) (H : Hp) (n : Nat) : Option (Value × Hp × Nat) :=
  (lenV false (t 0)).bind fun v1 =>
  (L (S111L0 C L) (put (put (put (put t 4 (.int .i64 0)) 6 (t 0)) 7 v1) 8 (.int .i64 0)) H (n + 4)).bind fun (o2 : Out) =>
  let o8 := outOf 0 o2
  thenK o8
    (some (.int .i64 (-1), o8.H, o8.n + 1))
    (finE o8.e
       (some (o8.t 4, o8.H, o8.n)))
theorem s111 (C : Calling) (L : Body → Body) (t : Tm) (H : Hp) (n : Nat) : bodyK Try.prog C L Try.f111 t H n = S111 C L t H n := by kernel_rfl
theorem c111 (args : List Value) (H : Hp) (n : Nat) : Call Try.prog 111 args H n = S111 (Call Try.prog) Loop (argsT args) H n := (Call_body Try.func111 args H n).trans (s111 ..)
end Go.Proofs.Ytfdnlokpadbjnaa.Ax
