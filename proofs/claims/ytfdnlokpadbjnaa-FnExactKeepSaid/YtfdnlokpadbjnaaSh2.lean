/- What the bodies of some functions of the program come to in the abstract machine. -/
import Derived.Test.YtfdnlokpadbjnaaProg
import Derived.Test.YtfdnlokpadbjnaaAx3
set_option linter.unusedVariables false
namespace Go.Proofs.Ytfdnlokpadbjnaa.Ax
open Go
set_option maxRecDepth 100000
/-! 63: spec.l2Add -/
noncomputable def S63 (C : Calling) (L : Body → Body) (t : Tm) (H : Hp) (n : Nat) : Option (Value × Hp × Nat) :=
  (vcells (t 1)).bind fun c2 =>
  let H1 := H.set (n) (some (.row c2 0 true))
  (nilchk (t 0)).bind fun v3 =>
  (fieldA 0 v3).bind fun v4 =>
  (ld false 1 v4 H1).bind fun v5 =>
  (ld true 5 (ptr (n) 0) H1).bind fun v6 =>
  (bsl (n + 8) 5 1 [.int .i64 0, .int .i64 0, .string ⟨#[]⟩, .int .i64 0, .int .i64 0] [(0, 5, v6)] H1).bind fun p7 =>
  (app (n + 9) 5 48 v5 p7.1 p7.2).bind fun p8 =>
  (nilchk (t 0)).bind fun v9 =>
  (fieldA 0 v9).bind fun v10 =>
  (st false 1 v10 p8.1 p8.2).bind fun H11 =>
  (nilchk (t 0)).bind fun v12 =>
  (fieldA 0 v12).bind fun v13 =>
  (ld false 1 v13 H11).bind fun v14 =>
  (lenV false v14).bind fun v15 =>
  (binK .plain .sub v15 (.int .i64 1)).bind fun v16 =>
  some (v16, H11, n + 20)
theorem s63 (C : Calling) (L : Body → Body) (t : Tm) (H : Hp) (n : Nat) : bodyK Try.prog C L Try.f63 t H n = S63 C L t H n := by kernel_rfl
theorem c63 (args : List Value) (H : Hp) (n : Nat) : Call Try.prog 63 args H n = S63 (Call Try.prog) Loop (argsT args) H n := (Call_body Try.func63 args H n).trans (s63 ..)
/-! 64: impl.classes -/
noncomputable def S64L0 (C : Calling) (L : Body → Body) : Body := fun t H n =>
  (binK .plain .lss (t 14) (t 13)).bind fun v9 =>
  csel v9
    ((idxA 5 (t 12) (t 14)).bind fun v10 =>
     (ld true 5 v10 H).bind fun v11 =>
     let H12 := H.set (n + 4) (some (.row [.int .i64 0, .int .i64 0, .string ⟨#[]⟩, .int .i64 0, .int .i64 0] 0 true))
     (st true 5 (ptr (n + 4) 0) v11 H12).bind fun H13 =>
     (fieldA 0 (ptr (n + 4) 0)).bind fun v14 =>
     (ld false 1 v14 H13).bind fun v15 =>
     (binK .plain .eql v15 (.int .i64 5)).bind fun v16 =>
     let t18 : Tm := put (put (put (put (put (put (put (put (put (put t 15 v9) 16 (t 14)) 17 v10) 18 v11) 6 (ptr (n + 4) 0)) 5 (t 14)) 19 v14) 20 v15) 22 v16) 21 v16
     (csel v16
       ((fieldA 3 (ptr (n + 4) 0)).bind fun v19 =>
        (ld false 1 v19 H13).bind fun v20 =>
        (idxA 1 (t18 4) v20).bind fun v21 =>
        (ld false 1 v21 H13).bind fun v22 =>
        (fieldA 4 (ptr (n + 4) 0)).bind fun v23 =>
        (ld false 1 v23 H13).bind fun v24 =>
        (idxA 1 (t18 4) v24).bind fun v25 =>
        (ld false 1 v25 H13).bind fun v26 =>
        (fieldA 3 (ptr (n + 4) 0)).bind fun v27 =>
        (st false 1 v27 v22 H13).bind fun H28 =>
        ask (ld false 1 v25 H28 = some v26) <|
        (fieldA 4 (ptr (n + 4) 0)).bind fun v29 =>
        (st false 1 v29 v26 H28).bind fun H30 =>
        some ⟨.normal, put (put (put (put (put (put (put (put (put (put (put (put t18 23 (t18 4)) 24 v19) 25 v20) 26 v21) 27 v22) 28 (t18 4)) 29 v23) 30 v24) 31 v25) 32 v26) 33 v27) 34 v29, H30, n + 25⟩)
       ((binK .plain .eql v15 (.int .i64 6)).bind fun v31 =>
        let t33 : Tm := put (put t18 36 v31) 35 v31
        (csel v31
          (some ⟨.normal, t33, H13, n + 13⟩)
          ((binK .plain .eql v15 (.int .i64 7)).bind fun v34 =>
           some ⟨.normal, put (put t33 37 v34) 35 v34, H13, n + 15⟩)
        ).bind fun (o32 : Out) =>
        (csel (o32.t 35)
          ((fieldA 3 (o32.t 6)).bind fun v37 =>
           (ld false 1 v37 o32.H).bind fun v38 =>
           (idxA 1 (o32.t 4) v38).bind fun v39 =>
           (ld false 1 v39 o32.H).bind fun v40 =>
           (fieldA 3 (o32.t 6)).bind fun v41 =>
           (st false 1 v41 v40 o32.H).bind fun H42 =>
           some ⟨.normal, put (put (put (put (put (put o32.t 38 (o32.t 4)) 39 v37) 40 v38) 41 v39) 42 v40) 43 v41, H42, o32.n + 7⟩)
          (some ⟨.normal, o32.t, o32.H, o32.n⟩)
        ).bind fun (o35 : Out) =>
        some ⟨.normal, o35.t, o35.H, o35.n⟩)
     ).bind fun (o17 : Out) =>
     (ld true 5 (o17.t 6) o17.H).bind fun v43 =>
     (lookV [(0, (.int .i64)), (1, (.int .i64)), (2, .string), (3, (.int .i64)), (4, (.int .i64))] (.int .i64 0) true (o17.t 3) v43 o17.H).bind fun v44 =>
     (ext 0 v44).bind fun v45 =>
     (ext 1 v44).bind fun v46 =>
     (un .not v46).bind fun v47 =>
     let t49 : Tm := put (put (put (put (put (put (put (put (put (put o17.t 45 (o17.t 3)) 46 v43) 47 v44) 44 v44) 48 v45) 49 v46) 7 v45) 8 v46) 50 v46) 51 v47
     (csel v47
       ((ld true 5 (t49 6) o17.H).bind fun v50 =>
        (updV [(0, (.int .i64)), (1, (.int .i64)), (2, .string), (3, (.int .i64)), (4, (.int .i64))] (t49 3) v50 (t49 5) o17.H).bind fun H51 =>
        some ⟨.normal, put (put (put (put (put t49 52 (t49 5)) 7 (t49 5)) 53 (t49 3)) 54 v50) 55 (t49 5), H51, o17.n + 16⟩)
       (some ⟨.normal, t49, o17.H, o17.n + 10⟩)
     ).bind fun (o48 : Out) =>
     (bsl (o48.n + 2) 1 1 [.int .i64 0] [(0, 1, o48.t 7)] o48.H).bind fun p52 =>
     (app (o48.n + 3) 1 8 (o48.t 4) p52.1 p52.2).bind fun p53 =>
     (binK .plain .add (o48.t 14) (.int .i64 1)).bind fun v54 =>
     some ⟨.normal, put (put (put (put (put (put (put o48.t 56 (o48.t 4)) 57 (o48.t 7)) 58 p52.1) 59 p53.1) 4 p53.1) 60 v54) 14 v54, p53.2, o48.n + 7⟩)
    (some ⟨(.exit 0), put t 15 v9, H, n + 1⟩)
noncomputable def S64 (C : Calling) (L : Body → Body) (t : Tm) (H : Hp) (n : Nat) : Option (Value × Hp × Nat) :=
  (vcells (t 0)).bind fun c2 =>
  let H1 := H.set (n) (some (.row c2 0 true))
  let H3 := H1.set (n + 2) (some (.map []))
  (bsl (n + 4) 1 0 [.int .i64 0] [] H3).bind fun p4 =>
  (fieldA 0 (ptr (n) 0)).bind fun v5 =>
  (ld false 1 v5 p4.2).bind fun v6 =>
  (lenV false v6).bind fun v7 =>
  (L (S64L0 C L) (put (put (put (put (put (put (put (put (put (put t 1 (ptr (n) 0)) 2 nilS) 9 (.map (some (n + 2)))) 3 (.map (some (n + 2)))) 10 p4.1) 4 p4.1) 11 v5) 12 v6) 13 v7) 14 (.int .i64 0)) p4.2 (n + 10)).bind fun (o8 : Out) =>
  some (o8.t 4, o8.H, o8.n + 2)
theorem s64 (C : Calling) (L : Body → Body) (t : Tm) (H : Hp) (n : Nat) : bodyK Try.prog C L Try.f64 t H n = S64 C L t H n := by kernel_rfl
theorem c64 (args : List Value) (H : Hp) (n : Nat) : Call Try.prog 64 args H n = S64 (Call Try.prog) Loop (argsT args) H n := (Call_body Try.func64 args H n).trans (s64 ..)
/-! 65: spec.l2Classes -/
noncomputable def S65L1 (C : Calling) (L : Body → Body) : Body := fun t H n =>
  (binK .plain .lss (t 8) (t 5)).bind fun v46 =>
  csel v46
    ((idxA 5 (t 4) (t 8)).bind fun v47 =>
     (ld true 5 v47 H).bind fun v48 =>
     (ld true 5 (t 6) H).bind fun v49 =>
     (binK (.agg [(0, (.int .i64)), (1, (.int .i64)), (2, .string), (3, (.int .i64)), (4, (.int .i64))]) .eql v48 v49).bind fun v50 =>
     csel v50
       (some ⟨(.exit 3), put (put (put (put (put (put (put (put (put (put (put t 49 (t 8)) 50 (t 5)) 51 v46) 54 (t 4)) 55 (t 8)) 56 v47) 57 v48) 58 v49) 59 v50) 60 (t 8)) 7 (t 8), H, n + 11⟩)
       ((binK .plain .add (t 8) (.int .i64 1)).bind fun v51 =>
        some ⟨.normal, put (put (put (put (put (put (put (put (put (put (put (put t 49 (t 8)) 50 (t 5)) 51 v46) 54 (t 4)) 55 (t 8)) 56 v47) 57 v48) 58 v49) 59 v50) 52 (t 8)) 53 v51) 8 v51, H, n + 12⟩))
    (some ⟨(.exit 3), put (put (put t 49 (t 8)) 50 (t 5)) 51 v46, H, n + 3⟩)
noncomputable def S65L0 (C : Calling) (L : Body → Body) : Body := fun t H n =>
  (fieldA 0 (t 1)).bind fun v6 =>
  (ld false 1 v6 H).bind fun v7 =>
  (lenV false v7).bind fun v8 =>
  (binK .plain .lss (t 5) v8).bind fun v9 =>
  csel v9
    ((fieldA 0 (t 1)).bind fun v10 =>
     (ld false 1 v10 H).bind fun v11 =>
     (idxA 5 v11 (t 5)).bind fun v12 =>
     (ld true 5 v12 H).bind fun v13 =>
     let H14 := H.set (n + 10) (some (.row [.int .i64 0, .int .i64 0, .string ⟨#[]⟩, .int .i64 0, .int .i64 0] 0 true))
     (st true 5 (ptr (n + 10) 0) v13 H14).bind fun H15 =>
     (fieldA 0 (ptr (n + 10) 0)).bind fun v16 =>
     (ld false 1 v16 H15).bind fun v17 =>
     (binK .plain .eql v17 (.int .i64 5)).bind fun v18 =>
     let t20 : Tm := put (put (put (put (put (put (put (put (put (put (put (put (put (put (put t 11 (t 5)) 12 v6) 13 v7) 14 v8) 15 v9) 18 v10) 19 v11) 20 (t 5)) 21 v12) 22 v13) 6 (ptr (n + 10) 0)) 23 v16) 24 v17) 26 v18) 25 v18
     (csel v18
       ((fieldA 3 (ptr (n + 10) 0)).bind fun v21 =>
        (ld false 1 v21 H15).bind fun v22 =>
        (idxA 1 (t20 3) v22).bind fun v23 =>
        (ld false 1 v23 H15).bind fun v24 =>
        (fieldA 3 (ptr (n + 10) 0)).bind fun v25 =>
        (st false 1 v25 v24 H15).bind fun H26 =>
        (fieldA 4 (ptr (n + 10) 0)).bind fun v27 =>
        (ld false 1 v27 H26).bind fun v28 =>
        (idxA 1 (t20 3) v28).bind fun v29 =>
        (ld false 1 v29 H26).bind fun v30 =>
        (fieldA 4 (ptr (n + 10) 0)).bind fun v31 =>
        (st false 1 v31 v30 H26).bind fun H32 =>
        some ⟨.normal, put (put (put (put (put (put (put (put (put (put (put (put t20 27 (t20 3)) 28 v21) 29 v22) 30 v23) 31 v24) 32 v25) 33 (t20 3)) 34 v27) 35 v28) 36 v29) 37 v30) 38 v31, H32, n + 30⟩)
       ((binK .plain .eql v17 (.int .i64 6)).bind fun v33 =>
        let t35 : Tm := put (put t20 40 v33) 39 v33
        (csel v33
          (some ⟨.normal, t35, H15, n + 18⟩)
          ((binK .plain .eql v17 (.int .i64 7)).bind fun v36 =>
           some ⟨.normal, put (put t35 41 v36) 39 v36, H15, n + 20⟩)
        ).bind fun (o34 : Out) =>
        (csel (o34.t 39)
          ((fieldA 3 (o34.t 6)).bind fun v39 =>
           (ld false 1 v39 o34.H).bind fun v40 =>
           (idxA 1 (o34.t 3) v40).bind fun v41 =>
           (ld false 1 v41 o34.H).bind fun v42 =>
           (fieldA 3 (o34.t 6)).bind fun v43 =>
           (st false 1 v43 v42 o34.H).bind fun H44 =>
           some ⟨.normal, put (put (put (put (put (put o34.t 42 (o34.t 3)) 43 v39) 44 v40) 45 v41) 46 v42) 47 v43, H44, o34.n + 7⟩)
          (some ⟨.normal, o34.t, o34.H, o34.n⟩)
        ).bind fun (o37 : Out) =>
        some ⟨.normal, o37.t, o37.H, o37.n⟩)
     ).bind fun (o19 : Out) =>
     (L (S65L1 C L) (put (put (put o19.t 48 (o19.t 5)) 7 (o19.t 5)) 8 (.int .i64 0)) o19.H (o19.n + 3)).bind fun (o45 : Out) =>
     (ld true 5 (o45.t 6) o45.H).bind fun v52 =>
     (bsl (o45.n + 2) 5 1 [.int .i64 0, .int .i64 0, .string ⟨#[]⟩, .int .i64 0, .int .i64 0] [(0, 5, v52)] o45.H).bind fun p53 =>
     (app (o45.n + 3) 5 48 (o45.t 4) p53.1 p53.2).bind fun p54 =>
     (bsl (o45.n + 7) 1 1 [.int .i64 0] [(0, 1, o45.t 7)] p54.2).bind fun p55 =>
     (app (o45.n + 8) 1 8 (o45.t 3) p55.1 p55.2).bind fun p56 =>
     (binK .plain .add (o45.t 5) (.int .i64 1)).bind fun v57 =>
     some ⟨.normal, put (put (put (put (put (put (put (put (put (put (put (put (put o45.t 61 (o45.t 4)) 62 v52) 63 p53.1) 64 p54.1) 4 p54.1) 65 (o45.t 3)) 66 (o45.t 7)) 67 p55.1) 68 p56.1) 3 p56.1) 16 (o45.t 5)) 17 v57) 5 v57, p56.2, o45.n + 13⟩)
    (some ⟨(.exit 0), put (put (put (put (put t 11 (t 5)) 12 v6) 13 v7) 14 v8) 15 v9, H, n + 5⟩)
noncomputable def S65 (C : Calling) (L : Body → Body) (t : Tm) (H : Hp) (n : Nat) : Option (Value × Hp × Nat) :=
  (vcells (t 0)).bind fun c2 =>
  let H1 := H.set (n) (some (.row c2 0 true))
  (bsl (n + 2) 1 0 [.int .i64 0] [] H1).bind fun p3 =>
  (bsl (n + 4) 5 0 [.int .i64 0, .int .i64 0, .string ⟨#[]⟩, .int .i64 0, .int .i64 0] [] p3.2).bind fun p4 =>
  (L (S65L0 C L) (put (put (put (put (put (put (put t 1 (ptr (n) 0)) 2 nilS) 9 p3.1) 3 p3.1) 10 p4.1) 4 p4.1) 5 (.int .i64 0)) p4.2 (n + 7)).bind fun (o5 : Out) =>
  some (o5.t 3, o5.H, o5.n + 2)
theorem s65 (C : Calling) (L : Body → Body) (t : Tm) (H : Hp) (n : Nat) : bodyK Try.prog C L Try.f65 t H n = S65 C L t H n := by kernel_rfl
theorem c65 (args : List Value) (H : Hp) (n : Nat) : Call Try.prog 65 args H n = S65 (Call Try.prog) Loop (argsT args) H n := (Call_body Try.func65 args H n).trans (s65 ..)
/-! 66: impl.writing).value -/
noncomputable def S66 (C : Calling) (L : Body → Body) (t : Tm) (H : Hp) (n : Nat) : Option (Value × Hp × Nat) :=
  (nilchk (t 0)).bind fun v1 =>
  (fieldA 0 v1).bind fun v2 =>
  (fieldA 0 v2).bind fun v3 =>
  (ld false 1 v3 H).bind fun v4 =>
  (idxA 5 v4 (t 1)).bind fun v5 =>
  (ld true 5 v5 H).bind fun v6 =>
  let H7 := H.set (n + 8) (some (.row [.int .i64 0, .int .i64 0, .string ⟨#[]⟩, .int .i64 0, .int .i64 0] 0 true))
  (st true 5 (ptr (n + 8) 0) v6 H7).bind fun H8 =>
  (C 67 [t 0] H8 (n + 13)).bind fun q9 =>
  let t11 : Tm := put (put (put (put (put (put (put (put (put (put (put (put t 5 (t 0)) 6 v1) 7 v2) 8 v3) 9 v4) 10 (t 1)) 11 v5) 12 v6) 4 (ptr (n + 8) 0)) 26 (t 0)) 27 q9.1) 25 q9.1
  (csel q9.1
    (some ⟨.normal, t11, q9.2.1, q9.2.2⟩)
    ((fieldA 0 (ptr (n + 8) 0)).bind fun v12 =>
     (ld false 1 v12 q9.2.1).bind fun v13 =>
     (binK .plain .eql v13 (.int .i64 1)).bind fun v14 =>
     let t16 : Tm := put (put (put (put t11 29 v12) 30 v13) 31 v14) 32 v14
     (gsel v14 false
       ((fieldA 0 (ptr (n + 8) 0)).bind fun v17 =>
        (ld false 1 v17 q9.2.1).bind fun v18 =>
        (binK .plain .eql v18 (.int .i64 5)).bind fun v19 =>
        some (put (put (put t16 33 v17) 34 v18) 35 v19, q9.2.1, q9.2.2 + 9))
       (some (put (put (put t16 33 (.tuple #[])) 34 (.tuple #[])) 35 (.tuple #[]), q9.2.1, q9.2.2 + 9))
     ).bind fun (q15 : R3) =>
     (pickV (q15.1 32) (.bool true) (q15.1 35)).bind fun v20 =>
     let t22 : Tm := put (put q15.1 36 v20) 28 v20
     (csel v20
       ((C 97 [t22 0, .string ⟨#[40]⟩] q15.2.1 (q15.2.2 + 2)).bind fun q23 =>
        (C 98 [t22 0, t22 1] q23.2.1 (q23.2.2 + 3)).bind fun q24 =>
        (C 97 [t22 0, .string ⟨#[41]⟩] q24.2.1 (q24.2.2 + 2)).bind fun q25 =>
        some ⟨.normal, put (put (put (put (put (put (put t22 37 (t22 0)) 38 q23.1) 39 (t22 0)) 40 (t22 1)) 41 q24.1) 42 (t22 0)) 43 q25.1, q25.2.1, q25.2.2⟩)
       ((fieldA 0 (t22 4)).bind fun v26 =>
        (ld false 1 v26 q15.2.1).bind fun v27 =>
        (binK .plain .eql v27 (.int .i64 2)).bind fun v28 =>
        let t30 : Tm := put (put (put (put t22 45 v26) 46 v27) 47 v28) 48 v28
        (gsel v28 true
          ((fieldA 1 (t30 4)).bind fun v31 =>
           (ld false 1 v31 q15.2.1).bind fun v32 =>
           (binK .plain .eql v32 (.int .i64 1)).bind fun v33 =>
           some (put (put (put t30 49 v31) 50 v32) 51 v33, q15.2.1, q15.2.2 + 9))
          (some (put (put (put t30 49 (.tuple #[])) 50 (.tuple #[])) 51 (.tuple #[]), q15.2.1, q15.2.2 + 9))
        ).bind fun (q29 : R3) =>
        (pickV (q29.1 48) (q29.1 51) (.bool false)).bind fun v34 =>
        let t36 : Tm := put (put q29.1 52 v34) 44 v34
        (csel v34
          ((C 97 [t36 0, .string ⟨#[35, 116]⟩] q29.2.1 (q29.2.2 + 2)).bind fun q37 =>
           some ⟨.normal, put (put t36 53 (t36 0)) 54 q37.1, q37.2.1, q37.2.2⟩)
          ((fieldA 0 (t36 4)).bind fun v38 =>
           (ld false 1 v38 q29.2.1).bind fun v39 =>
           (binK .plain .eql v39 (.int .i64 2)).bind fun v40 =>
           let t42 : Tm := put (put (put (put t36 56 v38) 57 v39) 58 v40) 55 v40
           (csel v40
             ((C 97 [t42 0, .string ⟨#[35, 102]⟩] q29.2.1 (q29.2.2 + 6)).bind fun q43 =>
              some ⟨.normal, put (put t42 59 (t42 0)) 60 q43.1, q43.2.1, q43.2.2⟩)
             ((fieldA 0 (t42 4)).bind fun v44 =>
              (ld false 1 v44 q29.2.1).bind fun v45 =>
              (binK .plain .eql v45 (.int .i64 3)).bind fun v46 =>
              let t48 : Tm := put (put (put (put t42 62 v44) 63 v45) 64 v46) 61 v46
              (csel v46
                ((fieldA 1 (t48 4)).bind fun v49 =>
                 (ld false 1 v49 q29.2.1).bind fun v50 =>
                 (C 99 [v50] q29.2.1 (q29.2.2 + 13)).bind fun q51 =>
                 (C 97 [t48 0, q51.1] q51.2.1 (q51.2.2)).bind fun q52 =>
                 some ⟨.normal, put (put (put (put (put t48 65 (t48 0)) 66 v49) 67 v50) 68 q51.1) 69 q52.1, q52.2.1, q52.2.2⟩)
                ((fieldA 0 (t48 4)).bind fun v53 =>
                 (ld false 1 v53 q29.2.1).bind fun v54 =>
                 (binK .plain .eql v54 (.int .i64 4)).bind fun v55 =>
                 let t57 : Tm := put (put (put (put t48 71 v53) 72 v54) 73 v55) 70 v55
                 (csel v55
                   ((fieldA 2 (t57 4)).bind fun v58 =>
                    (ld false 1 v58 q29.2.1).bind fun v59 =>
                    (C 97 [t57 0, v59] q29.2.1 (q29.2.2 + 16)).bind fun q60 =>
                    some ⟨.normal, put (put (put (put t57 74 (t57 0)) 75 v58) 76 v59) 77 q60.1, q60.2.1, q60.2.2⟩)
                   ((bsl (q29.2.2 + 13) 1 4 [.string ⟨#[]⟩] [(0, 1, .string ⟨#[35, 102, 117, 110]⟩), (1, 1, .string ⟨#[35, 107, 111, 110, 116]⟩), (2, 1, .string ⟨#[35, 112, 114, 105, 109]⟩), (3, 1, .string ⟨#[35, 112, 105, 100]⟩)] q29.2.1).bind fun p61 =>
                    (fieldA 0 (t57 4)).bind fun v62 =>
                    (ld false 1 v62 p61.2).bind fun v63 =>
                    (binK .plain .sub v63 (.int .i64 6)).bind fun v64 =>
                    (idxA 1 p61.1 v64).bind fun v65 =>
                    (ld false 1 v65 p61.2).bind fun v66 =>
                    (fieldA 1 (t57 4)).bind fun v67 =>
                    (ld false 1 v67 p61.2).bind fun v68 =>
                    (C 99 [v68] p61.2 (q29.2.2 + 24)).bind fun q69 =>
                    ask (ld false 1 v65 q69.2.1 = some v66) <|
                    ask (ld false 1 v62 q69.2.1 = some v63) <|
                    (binK .plain .add v66 q69.1).bind fun v70 =>
                    (C 97 [t57 0, v70] q69.2.1 (q69.2.2)).bind fun q71 =>
                    some ⟨.normal, put (put (put (put (put (put (put (put (put (put (put (put t57 13 (t57 0)) 14 p61.1) 15 v62) 16 v63) 17 v64) 18 v65) 19 v66) 20 v67) 21 v68) 22 q69.1) 23 v70) 24 q71.1, q71.2.1, q71.2.2⟩)
                 ).bind fun (o56 : Out) =>
                 some ⟨.normal, o56.t, o56.H, o56.n⟩)
              ).bind fun (o47 : Out) =>
              some ⟨.normal, o47.t, o47.H, o47.n⟩)
           ).bind fun (o41 : Out) =>
           some ⟨.normal, o41.t, o41.H, o41.n⟩)
        ).bind fun (o35 : Out) =>
        some ⟨.normal, o35.t, o35.H, o35.n⟩)
     ).bind fun (o21 : Out) =>
     some ⟨.normal, o21.t, o21.H, o21.n⟩)
  ).bind fun (o10 : Out) =>
  some (.tuple ⟨[]⟩, o10.H, o10.n)
theorem s66 (C : Calling) (L : Body → Body) (t : Tm) (H : Hp) (n : Nat) : bodyK Try.prog C L Try.f66 t H n = S66 C L t H n := by kernel_rfl
theorem c66 (args : List Value) (H : Hp) (n : Nat) : Call Try.prog 66 args H n = S66 (Call Try.prog) Loop (argsT args) H n := (Call_body Try.func66 args H n).trans (s66 ..)
/-! 67: impl.writing).full -/
noncomputable def S67 (C : Calling) (L : Body → Body) (t : Tm) (H : Hp) (n : Nat) : Option (Value × Hp × Nat) :=
  (nilchk (t 0)).bind fun v1 =>
  (fieldA 1 v1).bind fun v2 =>
  (ld false 1 v2 H).bind fun v3 =>
  (lenV false v3).bind fun v4 =>
  (binK .plain .gtr v4 (.int .i64 400)).bind fun v5 =>
  some (v5, H, n + 8)
theorem s67 (C : Calling) (L : Body → Body) (t : Tm) (H : Hp) (n : Nat) : bodyK Try.prog C L Try.f67 t H n = S67 C L t H n := by kernel_rfl
theorem c67 (args : List Value) (H : Hp) (n : Nat) : Call Try.prog 67 args H n = S67 (Call Try.prog) Loop (argsT args) H n := (Call_body Try.func67 args H n).trans (s67 ..)
/-! 68: spec.l7Copy -/
noncomputable def S68 (C : Calling) (L : Body → Body) (t : Tm) (H : Hp) (n : Nat) : Option (Value × Hp × Nat) :=
  (vcells (t 1)).bind fun c2 =>
  let H1 := H.set (n) (some (.row c2 0 true))
  (ld true 1 (ptr (n) 0) H1).bind fun v3 =>
  (ld true 1 (ptr (n) 0) H1).bind fun v4 =>
  (bsl (n + 6) 1 1 [.int .i64 0] [(0, 1, t 2)] H1).bind fun p5 =>
  (C 89 [v4, p5.1] p5.2 (n + 13)).bind fun q6 =>
  ask (ld true 1 (ptr (n) 0) q6.2.1 = some v3) <|
  (C 88 [t 0, v3, q6.1] q6.2.1 (q6.2.2)).bind fun q7 =>
  (idxA 1 q7.1 (t 2)).bind fun v8 =>
  (ld false 1 v8 q7.2.1).bind fun v9 =>
  some (v9, q7.2.1, q7.2.2)
theorem s68 (C : Calling) (L : Body → Body) (t : Tm) (H : Hp) (n : Nat) : bodyK Try.prog C L Try.f68 t H n = S68 C L t H n := by kernel_rfl
theorem c68 (args : List Value) (H : Hp) (n : Nat) : Call Try.prog 68 args H n = S68 (Call Try.prog) Loop (argsT args) H n := (Call_body Try.func68 args H n).trans (s68 ..)
/-! 69: impl.Pool).copyFrom -/
noncomputable def S69 (C : Calling) (L : Body → Body) (t : Tm) (H : Hp) (n : Nat) : Option (Value × Hp × Nat) :=
  (vcells (t 1)).bind fun c2 =>
  let H1 := H.set (n) (some (.row c2 0 true))
  (ld true 1 (ptr (n) 0) H1).bind fun v3 =>
  (bsl (n + 5) 1 1 [.int .i64 0] [(0, 1, t 2)] H1).bind fun p4 =>
  (C 93 [t 0, v3, p4.1] p4.2 (n + 11)).bind fun q5 =>
  (idxA 1 q5.1 (t 2)).bind fun v6 =>
  (ld false 1 v6 q5.2.1).bind fun v7 =>
  some (v7, q5.2.1, q5.2.2)
theorem s69 (C : Calling) (L : Body → Body) (t : Tm) (H : Hp) (n : Nat) : bodyK Try.prog C L Try.f69 t H n = S69 C L t H n := by kernel_rfl
theorem c69 (args : List Value) (H : Hp) (n : Nat) : Call Try.prog 69 args H n = S69 (Call Try.prog) Loop (argsT args) H n := (Call_body Try.func69 args H n).trans (s69 ..)
/-! 70: laws.markNodeS -/
noncomputable def S70L0 (C : Calling) (L : Body → Body) : Body := fun t H n =>
  (lenV false (t 0)).bind fun v2 =>
  (binK .plain .lss (t 5) v2).bind fun v3 =>
  csel v3
    ((idxA 5 (t 0) (t 5)).bind fun v4 =>
     (fieldA 0 v4).bind fun v5 =>
     (st false 1 v5 (t 1) H).bind fun H6 =>
     (binK .plain .add (t 1) (.int .i64 1)).bind fun v7 =>
     (idxA 5 (t 0) (t 5)).bind fun v8 =>
     (fieldA 1 v8).bind fun v9 =>
     (st false 1 v9 v7 H6).bind fun H10 =>
     (binK .plain .add v7 (.int .i64 1)).bind fun v11 =>
     (C 100 [v11] H10 (n + 29)).bind fun q12 =>
     (idxA 5 (t 0) (t 5)).bind fun v13 =>
     (fieldA 2 v13).bind fun v14 =>
     (st false 1 v14 q12.1 q12.2.1).bind fun H15 =>
     (binK .plain .add v11 (.int .i64 1)).bind fun v16 =>
     (idxA 5 (t 0) (t 5)).bind fun v17 =>
     (fieldA 3 v17).bind fun v18 =>
     (st false 1 v18 v16 H15).bind fun H19 =>
     (binK .plain .add v16 (.int .i64 1)).bind fun v20 =>
     (idxA 5 (t 0) (t 5)).bind fun v21 =>
     (fieldA 4 v21).bind fun v22 =>
     (st false 1 v22 v20 H19).bind fun H23 =>
     (binK .plain .add v20 (.int .i64 1)).bind fun v24 =>
     (binK .plain .add (t 5) (.int .i64 1)).bind fun v25 =>
     some ⟨.normal, put (put (put (put (put (put (put (put (put (put (put (put (put (put (put (put (put (put (put (put (put (put (put (put (put (put (put (put (put (put (put (put (put (put (put (put (put (put (put (put (put (put (put (put (put (put (put (put t 6 (t 5)) 7 (t 0)) 8 v2) 9 v3) 12 (t 0)) 13 (t 5)) 14 (t 1)) 15 v4) 16 v5) 17 (t 1)) 18 v7) 1 v7) 19 (t 0)) 20 (t 5)) 21 v7) 22 v8) 23 v9) 24 v7) 25 v11) 1 v11) 26 (t 0)) 27 (t 5)) 28 v11) 29 q12.1) 30 v13) 31 v14) 32 v11) 33 v16) 1 v16) 34 (t 0)) 35 (t 5)) 36 v16) 37 v17) 38 v18) 39 v16) 40 v20) 1 v20) 41 (t 0)) 42 (t 5)) 43 v20) 44 v21) 45 v22) 46 v20) 47 v24) 1 v24) 10 (t 5)) 11 v25) 5 v25, H23, q12.2.2 + 24⟩)
    (some ⟨(.exit 0), put (put (put (put t 6 (t 5)) 7 (t 0)) 8 v2) 9 v3, H, n + 4⟩)
noncomputable def S70 (C : Calling) (L : Body → Body) (t : Tm) (H : Hp) (n : Nat) : Option (Value × Hp × Nat) :=
  (L (S70L0 C L) (put (put t 4 (.int .i64 0)) 5 (.int .i64 0)) H (n + 2)).bind fun (o1 : Out) =>
  some (o1.t 1, o1.H, o1.n + 2)
theorem s70 (C : Calling) (L : Body → Body) (t : Tm) (H : Hp) (n : Nat) : bodyK Try.prog C L Try.f70 t H n = S70 C L t H n := by kernel_rfl
theorem c70 (args : List Value) (H : Hp) (n : Nat) : Call Try.prog 70 args H n = S70 (Call Try.prog) Loop (argsT args) H n := (Call_body Try.func70 args H n).trans (s70 ..)
/-! 71: laws.heldNodeS -/
noncomputable def S71L0 (C : Calling) (L : Body → Body) : Body := fun t H n =>
  (lenV false (t 0)).bind fun v2 =>
  (binK .plain .lss (t 5) v2).bind fun v3 =>
  csel v3
    ((idxA 5 (t 0) (t 5)).bind fun v4 =>
     (fieldA 0 v4).bind fun v5 =>
     (ld false 1 v5 H).bind fun v6 =>
     (binK .plain .neq v6 (t 1)).bind fun v7 =>
     csel v7
       (some ⟨.ret, put (put (put (put (put (put (put (put (put (put (put (put t 6 (t 5)) 7 (t 0)) 8 v2) 9 v3) 12 (t 0)) 13 (t 5)) 14 v4) 15 v5) 16 v6) 17 (t 1)) 18 v7) 4 (.int .i64 (-1)), H, n + 12⟩)
       ((binK .plain .add (t 1) (.int .i64 1)).bind fun v8 =>
        (idxA 5 (t 0) (t 5)).bind fun v9 =>
        (fieldA 1 v9).bind fun v10 =>
        (ld false 1 v10 H).bind fun v11 =>
        (binK .plain .neq v11 v8).bind fun v12 =>
        csel v12
          (some ⟨.ret, put (put (put (put (put (put (put (put (put (put (put (put (put (put (put (put (put (put (put (put (put (put t 6 (t 5)) 7 (t 0)) 8 v2) 9 v3) 12 (t 0)) 13 (t 5)) 14 v4) 15 v5) 16 v6) 17 (t 1)) 18 v7) 19 (t 1)) 20 v8) 1 v8) 21 (t 0)) 22 (t 5)) 23 v9) 24 v10) 25 v11) 26 v8) 27 v12) 4 (.int .i64 (-1)), H, n + 22⟩)
          ((binK .plain .add v8 (.int .i64 1)).bind fun v13 =>
           (idxA 5 (t 0) (t 5)).bind fun v14 =>
           (fieldA 2 v14).bind fun v15 =>
           (ld false 1 v15 H).bind fun v16 =>
           (C 100 [v13] H (n + 32)).bind fun q17 =>
           ask (ld false 1 v15 q17.2.1 = some v16) <|
           (binK .plain .neq v16 q17.1).bind fun v18 =>
           csel v18
             (some ⟨.ret, put (put (put (put (put (put (put (put (put (put (put (put (put (put (put (put (put (put (put (put (put (put (put (put (put (put (put (put (put (put (put (put (put t 6 (t 5)) 7 (t 0)) 8 v2) 9 v3) 12 (t 0)) 13 (t 5)) 14 v4) 15 v5) 16 v6) 17 (t 1)) 18 v7) 19 (t 1)) 20 v8) 1 v8) 21 (t 0)) 22 (t 5)) 23 v9) 24 v10) 25 v11) 26 v8) 27 v12) 28 v8) 29 v13) 1 v13) 30 (t 0)) 31 (t 5)) 32 v14) 33 v15) 34 v16) 35 v13) 36 q17.1) 37 v18) 4 (.int .i64 (-1)), q17.2.1, q17.2.2 + 1⟩)
             ((binK .plain .add v13 (.int .i64 1)).bind fun v19 =>
              (idxA 5 (t 0) (t 5)).bind fun v20 =>
              (fieldA 3 v20).bind fun v21 =>
              (ld false 1 v21 q17.2.1).bind fun v22 =>
              (binK .plain .neq v22 v19).bind fun v23 =>
              csel v23
                (some ⟨.ret, put (put (put (put (put (put (put (put (put (put (put (put (put (put (put (put (put (put (put (put (put (put (put (put (put (put (put (put (put (put (put (put (put (put (put (put (put (put (put (put (put (put (put t 6 (t 5)) 7 (t 0)) 8 v2) 9 v3) 12 (t 0)) 13 (t 5)) 14 v4) 15 v5) 16 v6) 17 (t 1)) 18 v7) 19 (t 1)) 20 v8) 1 v8) 21 (t 0)) 22 (t 5)) 23 v9) 24 v10) 25 v11) 26 v8) 27 v12) 28 v8) 29 v13) 1 v13) 30 (t 0)) 31 (t 5)) 32 v14) 33 v15) 34 v16) 35 v13) 36 q17.1) 37 v18) 38 v13) 39 v19) 1 v19) 40 (t 0)) 41 (t 5)) 42 v20) 43 v21) 44 v22) 45 v19) 46 v23) 4 (.int .i64 (-1)), q17.2.1, q17.2.2 + 11⟩)
                ((binK .plain .add v19 (.int .i64 1)).bind fun v24 =>
                 (idxA 5 (t 0) (t 5)).bind fun v25 =>
                 (fieldA 4 v25).bind fun v26 =>
                 (ld false 1 v26 q17.2.1).bind fun v27 =>
                 (binK .plain .neq v27 v24).bind fun v28 =>
                 csel v28
                   (some ⟨.ret, put (put (put (put (put (put (put (put (put (put (put (put (put (put (put (put (put (put (put (put (put (put (put (put (put (put (put (put (put (put (put (put (put (put (put (put (put (put (put (put (put (put (put (put (put (put (put (put (put (put (put (put (put t 6 (t 5)) 7 (t 0)) 8 v2) 9 v3) 12 (t 0)) 13 (t 5)) 14 v4) 15 v5) 16 v6) 17 (t 1)) 18 v7) 19 (t 1)) 20 v8) 1 v8) 21 (t 0)) 22 (t 5)) 23 v9) 24 v10) 25 v11) 26 v8) 27 v12) 28 v8) 29 v13) 1 v13) 30 (t 0)) 31 (t 5)) 32 v14) 33 v15) 34 v16) 35 v13) 36 q17.1) 37 v18) 38 v13) 39 v19) 1 v19) 40 (t 0)) 41 (t 5)) 42 v20) 43 v21) 44 v22) 45 v19) 46 v23) 47 v19) 48 v24) 1 v24) 49 (t 0)) 50 (t 5)) 51 v25) 52 v26) 53 v27) 54 v24) 55 v28) 4 (.int .i64 (-1)), q17.2.1, q17.2.2 + 21⟩)
                   ((binK .plain .add v24 (.int .i64 1)).bind fun v29 =>
                    (binK .plain .add (t 5) (.int .i64 1)).bind fun v30 =>
                    some ⟨.normal, put (put (put (put (put (put (put (put (put (put (put (put (put (put (put (put (put (put (put (put (put (put (put (put (put (put (put (put (put (put (put (put (put (put (put (put (put (put (put (put (put (put (put (put (put (put (put (put (put (put (put (put (put (put (put (put (put (put t 6 (t 5)) 7 (t 0)) 8 v2) 9 v3) 12 (t 0)) 13 (t 5)) 14 v4) 15 v5) 16 v6) 17 (t 1)) 18 v7) 19 (t 1)) 20 v8) 1 v8) 21 (t 0)) 22 (t 5)) 23 v9) 24 v10) 25 v11) 26 v8) 27 v12) 28 v8) 29 v13) 1 v13) 30 (t 0)) 31 (t 5)) 32 v14) 33 v15) 34 v16) 35 v13) 36 q17.1) 37 v18) 38 v13) 39 v19) 1 v19) 40 (t 0)) 41 (t 5)) 42 v20) 43 v21) 44 v22) 45 v19) 46 v23) 47 v19) 48 v24) 1 v24) 49 (t 0)) 50 (t 5)) 51 v25) 52 v26) 53 v27) 54 v24) 55 v28) 56 v24) 57 v29) 1 v29) 10 (t 5)) 11 v30) 5 v30, q17.2.1, q17.2.2 + 26⟩))))))
    (some ⟨(.exit 0), put (put (put (put t 6 (t 5)) 7 (t 0)) 8 v2) 9 v3, H, n + 4⟩)
noncomputable def S71 (C : Calling) (L : Body → Body) (t : Tm) (H : Hp) (n : Nat) : Option (Value × Hp × Nat) :=
  (L (S71L0 C L) (put (put t 4 (.int .i64 0)) 5 (.int .i64 0)) H (n + 2)).bind fun (o1 : Out) =>
  let o31 := outOf 0 o1
  thenK o31
    (some (o31.t 1, o31.H, o31.n + 2))
    (finE o31.e
       (some (o31.t 4, o31.H, o31.n)))
theorem s71 (C : Calling) (L : Body → Body) (t : Tm) (H : Hp) (n : Nat) : bodyK Try.prog C L Try.f71 t H n = S71 C L t H n := by kernel_rfl
theorem c71 (args : List Value) (H : Hp) (n : Nat) : Call Try.prog 71 args H n = S71 (Call Try.prog) Loop (argsT args) H n := (Call_body Try.func71 args H n).trans (s71 ..)
/-! 72: spec.l7Roots -/
noncomputable def S72L0 (C : Calling) (L : Body → Body) : Body := fun t H n =>
  (lenV false (t 1)).bind fun v4 =>
  (binK .plain .lss (t 5) v4).bind fun v5 =>
  csel v5
    ((ld true 1 (t 2) H).bind fun v6 =>
     (idxA 1 (t 1) (t 5)).bind fun v7 =>
     (ld false 1 v7 H).bind fun v8 =>
     (C 50 [v6, v8] H (n + 11)).bind fun q9 =>
     (un .not q9.1).bind fun v10 =>
     csel v10
       (some ⟨.ret, put (put (put (put (put (put (put (put (put (put (put (put t 6 (t 5)) 7 (t 1)) 8 v4) 9 v5) 12 v6) 13 (t 1)) 14 (t 5)) 15 v7) 16 v8) 17 q9.1) 18 v10) 4 (.bool false), q9.2.1, q9.2.2 + 1⟩)
       ((binK .plain .add (t 5) (.int .i64 1)).bind fun v11 =>
        some ⟨.normal, put (put (put (put (put (put (put (put (put (put (put (put (put (put t 6 (t 5)) 7 (t 1)) 8 v4) 9 v5) 12 v6) 13 (t 1)) 14 (t 5)) 15 v7) 16 v8) 17 q9.1) 18 v10) 10 (t 5)) 11 v11) 5 v11, q9.2.1, q9.2.2 + 3⟩))
    (some ⟨(.exit 0), put (put (put (put t 6 (t 5)) 7 (t 1)) 8 v4) 9 v5, H, n + 4⟩)
noncomputable def S72 (C : Calling) (L : Body → Body) (t : Tm) (H : Hp) (n : Nat) : Option (Value × Hp × Nat) :=
  (vcells (t 0)).bind fun c2 =>
  let H1 := H.set (n) (some (.row c2 0 true))
  (L (S72L0 C L) (put (put (put t 2 (ptr (n) 0)) 4 (.bool false)) 5 (.int .i64 0)) H1 (n + 3)).bind fun (o3 : Out) =>
  let o12 := outOf 0 o3
  thenK o12
    ((ld true 1 (o12.t 2) o12.H).bind fun v13 =>
     (C 49 [v13] o12.H (o12.n + 3)).bind fun q14 =>
     some (q14.1, q14.2.1, q14.2.2))
    (finE o12.e
       (some (o12.t 4, o12.H, o12.n)))
theorem s72 (C : Calling) (L : Body → Body) (t : Tm) (H : Hp) (n : Nat) : bodyK Try.prog C L Try.f72 t H n = S72 C L t H n := by kernel_rfl
theorem c72 (args : List Value) (H : Hp) (n : Nat) : Call Try.prog 72 args H n = S72 (Call Try.prog) Loop (argsT args) H n := (Call_body Try.func72 args H n).trans (s72 ..)
/-! 73: impl.rootsOk -/
noncomputable def S73 (C : Calling) (L : Body → Body) (t : Tm) (H : Hp) (n : Nat) : Option (Value × Hp × Nat) :=
  (vcells (t 0)).bind fun c2 =>
  let H1 := H.set (n) (some (.row c2 0 true))
  (ld true 1 (ptr (n) 0) H1).bind fun v3 =>
  (C 38 [v3] H1 (n + 11)).bind fun q4 =>
  let t6 : Tm := put (put (put (put (put t 2 (ptr (n) 0)) 4 (.bool false)) 5 v3) 6 q4.1) 7 q4.1
  (gsel q4.1 true
    (iteK ([ptr (n) 0].all ptrV) <|
     (C 44 [t6 1, .func (.func 101) #[] ⟨[ptr (n) 0]⟩] q4.2.1 (q4.2.2)).bind fun q7 =>
     (un .not q7.1).bind fun v8 =>
     some (put (put (put (put t6 8 (t6 1)) 9 (.func (.func 101) #[] ⟨[ptr (n) 0]⟩)) 10 q7.1) 11 v8, q7.2.1, q7.2.2))
    (some (put (put (put (put t6 8 (.tuple #[])) 9 (.tuple #[])) 10 (.tuple #[])) 11 (.tuple #[]), q4.2.1, q4.2.2))
  ).bind fun (q5 : R3) =>
  (pickV (q5.1 7) (q5.1 11) (.bool false)).bind fun v9 =>
  some (v9, q5.2.1, q5.2.2)
theorem s73 (C : Calling) (L : Body → Body) (t : Tm) (H : Hp) (n : Nat) : bodyK Try.prog C L Try.f73 t H n = S73 C L t H n := by kernel_rfl
theorem c73 (args : List Value) (H : Hp) (n : Nat) : Call Try.prog 73 args H n = S73 (Call Try.prog) Loop (argsT args) H n := (Call_body Try.func73 args H n).trans (s73 ..)
/-! 74: impl.nodeOk -/
noncomputable def S74 (C : Calling) (L : Body → Body) (t : Tm) (H : Hp) (n : Nat) : Option (Value × Hp × Nat) :=
  (vcells (t 0)).bind fun c2 =>
  let H1 := H.set (n) (some (.row c2 0 true))
  (fieldA 2 (ptr (n) 0)).bind fun v3 =>
  (ld false 1 v3 H1).bind fun v4 =>
  (binK .plain .eql v4 (.string ⟨#[]⟩)).bind fun v5 =>
  (fieldA 3 (ptr (n) 0)).bind fun v6 =>
  (ld false 1 v6 H1).bind fun v7 =>
  (binK .plain .eql v7 (.int .i64 0)).bind fun v8 =>
  (fieldA 4 (ptr (n) 0)).bind fun v9 =>
  (ld false 1 v9 H1).bind fun v10 =>
  (binK .plain .eql v10 (.int .i64 0)).bind fun v11 =>
  (fieldA 0 (ptr (n) 0)).bind fun v12 =>
  (ld false 1 v12 H1).bind fun v13 =>
  (binK .plain .eql v13 (.int .i64 1)).bind fun v14 =>
  let t16 : Tm := put (put (put (put (put (put (put (put (put (put (put (put (put (put (put (put (put (put (put (put t 2 (ptr (n) 0)) 4 (.bool false)) 10 v3) 11 v4) 12 v5) 5 (.int .i64 0)) 6 (.int .i64 0)) 7 v5) 13 v6) 14 v7) 15 v8) 16 v9) 17 v10) 18 v11) 8 v8) 9 v11) 19 v12) 20 v13) 22 v14) 21 v14
  (csel v14
    (some ⟨.normal, t16, H1, n + 20⟩)
    ((binK .plain .eql v13 (.int .i64 2)).bind fun v17 =>
     let t19 : Tm := put (put t16 24 v17) 23 v17
     (csel v17
       (some ⟨.normal, put t19 6 (.int .i64 1), H1, n + 23⟩)
       ((binK .plain .eql v13 (.int .i64 3)).bind fun v20 =>
        let t22 : Tm := put (put t19 26 v20) 25 v20
        (csel v20
          (some ⟨.normal, put (put t22 5 (.int .i64 (-1000000000))) 6 (.int .i64 1000000000), H1, n + 26⟩)
          ((binK .plain .eql v13 (.int .i64 4)).bind fun v23 =>
           let t25 : Tm := put (put t22 28 v23) 27 v23
           (csel v23
             ((fieldA 2 (ptr (n) 0)).bind fun v26 =>
              (ld false 1 v26 H1).bind fun v27 =>
              (C 102 [v27] H1 (n + 30)).bind fun q28 =>
              some ⟨.normal, put (put (put (put t25 29 v26) 30 v27) 31 q28.1) 7 q28.1, q28.2.1, q28.2.2⟩)
             ((binK .plain .eql v13 (.int .i64 5)).bind fun v29 =>
              let t31 : Tm := put (put t25 33 v29) 32 v29
              (csel v29
                ((fieldA 3 (ptr (n) 0)).bind fun v32 =>
                 (ld false 1 v32 H1).bind fun v33 =>
                 (binK .plain .sub (t31 1) (.int .i64 1)).bind fun v34 =>
                 (C 82 [v33, .int .i64 0, v34] H1 (n + 40)).bind fun q35 =>
                 (fieldA 4 (ptr (n) 0)).bind fun v36 =>
                 (ld false 1 v36 q35.2.1).bind fun v37 =>
                 ask (ld false 1 v36 H1 = some v37) <|
                 (binK .plain .sub (t31 1) (.int .i64 1)).bind fun v38 =>
                 (C 82 [v37, .int .i64 0, v38] q35.2.1 (q35.2.2)).bind fun q39 =>
                 some ⟨.normal, put (put (put (put (put (put (put (put (put (put (put (put t31 34 v32) 35 v33) 36 (t31 1)) 37 v34) 38 q35.1) 39 v36) 40 v37) 41 (t31 1)) 42 v38) 43 q39.1) 8 q35.1) 9 q39.1, q39.2.1, q39.2.2⟩)
                ((binK .plain .eql v13 (.int .i64 6)).bind fun v40 =>
                 let t42 : Tm := put (put t31 45 v40) 44 v40
                 (csel v40
                   ((fieldA 3 (ptr (n) 0)).bind fun v43 =>
                    (ld false 1 v43 H1).bind fun v44 =>
                    (binK .plain .sub (t42 1) (.int .i64 1)).bind fun v45 =>
                    (C 82 [v44, .int .i64 0, v45] H1 (n + 37)).bind fun q46 =>
                    some ⟨.normal, put (put (put (put (put (put (put t42 46 v43) 47 v44) 48 (t42 1)) 49 v45) 50 q46.1) 6 (.int .i64 1000000000)) 8 q46.1, q46.2.1, q46.2.2⟩)
                   ((binK .plain .eql v13 (.int .i64 7)).bind fun v47 =>
                    let t49 : Tm := put (put t42 52 v47) 51 v47
                    (csel v47
                      ((fieldA 3 (ptr (n) 0)).bind fun v50 =>
                       (ld false 1 v50 H1).bind fun v51 =>
                       (binK .plain .sub (t49 1) (.int .i64 1)).bind fun v52 =>
                       (C 82 [v51, .int .i64 0, v52] H1 (n + 38)).bind fun q53 =>
                       some ⟨.normal, put (put (put (put (put (put t49 53 v50) 54 v51) 55 (t49 1)) 56 v52) 57 q53.1) 8 q53.1, q53.2.1, q53.2.2⟩)
                      ((binK .plain .eql v13 (.int .i64 8)).bind fun v54 =>
                       let t56 : Tm := put (put t49 59 v54) 58 v54
                       (csel v54
                         (some ⟨.normal, put t56 6 (.int .i64 99), H1, n + 35⟩)
                         ((binK .plain .eql v13 (.int .i64 9)).bind fun v57 =>
                          csel v57
                            (some ⟨.normal, put (put (put t56 61 v57) 60 v57) 6 (.int .i64 1000000000), H1, n + 37⟩)
                            (some ⟨.ret, put (put (put t56 61 v57) 60 v57) 4 (.bool false), H1, n + 37⟩))
                       ).bind fun (o55 : Out) =>
                       some o55)
                    ).bind fun (o48 : Out) =>
                    some o48)
                 ).bind fun (o41 : Out) =>
                 some o41)
              ).bind fun (o30 : Out) =>
              some o30)
           ).bind fun (o24 : Out) =>
           some o24)
        ).bind fun (o21 : Out) =>
        some o21)
     ).bind fun (o18 : Out) =>
     some o18)
  ).bind fun (o15 : Out) =>
  let o58 := outOf 0 o15
  thenK o58
    ((fieldA 1 (o58.t 2)).bind fun v59 =>
     (ld false 1 v59 o58.H).bind fun v60 =>
     (C 82 [v60, o58.t 5, o58.t 6] o58.H (o58.n + 15)).bind fun q61 =>
     (pickV q61.1 (gsel q61.1 true (o58.t 7) (.tuple #[])) (.bool false)).bind fun v62 =>
     (pickV v62 (gsel v62 true (o58.t 8) (.tuple #[])) (.bool false)).bind fun v63 =>
     (pickV v63 (gsel v63 true (o58.t 9) (.tuple #[])) (.bool false)).bind fun v64 =>
     some (v64, q61.2.1, q61.2.2))
    (finE o58.e
       (some (o58.t 4, o58.H, o58.n)))
theorem s74 (C : Calling) (L : Body → Body) (t : Tm) (H : Hp) (n : Nat) : bodyK Try.prog C L Try.f74 t H n = S74 C L t H n := by kernel_rfl
theorem c74 (args : List Value) (H : Hp) (n : Nat) : Call Try.prog 74 args H n = S74 (Call Try.prog) Loop (argsT args) H n := (Call_body Try.func74 args H n).trans (s74 ..)
/-! 75: spec.l2DrawRight -/
noncomputable def S75L0 (C : Calling) (L : Body → Body) : Body := fun t H n =>
  (binK .plain .lss (t 5) (t 4)).bind fun v7 =>
  csel v7
    ((C 103 [t 0, t 5] H (n + 7)).bind fun q8 =>
     (C 63 [t 3, q8.1] q8.2.1 (q8.2.2)).bind fun q9 =>
     (binK .plain .add (t 5) (.int .i64 1)).bind fun v10 =>
     some ⟨.normal, put (put (put (put (put (put (put (put (put (put t 9 (t 5)) 10 (t 4)) 11 v7) 14 (t 0)) 15 (t 5)) 16 q8.1) 17 q9.1) 12 (t 5)) 13 v10) 5 v10, q9.2.1, q9.2.2 + 3⟩)
    (some ⟨(.exit 0), put (put (put t 9 (t 5)) 10 (t 4)) 11 v7, H, n + 3⟩)
noncomputable def S75 (C : Calling) (L : Body → Body) (t : Tm) (H : Hp) (n : Nat) : Option (Value × Hp × Nat) :=
  let H1 := H.set (n) (some (.row [nilS] 0 true))
  (bld [nilS] []).bind fun v2 =>
  let H3 := H1.set (n + 2) (some (.row [nilS] 0 true))
  (st true 1 (ptr (n + 2) 0) v2 H3).bind fun H4 =>
  (C 41 [t 0, .int .i64 16] H4 (n + 7)).bind fun q5 =>
  (L (S75L0 C L) (put (put (put (put (put (put (put t 2 (ptr (n) 0)) 6 v2) 3 (ptr (n + 2) 0)) 7 (t 0)) 8 q5.1) 4 q5.1) 5 (.int .i64 0)) q5.2.1 (q5.2.2 + 1)).bind fun (o6 : Out) =>
  (ld true 1 (o6.t 3) o6.H).bind fun v11 =>
  (st true 1 (o6.t 2) v11 o6.H).bind fun H12 =>
  (ld true 1 (o6.t 2) H12).bind fun v13 =>
  some (v13, H12, o6.n + 2)
theorem s75 (C : Calling) (L : Body → Body) (t : Tm) (H : Hp) (n : Nat) : bodyK Try.prog C L Try.f75 t H n = S75 C L t H n := by kernel_rfl
theorem c75 (args : List Value) (H : Hp) (n : Nat) : Call Try.prog 75 args H n = S75 (Call Try.prog) Loop (argsT args) H n := (Call_body Try.func75 args H n).trans (s75 ..)
/-! 76: spec.l2Spoil -/
noncomputable def S76 (C : Calling) (L : Body → Body) (t : Tm) (H : Hp) (n : Nat) : Option (Value × Hp × Nat) :=
  (vcells (t 1)).bind fun c2 =>
  let H1 := H.set (n) (some (.row c2 0 true))
  let H3 := H1.set (n + 1) (some (.row [.int .i64 0, .int .i64 0, .string ⟨#[]⟩, .int .i64 0, .int .i64 0] 0 true))
  (C 41 [t 0, .int .i64 8] H3 (n + 4)).bind fun q4 =>
  (binK .plain .eql q4.1 (.int .i64 0)).bind fun v5 =>
  let t7 : Tm := put (put (put (put (put (put t 3 (ptr (n) 0)) 4 (ptr (n + 1) 0)) 5 (t 0)) 6 q4.1) 8 v5) 7 v5
  (csel v5
    ((C 41 [t7 0, .int .i64 11] q4.2.1 (q4.2.2 + 6)).bind fun q8 =>
     (fieldA 0 (ptr (n) 0)).bind fun v9 =>
     (st false 1 v9 q8.1 q8.2.1).bind fun H10 =>
     some ⟨.normal, put (put (put t7 9 (t7 0)) 10 q8.1) 11 v9, H10, q8.2.2⟩)
    ((binK .plain .eql q4.1 (.int .i64 1)).bind fun v11 =>
     let t13 : Tm := put (put t7 13 v11) 12 v11
     (csel v11
       ((C 41 [t13 0, .int .i64 20] q4.2.1 (q4.2.2 + 9)).bind fun q14 =>
        (binK .plain .sub q14.1 (.int .i64 1)).bind fun v15 =>
        (fieldA 3 (ptr (n) 0)).bind fun v16 =>
        (st false 1 v16 v15 q14.2.1).bind fun H17 =>
        some ⟨.normal, put (put (put (put t13 14 (t13 0)) 15 q14.1) 16 v15) 17 v16, H17, q14.2.2⟩)
       ((binK .plain .eql q4.1 (.int .i64 2)).bind fun v18 =>
        let t20 : Tm := put (put t13 19 v18) 18 v18
        (csel v18
          ((C 41 [t20 0, .int .i64 20] q4.2.1 (q4.2.2 + 11)).bind fun q21 =>
           (binK .plain .sub q21.1 (.int .i64 1)).bind fun v22 =>
           (fieldA 4 (ptr (n) 0)).bind fun v23 =>
           (st false 1 v23 v22 q21.2.1).bind fun H24 =>
           some ⟨.normal, put (put (put (put t20 20 (t20 0)) 21 q21.1) 22 v22) 23 v23, H24, q21.2.2⟩)
          ((binK .plain .eql q4.1 (.int .i64 3)).bind fun v25 =>
           let t27 : Tm := put (put t20 25 v25) 24 v25
           (csel v25
             ((bsl (q4.2.2 + 9) 1 8 [.int .i64 0] [(0, 1, .int .i64 (-1)), (1, 1, .int .i64 2), (2, 1, .int .i64 99), (3, 1, .int .i64 100), (4, 1, .int .i64 1000000000), (5, 1, .int .i64 1000000001), (6, 1, .int .i64 (-1000000000)), (7, 1, .int .i64 (-1000000001))] q4.2.1).bind fun p28 =>
              (C 78 [t27 0, p28.1] p28.2 (q4.2.2 + 13)).bind fun q29 =>
              (fieldA 1 (ptr (n) 0)).bind fun v30 =>
              (st false 1 v30 q29.1 q29.2.1).bind fun H31 =>
              some ⟨.normal, put (put (put (put t27 26 (t27 0)) 27 p28.1) 28 q29.1) 29 v30, H31, q29.2.2⟩)
             ((binK .plain .eql q4.1 (.int .i64 4)).bind fun v32 =>
              let t34 : Tm := put (put t27 31 v32) 30 v32
              (csel v32
                ((bsl (q4.2.2 + 11) 1 6 [.string ⟨#[]⟩] [(0, 1, .string ⟨#[]⟩), (1, 1, .string ⟨#[97]⟩), (2, 1, .string ⟨#[65, 98]⟩), (3, 1, .string ⟨#[97, 98, 99, 100, 101, 102, 103, 104, 105, 106, 107, 108]⟩), (4, 1, .string ⟨#[97, 98, 99, 100, 101, 102, 103, 104, 105, 106, 107, 108, 109]⟩), (5, 1, .string ⟨#[97, 49]⟩)] q4.2.1).bind fun p35 =>
                 (C 104 [t34 0, p35.1] p35.2 (q4.2.2 + 15)).bind fun q36 =>
                 (fieldA 2 (ptr (n) 0)).bind fun v37 =>
                 (st false 1 v37 q36.1 q36.2.1).bind fun H38 =>
                 some ⟨.normal, put (put (put (put t34 32 (t34 0)) 33 p35.1) 34 q36.1) 35 v37, H38, q36.2.2⟩)
                (some ⟨.normal, t34, q4.2.1, q4.2.2 + 10⟩)
              ).bind fun (o33 : Out) =>
              some ⟨.normal, o33.t, o33.H, o33.n⟩)
           ).bind fun (o26 : Out) =>
           some ⟨.normal, o26.t, o26.H, o26.n⟩)
        ).bind fun (o19 : Out) =>
        some ⟨.normal, o19.t, o19.H, o19.n⟩)
     ).bind fun (o12 : Out) =>
     some ⟨.normal, o12.t, o12.H, o12.n⟩)
  ).bind fun (o6 : Out) =>
  (ld true 5 (o6.t 3) o6.H).bind fun v39 =>
  (st true 5 (o6.t 4) v39 o6.H).bind fun H40 =>
  (ld true 5 (o6.t 4) H40).bind fun v41 =>
  some (v41, H40, o6.n + 2)
theorem s76 (C : Calling) (L : Body → Body) (t : Tm) (H : Hp) (n : Nat) : bodyK Try.prog C L Try.f76 t H n = S76 C L t H n := by kernel_rfl
theorem c76 (args : List Value) (H : Hp) (n : Nat) : Call Try.prog 76 args H n = S76 (Call Try.prog) Loop (argsT args) H n := (Call_body Try.func76 args H n).trans (s76 ..)
/-! 77: spec.l1Byte -/
noncomputable def S77 (C : Calling) (L : Body → Body) (t : Tm) (H : Hp) (n : Nat) : Option (Value × Hp × Nat) :=
  (nilchk (t 0)).bind fun v1 =>
  (fieldA 2 v1).bind fun v2 =>
  (ld false 1 v2 H).bind fun v3 =>
  (binK .plain .mul v3 (.int .i64 6364136223846793005)).bind fun v4 =>
  (binK .plain .add v4 (.int .i64 1442695040888963407)).bind fun v5 =>
  (nilchk (t 0)).bind fun v6 =>
  (fieldA 2 v6).bind fun v7 =>
  (st false 1 v7 v5 H).bind fun H8 =>
  (nilchk (t 0)).bind fun v9 =>
  (fieldA 2 v9).bind fun v10 =>
  (ld false 1 v10 H8).bind fun v11 =>
  (binK .plain .shr v11 (.int .u64 33)).bind fun v12 =>
  (nilchk (t 0)).bind fun v13 =>
  (fieldA 2 v13).bind fun v14 =>
  (ld false 1 v14 H8).bind fun v15 =>
  (binK .plain .shr v15 (.int .u64 45)).bind fun v16 =>
  (binK .plain .xor v12 v16).bind fun v17 =>
  (binK .plain .and v17 (.int .i64 255)).bind fun v18 =>
  (nilchk (t 0)).bind fun v19 =>
  (fieldA 1 v19).bind fun v20 =>
  (ld false 1 v20 H8).bind fun v21 =>
  (nilchk (t 0)).bind fun v22 =>
  (fieldA 0 v22).bind fun v23 =>
  (ld false 1 v23 H8).bind fun v24 =>
  (lenV false v24).bind fun v25 =>
  (binK .plain .lss v21 v25).bind fun v26 =>
  let t28 : Tm := put (put (put (put (put (put (put (put (put (put (put (put (put (put (put (put (put (put (put (put (put (put (put (put (put (put (put (put (put (put (put (put (put t 2 (.int .i64 0)) 4 (t 0)) 5 (t 0)) 6 v1) 7 v2) 8 v3) 9 v4) 10 v5) 11 v6) 12 v7) 13 (t 0)) 14 v9) 15 v10) 16 v11) 17 v12) 18 (t 0)) 19 v13) 20 v14) 21 v15) 22 v16) 23 v17) 24 v18) 3 v18) 25 (t 0)) 26 v19) 27 v20) 28 v21) 29 (t 0)) 30 v22) 31 v23) 32 v24) 33 v25) 34 v26
  (csel v26
    ((nilchk (t28 0)).bind fun v29 =>
     (fieldA 0 v29).bind fun v30 =>
     (ld false 1 v30 H8).bind fun v31 =>
     (nilchk (t28 0)).bind fun v32 =>
     (fieldA 1 v32).bind fun v33 =>
     (ld false 1 v33 H8).bind fun v34 =>
     (idxA 1 v31 v34).bind fun v35 =>
     (ld false 1 v35 H8).bind fun v36 =>
     (conv (.toInt .i64) (n + 45) v36 H8).bind fun p37 =>
     (binK .plain .add v18 p37.1).bind fun v38 =>
     (binK .plain .and v38 (.int .i64 255)).bind fun v39 =>
     (nilchk (t28 0)).bind fun v40 =>
     (fieldA 1 v40).bind fun v41 =>
     (ld false 1 v41 p37.2).bind fun v42 =>
     (binK .plain .add v42 (.int .i64 1)).bind fun v43 =>
     (nilchk (t28 0)).bind fun v44 =>
     (fieldA 1 v44).bind fun v45 =>
     (st false 1 v45 v43 p37.2).bind fun H46 =>
     some ⟨.normal, put (put (put (put (put (put (put (put (put (put (put (put (put (put (put (put (put (put (put (put (put (put (put t28 35 v18) 36 (t28 0)) 37 v29) 38 v30) 39 v31) 40 (t28 0)) 41 v32) 42 v33) 43 v34) 44 v35) 45 v36) 46 p37.1) 47 v38) 48 v39) 3 v39) 49 (t28 0)) 50 (t28 0)) 51 v40) 52 v41) 53 v42) 54 v43) 55 v44) 56 v45, H46, n + 58⟩)
    (some ⟨.normal, t28, H8, n + 34⟩)
  ).bind fun (o27 : Out) =>
  some (o27.t 3, o27.H, o27.n + 2)
theorem s77 (C : Calling) (L : Body → Body) (t : Tm) (H : Hp) (n : Nat) : bodyK Try.prog C L Try.f77 t H n = S77 C L t H n := by kernel_rfl
theorem c77 (args : List Value) (H : Hp) (n : Nat) : Call Try.prog 77 args H n = S77 (Call Try.prog) Loop (argsT args) H n := (Call_body Try.func77 args H n).trans (s77 ..)
/-! 78: spec.l1PickInt -/
noncomputable def S78 (C : Calling) (L : Body → Body) (t : Tm) (H : Hp) (n : Nat) : Option (Value × Hp × Nat) :=
  (lenV false (t 1)).bind fun v1 =>
  (C 41 [t 0, v1] H (n + 9)).bind fun q2 =>
  (idxA 1 (t 1) q2.1).bind fun v3 =>
  (ld false 1 v3 q2.2.1).bind fun v4 =>
  some (v4, q2.2.1, q2.2.2)
theorem s78 (C : Calling) (L : Body → Body) (t : Tm) (H : Hp) (n : Nat) : bodyK Try.prog C L Try.f78 t H n = S78 C L t H n := by kernel_rfl
theorem c78 (args : List Value) (H : Hp) (n : Nat) : Call Try.prog 78 args H n = S78 (Call Try.prog) Loop (argsT args) H n := (Call_body Try.func78 args H n).trans (s78 ..)
/-! 79: spec.l1Min -/
noncomputable def S79 (C : Calling) (L : Body → Body) (t : Tm) (H : Hp) (n : Nat) : Option (Value × Hp × Nat) :=
  (binK .plain .lss (t 0) (t 1)).bind fun v1 =>
  csel v1
    (some (t 0, H, n + 6))
    (some (t 1, H, n + 6))
theorem s79 (C : Calling) (L : Body → Body) (t : Tm) (H : Hp) (n : Nat) : bodyK Try.prog C L Try.f79 t H n = S79 C L t H n := by kernel_rfl
theorem c79 (args : List Value) (H : Hp) (n : Nat) : Call Try.prog 79 args H n = S79 (Call Try.prog) Loop (argsT args) H n := (Call_body Try.func79 args H n).trans (s79 ..)
/-! 80: impl.Node] -/
noncomputable def S80 (C : Calling) (L : Body → Body) (t : Tm) (H : Hp) (n : Nat) : Option (Value × Hp × Nat) :=
  (binK .slice .eql (t 0) nilS).bind fun v1 =>
  csel v1
    (some (nilS, H, n + 4))
    ((bsl (n + 3) 5 0 [.int .i64 0, .int .i64 0, .string ⟨#[]⟩, .int .i64 0, .int .i64 0] [] H).bind fun p2 =>
     (app (n + 5) 5 48 p2.1 (t 0) p2.2).bind fun p3 =>
     some (p3.1, p3.2, n + 7))
theorem s80 (C : Calling) (L : Body → Body) (t : Tm) (H : Hp) (n : Nat) : bodyK Try.prog C L Try.f80 t H n = S80 C L t H n := by kernel_rfl
theorem c80 (args : List Value) (H : Hp) (n : Nat) : Call Try.prog 80 args H n = S80 (Call Try.prog) Loop (argsT args) H n := (Call_body Try.func80 args H n).trans (s80 ..)
/-! 81: slices.IndexFunc[[]int,int] -/
noncomputable def S81L0 (C : Calling) (L : Body → Body) : Body := fun t H n =>
  (binK .plain .lss (t 8) (t 7)).bind fun v3 =>
  csel v3
    ((idxA 1 (t 0) (t 8)).bind fun v4 =>
     (ld false 1 v4 H).bind fun v5 =>
     (calleeP (t 1) [v5]).bind fun c7 =>
     (C c7.1 c7.2 H (n + 9)).bind fun q6 =>
     csel q6.1
       (some ⟨.ret, put (put (put (put (put (put (put (put (put (put (put t 9 v3) 10 (t 8)) 5 (t 8)) 11 (t 1)) 12 (t 0)) 13 (t 8)) 14 v4) 15 v5) 16 q6.1) 17 (t 8)) 4 (t 8), q6.2.1, q6.2.2 + 2⟩)
       ((binK .plain .add (t 8) (.int .i64 1)).bind fun v8 =>
        some ⟨.normal, put (put (put (put (put (put (put (put (put (put (put t 9 v3) 10 (t 8)) 5 (t 8)) 11 (t 1)) 12 (t 0)) 13 (t 8)) 14 v4) 15 v5) 16 q6.1) 18 v8) 8 v8, q6.2.1, q6.2.2 + 2⟩))
    (some ⟨(.exit 0), put t 9 v3, H, n + 1⟩)
noncomputable def S81 (C : Calling) (L : Body → Body) (t : Tm) (H : Hp) (n : Nat) : Option (Value × Hp × Nat) :=
  (lenV false (t 0)).bind fun v1 =>
  (L (S81L0 C L) (put (put (put (put t 4 (.int .i64 0)) 6 (t 0)) 7 v1) 8 (.int .i64 0)) H (n + 4)).bind fun (o2 : Out) =>
  let o9 := outOf 0 o2
  thenK o9
    (some (.int .i64 (-1), o9.H, o9.n + 1))
    (finE o9.e
       (some (o9.t 4, o9.H, o9.n)))
theorem s81 (C : Calling) (L : Body → Body) (t : Tm) (H : Hp) (n : Nat) : bodyK Try.prog C L Try.f81 t H n = S81 C L t H n := by kernel_rfl
theorem c81 (args : List Value) (H : Hp) (n : Nat) : Call Try.prog 81 args H n = S81 (Call Try.prog) Loop (argsT args) H n := (Call_body Try.func81 args H n).trans (s81 ..)
/-! 82: impl.within -/
noncomputable def S82 (C : Calling) (L : Body → Body) (t : Tm) (H : Hp) (n : Nat) : Option (Value × Hp × Nat) :=
  (binK .plain .geq (t 0) (t 1)).bind fun v1 =>
  let t3 : Tm := put (put (put (put (put t 6 (.bool false)) 7 (t 0)) 8 (t 1)) 9 v1) 10 v1
  (gsel v1 true
    ((binK .plain .leq (t3 0) (t3 2)).bind fun v4 =>
     some (put (put (put t3 11 (t3 0)) 12 (t3 2)) 13 v4, H, n + 10))
    (some (put (put (put t3 11 (.tuple #[])) 12 (.tuple #[])) 13 (.tuple #[]), H, n + 10))
  ).bind fun (q2 : R3) =>
  (pickV (q2.1 10) (q2.1 13) (.bool false)).bind fun v5 =>
  some (v5, q2.2.1, q2.2.2)
theorem s82 (C : Calling) (L : Body → Body) (t : Tm) (H : Hp) (n : Nat) : bodyK Try.prog C L Try.f82 t H n = S82 C L t H n := by kernel_rfl
theorem c82 (args : List Value) (H : Hp) (n : Nat) : Call Try.prog 82 args H n = S82 (Call Try.prog) Loop (argsT args) H n := (Call_body Try.func82 args H n).trans (s82 ..)
/-! 83: impl.Pool).add -/
noncomputable def S83 (C : Calling) (L : Body → Body) (t : Tm) (H : Hp) (n : Nat) : Option (Value × Hp × Nat) :=
  (vcells (t 1)).bind fun c2 =>
  let H1 := H.set (n) (some (.row c2 0 true))
  (nilchk (t 0)).bind fun v3 =>
  (fieldA 0 v3).bind fun v4 =>
  (ld false 1 v4 H1).bind fun v5 =>
  (ld true 5 (ptr (n) 0) H1).bind fun v6 =>
  (bsl (n + 8) 5 1 [.int .i64 0, .int .i64 0, .string ⟨#[]⟩, .int .i64 0, .int .i64 0] [(0, 5, v6)] H1).bind fun p7 =>
  (app (n + 9) 5 48 v5 p7.1 p7.2).bind fun p8 =>
  (nilchk (t 0)).bind fun v9 =>
  (fieldA 0 v9).bind fun v10 =>
  (st false 1 v10 p8.1 p8.2).bind fun H11 =>
  (nilchk (t 0)).bind fun v12 =>
  (fieldA 0 v12).bind fun v13 =>
  (ld false 1 v13 H11).bind fun v14 =>
  (lenV false v14).bind fun v15 =>
  (binK .plain .sub v15 (.int .i64 1)).bind fun v16 =>
  some (v16, H11, n + 20)
theorem s83 (C : Calling) (L : Body → Body) (t : Tm) (H : Hp) (n : Nat) : bodyK Try.prog C L Try.f83 t H n = S83 C L t H n := by kernel_rfl
theorem c83 (args : List Value) (H : Hp) (n : Nat) : Call Try.prog 83 args H n = S83 (Call Try.prog) Loop (argsT args) H n := (Call_body Try.func83 args H n).trans (s83 ..)
/-! 84: impl.Pool).pair -/
noncomputable def S84 (C : Calling) (L : Body → Body) (t : Tm) (H : Hp) (n : Nat) : Option (Value × Hp × Nat) :=
  (bld [.int .i64 0, .int .i64 0, .string ⟨#[]⟩, .int .i64 0, .int .i64 0] [(0, 1, .int .i64 5), (3, 1, t 1), (4, 1, t 2)]).bind fun v1 =>
  (C 83 [t 0, v1] H (n + 7)).bind fun q2 =>
  some (q2.1, q2.2.1, q2.2.2)
theorem s84 (C : Calling) (L : Body → Body) (t : Tm) (H : Hp) (n : Nat) : bodyK Try.prog C L Try.f84 t H n = S84 C L t H n := by kernel_rfl
theorem c84 (args : List Value) (H : Hp) (n : Nat) : Call Try.prog 84 args H n = S84 (Call Try.prog) Loop (argsT args) H n := (Call_body Try.func84 args H n).trans (s84 ..)
/-! 85: spec.l2Node -/
noncomputable def S85 (C : Calling) (L : Body → Body) (t : Tm) (H : Hp) (n : Nat) : Option (Value × Hp × Nat) :=
  (vcells (t 0)).bind fun c2 =>
  let H1 := H.set (n) (some (.row c2 0 true))
  (fieldA 3 (ptr (n) 0)).bind fun v3 =>
  (ld false 1 v3 H1).bind fun v4 =>
  (binK .plain .sub (t 1) (.int .i64 1)).bind fun v5 =>
  (C 86 [v4, .int .i64 0, v5] H1 (n + 8)).bind fun q6 =>
  (fieldA 4 (ptr (n) 0)).bind fun v7 =>
  (ld false 1 v7 q6.2.1).bind fun v8 =>
  (binK .plain .sub (t 1) (.int .i64 1)).bind fun v9 =>
  (C 86 [v8, .int .i64 0, v9] q6.2.1 (q6.2.2 + 6)).bind fun q10 =>
  (fieldA 0 (ptr (n) 0)).bind fun v11 =>
  (ld false 1 v11 q10.2.1).bind fun v12 =>
  (binK .plain .eql v12 (.int .i64 1)).bind fun v13 =>
  csel v13
    ((ld true 5 (ptr (n) 0) q10.2.1).bind fun v14 =>
     (bld [.int .i64 0, .int .i64 0, .string ⟨#[]⟩, .int .i64 0, .int .i64 0] [(0, 1, .int .i64 1)]).bind fun v15 =>
     (binK (.agg [(0, (.int .i64)), (1, (.int .i64)), (2, .string), (3, (.int .i64)), (4, (.int .i64))]) .eql v14 v15).bind fun v16 =>
     some (v16, q10.2.1, q10.2.2 + 8))
    ((binK .plain .eql v12 (.int .i64 2)).bind fun v17 =>
     csel v17
       ((fieldA 1 (ptr (n) 0)).bind fun v18 =>
        (ld false 1 v18 q10.2.1).bind fun v19 =>
        (C 86 [v19, .int .i64 0, .int .i64 1] q10.2.1 (q10.2.2 + 17)).bind fun q20 =>
        let t22 : Tm := put (put (put (put (put (put (put (put (put (put (put (put (put (put (put (put (put (put (put (put (put (put (put (put t 2 (ptr (n) 0)) 4 (.bool false)) 7 v3) 8 v4) 9 (t 1)) 10 v5) 11 q6.1) 5 q6.1) 12 v7) 13 v8) 14 (t 1)) 15 v9) 16 q10.1) 6 q10.1) 17 v11) 18 v12) 20 v13) 19 v13) 25 v17) 24 v17) 26 v18) 27 v19) 28 q20.1) 29 q20.1
        (gsel q20.1 true
          ((ld true 5 (ptr (n) 0) q20.2.1).bind fun v23 =>
           (fieldA 1 (ptr (n) 0)).bind fun v24 =>
           (ld false 1 v24 q20.2.1).bind fun v25 =>
           (bld [.int .i64 0, .int .i64 0, .string ⟨#[]⟩, .int .i64 0, .int .i64 0] [(0, 1, .int .i64 2), (1, 1, v25)]).bind fun v26 =>
           (binK (.agg [(0, (.int .i64)), (1, (.int .i64)), (2, .string), (3, (.int .i64)), (4, (.int .i64))]) .eql v23 v26).bind fun v27 =>
           some (put (put (put (put (put t22 30 v23) 31 v24) 32 v25) 33 v26) 34 v27, q20.2.1, q20.2.2))
          (some (put (put (put (put (put t22 30 (.tuple #[])) 31 (.tuple #[])) 32 (.tuple #[])) 33 (.tuple #[])) 34 (.tuple #[]), q20.2.1, q20.2.2))
        ).bind fun (q21 : R3) =>
        (pickV (q21.1 29) (q21.1 34) (.bool false)).bind fun v28 =>
        some (v28, q21.2.1, q21.2.2))
       ((binK .plain .eql v12 (.int .i64 3)).bind fun v29 =>
        csel v29
          ((fieldA 1 (ptr (n) 0)).bind fun v30 =>
           (ld false 1 v30 q10.2.1).bind fun v31 =>
           (C 86 [v31, .int .i64 (-1000000000), .int .i64 1000000000] q10.2.1 (q10.2.2 + 19)).bind fun q32 =>
           let t34 : Tm := put (put (put (put (put (put (put (put (put (put (put (put (put (put (put (put (put (put (put (put (put (put (put (put (put (put t 2 (ptr (n) 0)) 4 (.bool false)) 7 v3) 8 v4) 9 (t 1)) 10 v5) 11 q6.1) 5 q6.1) 12 v7) 13 v8) 14 (t 1)) 15 v9) 16 q10.1) 6 q10.1) 17 v11) 18 v12) 20 v13) 19 v13) 25 v17) 24 v17) 37 v29) 36 v29) 38 v30) 39 v31) 40 q32.1) 41 q32.1
           (gsel q32.1 true
             ((ld true 5 (ptr (n) 0) q32.2.1).bind fun v35 =>
              (fieldA 1 (ptr (n) 0)).bind fun v36 =>
              (ld false 1 v36 q32.2.1).bind fun v37 =>
              (bld [.int .i64 0, .int .i64 0, .string ⟨#[]⟩, .int .i64 0, .int .i64 0] [(0, 1, .int .i64 3), (1, 1, v37)]).bind fun v38 =>
              (binK (.agg [(0, (.int .i64)), (1, (.int .i64)), (2, .string), (3, (.int .i64)), (4, (.int .i64))]) .eql v35 v38).bind fun v39 =>
              some (put (put (put (put (put t34 42 v35) 43 v36) 44 v37) 45 v38) 46 v39, q32.2.1, q32.2.2))
             (some (put (put (put (put (put t34 42 (.tuple #[])) 43 (.tuple #[])) 44 (.tuple #[])) 45 (.tuple #[])) 46 (.tuple #[]), q32.2.1, q32.2.2))
           ).bind fun (q33 : R3) =>
           (pickV (q33.1 41) (q33.1 46) (.bool false)).bind fun v40 =>
           some (v40, q33.2.1, q33.2.2))
          ((binK .plain .eql v12 (.int .i64 4)).bind fun v41 =>
           csel v41
             ((fieldA 2 (ptr (n) 0)).bind fun v42 =>
              (ld false 1 v42 q10.2.1).bind fun v43 =>
              (C 105 [v43] q10.2.1 (q10.2.2 + 21)).bind fun q44 =>
              let t46 : Tm := put (put (put (put (put (put (put (put (put (put (put (put (put (put (put (put (put (put (put (put (put (put (put (put (put (put (put (put t 2 (ptr (n) 0)) 4 (.bool false)) 7 v3) 8 v4) 9 (t 1)) 10 v5) 11 q6.1) 5 q6.1) 12 v7) 13 v8) 14 (t 1)) 15 v9) 16 q10.1) 6 q10.1) 17 v11) 18 v12) 20 v13) 19 v13) 25 v17) 24 v17) 37 v29) 36 v29) 49 v41) 48 v41) 50 v42) 51 v43) 52 q44.1) 53 q44.1
              (gsel q44.1 true
                ((ld true 5 (ptr (n) 0) q44.2.1).bind fun v47 =>
                 (fieldA 2 (ptr (n) 0)).bind fun v48 =>
                 (ld false 1 v48 q44.2.1).bind fun v49 =>
                 (bld [.int .i64 0, .int .i64 0, .string ⟨#[]⟩, .int .i64 0, .int .i64 0] [(0, 1, .int .i64 4), (2, 1, v49)]).bind fun v50 =>
                 (binK (.agg [(0, (.int .i64)), (1, (.int .i64)), (2, .string), (3, (.int .i64)), (4, (.int .i64))]) .eql v47 v50).bind fun v51 =>
                 some (put (put (put (put (put t46 54 v47) 55 v48) 56 v49) 57 v50) 58 v51, q44.2.1, q44.2.2))
                (some (put (put (put (put (put t46 54 (.tuple #[])) 55 (.tuple #[])) 56 (.tuple #[])) 57 (.tuple #[])) 58 (.tuple #[]), q44.2.1, q44.2.2))
              ).bind fun (q45 : R3) =>
              (pickV (q45.1 53) (q45.1 58) (.bool false)).bind fun v52 =>
              some (v52, q45.2.1, q45.2.2))
             ((binK .plain .eql v12 (.int .i64 5)).bind fun v53 =>
              csel v53
                ((pickV q6.1 (gsel q6.1 true q10.1 (.tuple #[])) (.bool false)).bind fun v54 =>
                 let t56 : Tm := put (put (put (put (put (put (put (put (put (put (put (put (put (put (put (put (put (put (put (put (put (put (put (put (put (put (put (put (put (put (put t 2 (ptr (n) 0)) 4 (.bool false)) 7 v3) 8 v4) 9 (t 1)) 10 v5) 11 q6.1) 5 q6.1) 12 v7) 13 v8) 14 (t 1)) 15 v9) 16 q10.1) 6 q10.1) 17 v11) 18 v12) 20 v13) 19 v13) 25 v17) 24 v17) 37 v29) 36 v29) 49 v41) 48 v41) 61 v53) 60 v53) 62 q6.1) 63 q6.1) 64 (gsel q6.1 true q10.1 (.tuple #[]))) 65 v54) 66 v54
                 (gsel v54 true
                   ((fieldA 1 (ptr (n) 0)).bind fun v57 =>
                    (ld false 1 v57 q10.2.1).bind fun v58 =>
                    (binK .plain .eql v58 (.int .i64 0)).bind fun v59 =>
                    some (put (put (put t56 67 v57) 68 v58) 69 v59, q10.2.1, q10.2.2 + 27))
                   (some (put (put (put t56 67 (.tuple #[])) 68 (.tuple #[])) 69 (.tuple #[]), q10.2.1, q10.2.2 + 27))
                 ).bind fun (q55 : R3) =>
                 (pickV (q55.1 66) (q55.1 69) (.bool false)).bind fun v60 =>
                 let t62 : Tm := put (put q55.1 70 v60) 71 v60
                 (gsel v60 true
                   ((fieldA 2 (t62 2)).bind fun v63 =>
                    (ld false 1 v63 q55.2.1).bind fun v64 =>
                    (binK .plain .eql v64 (.string ⟨#[]⟩)).bind fun v65 =>
                    some (put (put (put t62 72 v63) 73 v64) 74 v65, q55.2.1, q55.2.2))
                   (some (put (put (put t62 72 (.tuple #[])) 73 (.tuple #[])) 74 (.tuple #[]), q55.2.1, q55.2.2))
                 ).bind fun (q61 : R3) =>
                 (pickV (q61.1 71) (q61.1 74) (.bool false)).bind fun v66 =>
                 some (v66, q61.2.1, q61.2.2))
                ((binK .plain .eql v12 (.int .i64 6)).bind fun v67 =>
                 csel v67
                   (let t69 : Tm := put (put (put (put (put (put (put (put (put (put (put (put (put (put (put (put (put (put (put (put (put (put (put (put (put (put (put (put (put (put t 2 (ptr (n) 0)) 4 (.bool false)) 7 v3) 8 v4) 9 (t 1)) 10 v5) 11 q6.1) 5 q6.1) 12 v7) 13 v8) 14 (t 1)) 15 v9) 16 q10.1) 6 q10.1) 17 v11) 18 v12) 20 v13) 19 v13) 25 v17) 24 v17) 37 v29) 36 v29) 49 v41) 48 v41) 61 v53) 60 v53) 77 v67) 76 v67) 78 q6.1) 79 q6.1
                    (gsel q6.1 true
                      ((fieldA 1 (ptr (n) 0)).bind fun v70 =>
                       (ld false 1 v70 q10.2.1).bind fun v71 =>
                       (C 86 [v71, .int .i64 0, .int .i64 1000000000] q10.2.1 (q10.2.2 + 31)).bind fun q72 =>
                       some (put (put (put t69 80 v70) 81 v71) 82 q72.1, q72.2.1, q72.2.2))
                      (some (put (put (put t69 80 (.tuple #[])) 81 (.tuple #[])) 82 (.tuple #[]), q10.2.1, q10.2.2 + 31))
                    ).bind fun (q68 : R3) =>
                    (pickV (q68.1 79) (q68.1 82) (.bool false)).bind fun v73 =>
                    let t75 : Tm := put (put q68.1 83 v73) 84 v73
                    (gsel v73 true
                      ((fieldA 4 (t75 2)).bind fun v76 =>
                       (ld false 1 v76 q68.2.1).bind fun v77 =>
                       (binK .plain .eql v77 (.int .i64 0)).bind fun v78 =>
                       some (put (put (put t75 85 v76) 86 v77) 87 v78, q68.2.1, q68.2.2))
                      (some (put (put (put t75 85 (.tuple #[])) 86 (.tuple #[])) 87 (.tuple #[]), q68.2.1, q68.2.2))
                    ).bind fun (q74 : R3) =>
                    (pickV (q74.1 84) (q74.1 87) (.bool false)).bind fun v79 =>
                    let t81 : Tm := put (put q74.1 88 v79) 89 v79
                    (gsel v79 true
                      ((fieldA 2 (t81 2)).bind fun v82 =>
                       (ld false 1 v82 q74.2.1).bind fun v83 =>
                       (binK .plain .eql v83 (.string ⟨#[]⟩)).bind fun v84 =>
                       some (put (put (put t81 90 v82) 91 v83) 92 v84, q74.2.1, q74.2.2))
                      (some (put (put (put t81 90 (.tuple #[])) 91 (.tuple #[])) 92 (.tuple #[]), q74.2.1, q74.2.2))
                    ).bind fun (q80 : R3) =>
                    (pickV (q80.1 89) (q80.1 92) (.bool false)).bind fun v85 =>
                    some (v85, q80.2.1, q80.2.2))
                   ((binK .plain .eql v12 (.int .i64 7)).bind fun v86 =>
                    csel v86
                      (let t88 : Tm := put (put (put (put (put (put (put (put (put (put (put (put (put (put (put (put (put (put (put (put (put (put (put (put (put (put (put (put (put (put (put (put t 2 (ptr (n) 0)) 4 (.bool false)) 7 v3) 8 v4) 9 (t 1)) 10 v5) 11 q6.1) 5 q6.1) 12 v7) 13 v8) 14 (t 1)) 15 v9) 16 q10.1) 6 q10.1) 17 v11) 18 v12) 20 v13) 19 v13) 25 v17) 24 v17) 37 v29) 36 v29) 49 v41) 48 v41) 61 v53) 60 v53) 77 v67) 76 v67) 95 v86) 94 v86) 96 q6.1) 97 q6.1
                       (gsel q6.1 true
                         ((fieldA 1 (ptr (n) 0)).bind fun v89 =>
                          (ld false 1 v89 q10.2.1).bind fun v90 =>
                          (binK .plain .eql v90 (.int .i64 0)).bind fun v91 =>
                          some (put (put (put t88 98 v89) 99 v90) 100 v91, q10.2.1, q10.2.2 + 33))
                         (some (put (put (put t88 98 (.tuple #[])) 99 (.tuple #[])) 100 (.tuple #[]), q10.2.1, q10.2.2 + 33))
                       ).bind fun (q87 : R3) =>
                       (pickV (q87.1 97) (q87.1 100) (.bool false)).bind fun v92 =>
                       let t94 : Tm := put (put q87.1 101 v92) 102 v92
                       (gsel v92 true
                         ((fieldA 4 (t94 2)).bind fun v95 =>
                          (ld false 1 v95 q87.2.1).bind fun v96 =>
                          (binK .plain .eql v96 (.int .i64 0)).bind fun v97 =>
                          some (put (put (put t94 103 v95) 104 v96) 105 v97, q87.2.1, q87.2.2))
                         (some (put (put (put t94 103 (.tuple #[])) 104 (.tuple #[])) 105 (.tuple #[]), q87.2.1, q87.2.2))
                       ).bind fun (q93 : R3) =>
                       (pickV (q93.1 102) (q93.1 105) (.bool false)).bind fun v98 =>
                       let t100 : Tm := put (put q93.1 106 v98) 107 v98
                       (gsel v98 true
                         ((fieldA 2 (t100 2)).bind fun v101 =>
                          (ld false 1 v101 q93.2.1).bind fun v102 =>
                          (binK .plain .eql v102 (.string ⟨#[]⟩)).bind fun v103 =>
                          some (put (put (put t100 108 v101) 109 v102) 110 v103, q93.2.1, q93.2.2))
                         (some (put (put (put t100 108 (.tuple #[])) 109 (.tuple #[])) 110 (.tuple #[]), q93.2.1, q93.2.2))
                       ).bind fun (q99 : R3) =>
                       (pickV (q99.1 107) (q99.1 110) (.bool false)).bind fun v104 =>
                       some (v104, q99.2.1, q99.2.2))
                      ((binK .plain .eql v12 (.int .i64 8)).bind fun v105 =>
                       csel v105
                         ((fieldA 1 (ptr (n) 0)).bind fun v106 =>
                          (ld false 1 v106 q10.2.1).bind fun v107 =>
                          (C 86 [v107, .int .i64 0, .int .i64 99] q10.2.1 (q10.2.2 + 29)).bind fun q108 =>
                          let t110 : Tm := put (put (put (put (put (put (put (put (put (put (put (put (put (put (put (put (put (put (put (put (put (put (put (put (put (put (put (put (put (put (put (put (put (put (put (put t 2 (ptr (n) 0)) 4 (.bool false)) 7 v3) 8 v4) 9 (t 1)) 10 v5) 11 q6.1) 5 q6.1) 12 v7) 13 v8) 14 (t 1)) 15 v9) 16 q10.1) 6 q10.1) 17 v11) 18 v12) 20 v13) 19 v13) 25 v17) 24 v17) 37 v29) 36 v29) 49 v41) 48 v41) 61 v53) 60 v53) 77 v67) 76 v67) 95 v86) 94 v86) 113 v105) 112 v105) 114 v106) 115 v107) 116 q108.1) 117 q108.1
                          (gsel q108.1 true
                            ((ld true 5 (ptr (n) 0) q108.2.1).bind fun v111 =>
                             (fieldA 1 (ptr (n) 0)).bind fun v112 =>
                             (ld false 1 v112 q108.2.1).bind fun v113 =>
                             (bld [.int .i64 0, .int .i64 0, .string ⟨#[]⟩, .int .i64 0, .int .i64 0] [(0, 1, .int .i64 8), (1, 1, v113)]).bind fun v114 =>
                             (binK (.agg [(0, (.int .i64)), (1, (.int .i64)), (2, .string), (3, (.int .i64)), (4, (.int .i64))]) .eql v111 v114).bind fun v115 =>
                             some (put (put (put (put (put t110 118 v111) 119 v112) 120 v113) 121 v114) 122 v115, q108.2.1, q108.2.2))
                            (some (put (put (put (put (put t110 118 (.tuple #[])) 119 (.tuple #[])) 120 (.tuple #[])) 121 (.tuple #[])) 122 (.tuple #[]), q108.2.1, q108.2.2))
                          ).bind fun (q109 : R3) =>
                          (pickV (q109.1 117) (q109.1 122) (.bool false)).bind fun v116 =>
                          some (v116, q109.2.1, q109.2.2))
                         ((binK .plain .eql v12 (.int .i64 9)).bind fun v117 =>
                          csel v117
                            ((fieldA 1 (ptr (n) 0)).bind fun v118 =>
                             (ld false 1 v118 q10.2.1).bind fun v119 =>
                             (C 86 [v119, .int .i64 0, .int .i64 1000000000] q10.2.1 (q10.2.2 + 31)).bind fun q120 =>
                             let t122 : Tm := put (put (put (put (put (put (put (put (put (put (put (put (put (put (put (put (put (put (put (put (put (put (put (put (put (put (put (put (put (put (put (put (put (put (put (put (put (put t 2 (ptr (n) 0)) 4 (.bool false)) 7 v3) 8 v4) 9 (t 1)) 10 v5) 11 q6.1) 5 q6.1) 12 v7) 13 v8) 14 (t 1)) 15 v9) 16 q10.1) 6 q10.1) 17 v11) 18 v12) 20 v13) 19 v13) 25 v17) 24 v17) 37 v29) 36 v29) 49 v41) 48 v41) 61 v53) 60 v53) 77 v67) 76 v67) 95 v86) 94 v86) 113 v105) 112 v105) 125 v117) 124 v117) 126 v118) 127 v119) 128 q120.1) 129 q120.1
                             (gsel q120.1 true
                               ((ld true 5 (ptr (n) 0) q120.2.1).bind fun v123 =>
                                (fieldA 1 (ptr (n) 0)).bind fun v124 =>
                                (ld false 1 v124 q120.2.1).bind fun v125 =>
                                (bld [.int .i64 0, .int .i64 0, .string ⟨#[]⟩, .int .i64 0, .int .i64 0] [(0, 1, .int .i64 9), (1, 1, v125)]).bind fun v126 =>
                                (binK (.agg [(0, (.int .i64)), (1, (.int .i64)), (2, .string), (3, (.int .i64)), (4, (.int .i64))]) .eql v123 v126).bind fun v127 =>
                                some (put (put (put (put (put t122 130 v123) 131 v124) 132 v125) 133 v126) 134 v127, q120.2.1, q120.2.2))
                               (some (put (put (put (put (put t122 130 (.tuple #[])) 131 (.tuple #[])) 132 (.tuple #[])) 133 (.tuple #[])) 134 (.tuple #[]), q120.2.1, q120.2.2))
                             ).bind fun (q121 : R3) =>
                             (pickV (q121.1 129) (q121.1 134) (.bool false)).bind fun v128 =>
                             some (v128, q121.2.1, q121.2.2))
                            (some (.bool false, q10.2.1, q10.2.2 + 21))))))))))
theorem s85 (C : Calling) (L : Body → Body) (t : Tm) (H : Hp) (n : Nat) : bodyK Try.prog C L Try.f85 t H n = S85 C L t H n := by kernel_rfl
theorem c85 (args : List Value) (H : Hp) (n : Nat) : Call Try.prog 85 args H n = S85 (Call Try.prog) Loop (argsT args) H n := (Call_body Try.func85 args H n).trans (s85 ..)
/-! 86: spec.l1In -/
noncomputable def S86 (C : Calling) (L : Body → Body) (t : Tm) (H : Hp) (n : Nat) : Option (Value × Hp × Nat) :=
  (binK .plain .geq (t 0) (t 1)).bind fun v1 =>
  let t3 : Tm := put (put (put (put (put t 6 (.bool false)) 7 (t 0)) 8 (t 1)) 9 v1) 10 v1
  (gsel v1 true
    ((binK .plain .leq (t3 0) (t3 2)).bind fun v4 =>
     some (put (put (put t3 11 (t3 0)) 12 (t3 2)) 13 v4, H, n + 10))
    (some (put (put (put t3 11 (.tuple #[])) 12 (.tuple #[])) 13 (.tuple #[]), H, n + 10))
  ).bind fun (q2 : R3) =>
  (pickV (q2.1 10) (q2.1 13) (.bool false)).bind fun v5 =>
  some (v5, q2.2.1, q2.2.2)
theorem s86 (C : Calling) (L : Body → Body) (t : Tm) (H : Hp) (n : Nat) : bodyK Try.prog C L Try.f86 t H n = S86 C L t H n := by kernel_rfl
theorem c86 (args : List Value) (H : Hp) (n : Nat) : Call Try.prog 86 args H n = S86 (Call Try.prog) Loop (argsT args) H n := (Call_body Try.func86 args H n).trans (s86 ..)
/-! 87: laws.szNode -/
noncomputable def S87 (C : Calling) (L : Body → Body) (t : Tm) (H : Hp) (n : Nat) : Option (Value × Hp × Nat) :=
  (vcells (t 0)).bind fun c2 =>
  let H1 := H.set (n) (some (.row c2 0 true))
  (fieldA 2 (ptr (n) 0)).bind fun v3 =>
  (ld false 1 v3 H1).bind fun v4 =>
  (lenV true v4).bind fun v5 =>
  (binK .plain .sub (t 1) v5).bind fun v6 =>
  (binK .plain .lss v6 (.int .i64 0)).bind fun v7 =>
  csel v7
    (some (.int .i64 (-1), H1, n + 11))
    (some (v6, H1, n + 12))
theorem s87 (C : Calling) (L : Body → Body) (t : Tm) (H : Hp) (n : Nat) : bodyK Try.prog C L Try.f87 t H n = S87 C L t H n := by kernel_rfl
theorem c87 (args : List Value) (H : Hp) (n : Nat) : Call Try.prog 87 args H n = S87 (Call Try.prog) Loop (argsT args) H n := (Call_body Try.func87 args H n).trans (s87 ..)
/-! 88: spec.l7Into -/
noncomputable def S88L0 (C : Calling) (L : Body → Body) : Body := fun t H n =>
  (fieldA 0 (t 4)).bind fun v8 =>
  (ld false 1 v8 H).bind fun v9 =>
  (lenV false v9).bind fun v10 =>
  (binK .plain .lss (t 8) v10).bind fun v11 =>
  csel v11
    (let t13 : Tm := put (put (put (put (put t 14 (t 8)) 15 v8) 16 v9) 17 v10) 18 v11
     Option.bind
       ((idxA 1 (t13 2) (t13 8)).bind fun v14 =>
        (ld false 1 v14 H).bind fun v15 =>
        (un .not v15).bind fun v16 =>
        csel v16
          (some ⟨(.exit 1), put (put (put (put (put t13 21 (t13 2)) 22 (t13 8)) 23 v14) 24 v15) 25 v16, H, n + 10⟩)
          ((fieldA 0 (t13 4)).bind fun v17 =>
           (ld false 1 v17 H).bind fun v18 =>
           (idxA 5 v18 (t13 8)).bind fun v19 =>
           (ld true 5 v19 H).bind fun v20 =>
           let H21 := H.set (n + 15) (some (.row [.int .i64 0, .int .i64 0, .string ⟨#[]⟩, .int .i64 0, .int .i64 0] 0 true))
           (st true 5 (ptr (n + 15) 0) v20 H21).bind fun H22 =>
           (fieldA 0 (ptr (n + 15) 0)).bind fun v23 =>
           (ld false 1 v23 H22).bind fun v24 =>
           (binK .plain .eql v24 (.int .i64 5)).bind fun v25 =>
           let t27 : Tm := put (put (put (put (put (put (put (put (put (put (put (put (put (put (put t13 21 (t13 2)) 22 (t13 8)) 23 v14) 24 v15) 25 v16) 26 v17) 27 v18) 28 (t13 8)) 29 v19) 30 v20) 9 (ptr (n + 15) 0)) 31 v23) 32 v24) 34 v25) 33 v25
           (csel v25
             ((fieldA 3 (ptr (n + 15) 0)).bind fun v28 =>
              (ld false 1 v28 H22).bind fun v29 =>
              (idxA 1 (t27 7) v29).bind fun v30 =>
              (ld false 1 v30 H22).bind fun v31 =>
              (fieldA 3 (ptr (n + 15) 0)).bind fun v32 =>
              (st false 1 v32 v31 H22).bind fun H33 =>
              (fieldA 4 (ptr (n + 15) 0)).bind fun v34 =>
              (ld false 1 v34 H33).bind fun v35 =>
              (idxA 1 (t27 7) v35).bind fun v36 =>
              (ld false 1 v36 H33).bind fun v37 =>
              (fieldA 4 (ptr (n + 15) 0)).bind fun v38 =>
              (st false 1 v38 v37 H33).bind fun H39 =>
              some ⟨.normal, put (put (put (put (put (put (put (put (put (put (put (put t27 35 (t27 7)) 36 v28) 37 v29) 38 v30) 39 v31) 40 v32) 41 (t27 7)) 42 v34) 43 v35) 44 v36) 45 v37) 46 v38, H39, n + 35⟩)
             ((binK .plain .eql v24 (.int .i64 6)).bind fun v40 =>
              let t42 : Tm := put (put t27 48 v40) 47 v40
              (csel v40
                (some ⟨.normal, t42, H22, n + 23⟩)
                ((binK .plain .eql v24 (.int .i64 7)).bind fun v43 =>
                 some ⟨.normal, put (put t42 49 v43) 47 v43, H22, n + 25⟩)
              ).bind fun (o41 : Out) =>
              (csel (o41.t 47)
                ((fieldA 3 (o41.t 9)).bind fun v46 =>
                 (ld false 1 v46 o41.H).bind fun v47 =>
                 (idxA 1 (o41.t 7) v47).bind fun v48 =>
                 (ld false 1 v48 o41.H).bind fun v49 =>
                 (fieldA 3 (o41.t 9)).bind fun v50 =>
                 (st false 1 v50 v49 o41.H).bind fun H51 =>
                 some ⟨.normal, put (put (put (put (put (put o41.t 50 (o41.t 7)) 51 v46) 52 v47) 53 v48) 54 v49) 55 v50, H51, o41.n + 7⟩)
                (some ⟨.normal, o41.t, o41.H, o41.n⟩)
              ).bind fun (o44 : Out) =>
              some ⟨.normal, o44.t, o44.H, o44.n⟩)
           ).bind fun (o26 : Out) =>
           (ld true 5 (o26.t 9) o26.H).bind fun v52 =>
           (C 63 [o26.t 0, v52] o26.H (o26.n + 7)).bind fun q53 =>
           (idxA 1 (o26.t 7) (o26.t 8)).bind fun v54 =>
           (st false 1 v54 q53.1 q53.2.1).bind fun H55 =>
           some ⟨.normal, put (put (put (put (put (put o26.t 56 (o26.t 7)) 57 (o26.t 8)) 58 (o26.t 0)) 59 v52) 60 q53.1) 61 v54, H55, q53.2.2⟩))
     fun (o12 : Out) =>
     (binK .plain .add (o12.t 8) (.int .i64 1)).bind fun v56 =>
     some ⟨.normal, put (put (put o12.t 19 (o12.t 8)) 20 v56) 8 v56, o12.H, o12.n + 3⟩)
    (some ⟨(.exit 0), put (put (put (put (put t 14 (t 8)) 15 v8) 16 v9) 17 v10) 18 v11, H, n + 5⟩)
noncomputable def S88 (C : Calling) (L : Body → Body) (t : Tm) (H : Hp) (n : Nat) : Option (Value × Hp × Nat) :=
  (vcells (t 1)).bind fun c2 =>
  let H1 := H.set (n) (some (.row c2 0 true))
  (fieldA 0 (ptr (n) 0)).bind fun v3 =>
  (ld false 1 v3 H1).bind fun v4 =>
  (lenV false v4).bind fun v5 =>
  (mks (n + 5) 1 8 [.int .i64 0] v5 v5 H1).bind fun p6 =>
  (L (S88L0 C L) (put (put (put (put (put (put (put (put t 4 (ptr (n) 0)) 6 nilS) 10 v3) 11 v4) 12 v5) 13 p6.1) 7 p6.1) 8 (.int .i64 0)) p6.2 (n + 8)).bind fun (o7 : Out) =>
  some (o7.t 7, o7.H, o7.n + 2)
theorem s88 (C : Calling) (L : Body → Body) (t : Tm) (H : Hp) (n : Nat) : bodyK Try.prog C L Try.f88 t H n = S88 C L t H n := by kernel_rfl
theorem c88 (args : List Value) (H : Hp) (n : Nat) : Call Try.prog 88 args H n = S88 (Call Try.prog) Loop (argsT args) H n := (Call_body Try.func88 args H n).trans (s88 ..)
/-! 89: spec.l7Reach -/
noncomputable def S89L1 (C : Calling) (L : Body → Body) : Body := fun t H n =>
  (binK .plain .geq (t 7) (.int .i64 0)).bind fun v20 =>
  csel v20
    (let t22 : Tm := put (put t 29 (t 7)) 30 v20
     Option.bind
       ((fieldA 0 (t22 2)).bind fun v23 =>
        (ld false 1 v23 H).bind fun v24 =>
        (idxA 5 v24 (t22 7)).bind fun v25 =>
        (ld true 5 v25 H).bind fun v26 =>
        let H27 := H.set (n + 7) (some (.row [.int .i64 0, .int .i64 0, .string ⟨#[]⟩, .int .i64 0, .int .i64 0] 0 true))
        (st true 5 (ptr (n + 7) 0) v26 H27).bind fun H28 =>
        (idxA 1 (t22 5) (t22 7)).bind fun v29 =>
        (ld false 1 v29 H28).bind fun v30 =>
        (un .not v30).bind fun v31 =>
        csel v31
          (some ⟨(.exit 3), put (put (put (put (put (put (put (put (put (put (put t22 33 v23) 34 v24) 35 (t22 7)) 36 v25) 37 v26) 8 (ptr (n + 7) 0)) 38 (t22 5)) 39 (t22 7)) 40 v29) 41 v30) 42 v31, H28, n + 14⟩)
          ((fieldA 0 (ptr (n + 7) 0)).bind fun v32 =>
           (ld false 1 v32 H28).bind fun v33 =>
           (binK .plain .eql v33 (.int .i64 5)).bind fun v34 =>
           let t36 : Tm := put (put (put (put (put (put (put (put (put (put (put (put (put (put (put t22 33 v23) 34 v24) 35 (t22 7)) 36 v25) 37 v26) 8 (ptr (n + 7) 0)) 38 (t22 5)) 39 (t22 7)) 40 v29) 41 v30) 42 v31) 43 v32) 44 v33) 46 v34) 45 v34
           (csel v34
             ((fieldA 3 (ptr (n + 7) 0)).bind fun v37 =>
              (ld false 1 v37 H28).bind fun v38 =>
              (idxA 1 (t36 5) v38).bind fun v39 =>
              (st false 1 v39 (.bool true) H28).bind fun H40 =>
              (fieldA 4 (ptr (n + 7) 0)).bind fun v41 =>
              (ld false 1 v41 H40).bind fun v42 =>
              (idxA 1 (t36 5) v42).bind fun v43 =>
              (st false 1 v43 (.bool true) H40).bind fun H44 =>
              some ⟨.normal, put (put (put (put (put (put (put (put t36 47 (t36 5)) 48 v37) 49 v38) 50 v39) 51 (t36 5)) 52 v41) 53 v42) 54 v43, H44, n + 28⟩)
             ((binK .plain .eql v33 (.int .i64 6)).bind fun v45 =>
              let t47 : Tm := put (put t36 56 v45) 55 v45
              (csel v45
                (some ⟨.normal, t47, H28, n + 20⟩)
                ((binK .plain .eql v33 (.int .i64 7)).bind fun v48 =>
                 some ⟨.normal, put (put t47 57 v48) 55 v48, H28, n + 22⟩)
              ).bind fun (o46 : Out) =>
              (csel (o46.t 55)
                ((fieldA 3 (o46.t 8)).bind fun v51 =>
                 (ld false 1 v51 o46.H).bind fun v52 =>
                 (idxA 1 (o46.t 5) v52).bind fun v53 =>
                 (st false 1 v53 (.bool true) o46.H).bind fun H54 =>
                 some ⟨.normal, put (put (put (put o46.t 58 (o46.t 5)) 59 v51) 60 v52) 61 v53, H54, o46.n + 5⟩)
                (some ⟨.normal, o46.t, o46.H, o46.n⟩)
              ).bind fun (o49 : Out) =>
              some ⟨.normal, o49.t, o49.H, o49.n⟩)
           ).bind fun (o35 : Out) =>
           some ⟨.normal, o35.t, o35.H, o35.n⟩))
     fun (o21 : Out) =>
     (binK .plain .sub (o21.t 7) (.int .i64 1)).bind fun v55 =>
     some ⟨.normal, put (put (put o21.t 31 (o21.t 7)) 32 v55) 7 v55, o21.H, o21.n + 3⟩)
    (some ⟨(.exit 2), put (put t 29 (t 7)) 30 v20, H, n + 2⟩)
noncomputable def S89L0 (C : Calling) (L : Body → Body) : Body := fun t H n =>
  (lenV false (t 1)).bind fun v8 =>
  (binK .plain .lss (t 6) v8).bind fun v9 =>
  csel v9
    ((idxA 1 (t 1) (t 6)).bind fun v10 =>
     (ld false 1 v10 H).bind fun v11 =>
     (idxA 1 (t 5) v11).bind fun v12 =>
     (st false 1 v12 (.bool true) H).bind fun H13 =>
     (binK .plain .add (t 6) (.int .i64 1)).bind fun v14 =>
     some ⟨.normal, put (put (put (put (put (put (put (put (put (put (put (put (put t 13 (t 6)) 14 (t 1)) 15 v8) 16 v9) 19 (t 5)) 20 (t 1)) 21 (t 6)) 22 v10) 23 v11) 24 v12) 17 (t 6)) 18 v14) 6 v14, H13, n + 14⟩)
    (some ⟨(.exit 0), put (put (put (put t 13 (t 6)) 14 (t 1)) 15 v8) 16 v9, H, n + 4⟩)
noncomputable def S89 (C : Calling) (L : Body → Body) (t : Tm) (H : Hp) (n : Nat) : Option (Value × Hp × Nat) :=
  (vcells (t 0)).bind fun c2 =>
  let H1 := H.set (n) (some (.row c2 0 true))
  (fieldA 0 (ptr (n) 0)).bind fun v3 =>
  (ld false 1 v3 H1).bind fun v4 =>
  (lenV false v4).bind fun v5 =>
  (mks (n + 5) 1 1 [.bool false] v5 v5 H1).bind fun p6 =>
  (L (S89L0 C L) (put (put (put (put (put (put (put (put t 2 (ptr (n) 0)) 4 nilS) 9 v3) 10 v4) 11 v5) 12 p6.1) 5 p6.1) 6 (.int .i64 0)) p6.2 (n + 8)).bind fun (o7 : Out) =>
  (fieldA 0 (o7.t 2)).bind fun v15 =>
  (ld false 1 v15 o7.H).bind fun v16 =>
  (lenV false v16).bind fun v17 =>
  (binK .plain .sub v17 (.int .i64 1)).bind fun v18 =>
  (L (S89L1 C L) (put (put (put (put (put o7.t 25 v15) 26 v16) 27 v17) 28 v18) 7 v18) o7.H (o7.n + 5)).bind fun (o19 : Out) =>
  some (o19.t 5, o19.H, o19.n + 2)
theorem s89 (C : Calling) (L : Body → Body) (t : Tm) (H : Hp) (n : Nat) : bodyK Try.prog C L Try.f89 t H n = S89 C L t H n := by kernel_rfl
theorem c89 (args : List Value) (H : Hp) (n : Nat) : Call Try.prog 89 args H n = S89 (Call Try.prog) Loop (argsT args) H n := (Call_body Try.func89 args H n).trans (s89 ..)
/-! 90: spec.PutNum -/
noncomputable def S90L0 (C : Calling) (L : Body → Body) : Body := fun t H n =>
  (binK .plain .gtr (t 0) (.int .i64 127)).bind fun v4 =>
  csel v4
    ((binK .plain .rem (t 0) (.int .i64 128)).bind fun v5 =>
     (binK .plain .add v5 (.int .i64 128)).bind fun v6 =>
     (conv (.toInt .u8) (n + 6) v6 H).bind fun p7 =>
     (bsl (n + 7) 1 1 [.int .u8 0] [(0, 1, p7.1)] p7.2).bind fun p8 =>
     (app (n + 8) 1 1 (t 3) p8.1 p8.2).bind fun p9 =>
     (binK .plain .quo (t 0) (.int .i64 128)).bind fun v10 =>
     some ⟨.normal, put (put (put (put (put (put (put (put (put (put (put (put (put t 8 (t 0)) 9 v4) 10 (t 3)) 11 (t 0)) 12 v5) 13 v6) 14 p7.1) 15 p8.1) 16 p9.1) 3 p9.1) 17 (t 0)) 18 v10) 0 v10, p9.2, n + 13⟩)
    (some ⟨(.exit 0), put (put t 8 (t 0)) 9 v4, H, n + 2⟩)
noncomputable def S90 (C : Calling) (L : Body → Body) (t : Tm) (H : Hp) (n : Nat) : Option (Value × Hp × Nat) :=
  (bsl (n + 1) 1 0 [.int .u8 0] [] H).bind fun p1 =>
  (binK .plain .lss (t 0) (.int .i64 0)).bind fun v2 =>
  csel v2
    (some (p1.1, p1.2, n + 7))
    ((L (S90L0 C L) (put (put (put (put (put t 2 nilS) 4 p1.1) 3 p1.1) 5 (t 0)) 6 v2) p1.2 (n + 5)).bind fun (o3 : Out) =>
     (conv (.toInt .u8) (o3.n + 2) (o3.t 0) o3.H).bind fun p11 =>
     (bsl (o3.n + 3) 1 1 [.int .u8 0] [(0, 1, p11.1)] p11.2).bind fun p12 =>
     (app (o3.n + 4) 1 1 (o3.t 3) p12.1 p12.2).bind fun p13 =>
     some (p13.1, p13.2, o3.n + 6))
theorem s90 (C : Calling) (L : Body → Body) (t : Tm) (H : Hp) (n : Nat) : bodyK Try.prog C L Try.f90 t H n = S90 C L t H n := by kernel_rfl
theorem c90 (args : List Value) (H : Hp) (n : Nat) : Call Try.prog 90 args H n = S90 (Call Try.prog) Loop (argsT args) H n := (Call_body Try.func90 args H n).trans (s90 ..)
/-! 91: spec.PutText -/
noncomputable def S91 (C : Calling) (L : Body → Body) (t : Tm) (H : Hp) (n : Nat) : Option (Value × Hp × Nat) :=
  (lenV true (t 0)).bind fun v1 =>
  (C 90 [v1] H (n + 8)).bind fun q2 =>
  (conv .strToBytes (n + 5) (t 0) q2.2.1).bind fun p3 =>
  (app (n + 6) 1 1 q2.1 p3.1 p3.2).bind fun p4 =>
  some (p4.1, p4.2, q2.2.2)
theorem s91 (C : Calling) (L : Body → Body) (t : Tm) (H : Hp) (n : Nat) : bodyK Try.prog C L Try.f91 t H n = S91 C L t H n := by kernel_rfl
theorem c91 (args : List Value) (H : Hp) (n : Nat) : Call Try.prog 91 args H n = S91 (Call Try.prog) Loop (argsT args) H n := (Call_body Try.func91 args H n).trans (s91 ..)
/-! 92: laws.toNode -/
noncomputable def S92 (C : Calling) (L : Body → Body) (t : Tm) (H : Hp) (n : Nat) : Option (Value × Hp × Nat) :=
  (vcells (t 0)).bind fun c2 =>
  let H1 := H.set (n) (some (.row c2 0 true))
  let H3 := H1.set (n + 1) (some (.row [.int .i64 0, .int .i64 0, .string ⟨#[]⟩, .int .i64 0, .int .i64 0] 0 true))
  let H4 := H3.set (n + 2) (some (.row [.int .i64 0, .int .i64 0, .string ⟨#[]⟩, .int .i64 0, .int .i64 0] 0 true))
  (fieldA 0 (ptr (n) 0)).bind fun v5 =>
  (ld false 1 v5 H4).bind fun v6 =>
  (fieldA 0 (ptr (n + 2) 0)).bind fun v7 =>
  (st false 1 v7 v6 H4).bind fun H8 =>
  (fieldA 1 (ptr (n) 0)).bind fun v9 =>
  (ld false 1 v9 H8).bind fun v10 =>
  (fieldA 1 (ptr (n + 2) 0)).bind fun v11 =>
  (st false 1 v11 v10 H8).bind fun H12 =>
  (fieldA 2 (ptr (n) 0)).bind fun v13 =>
  (ld false 1 v13 H12).bind fun v14 =>
  (fieldA 2 (ptr (n + 2) 0)).bind fun v15 =>
  (st false 1 v15 v14 H12).bind fun H16 =>
  (fieldA 3 (ptr (n) 0)).bind fun v17 =>
  (ld false 1 v17 H16).bind fun v18 =>
  (fieldA 3 (ptr (n + 2) 0)).bind fun v19 =>
  (st false 1 v19 v18 H16).bind fun H20 =>
  (fieldA 4 (ptr (n) 0)).bind fun v21 =>
  (ld false 1 v21 H20).bind fun v22 =>
  (fieldA 4 (ptr (n + 2) 0)).bind fun v23 =>
  (st false 1 v23 v22 H20).bind fun H24 =>
  (ld true 5 (ptr (n + 2) 0) H24).bind fun v25 =>
  (st true 5 (ptr (n + 1) 0) v25 H24).bind fun H26 =>
  (ld true 5 (ptr (n + 1) 0) H26).bind fun v27 =>
  some (v27, H26, n + 25)
theorem s92 (C : Calling) (L : Body → Body) (t : Tm) (H : Hp) (n : Nat) : bodyK Try.prog C L Try.f92 t H n = S92 C L t H n := by kernel_rfl
theorem c92 (args : List Value) (H : Hp) (n : Nat) : Call Try.prog 92 args H n = S92 (Call Try.prog) Loop (argsT args) H n := (Call_body Try.func92 args H n).trans (s92 ..)
end Go.Proofs.Ytfdnlokpadbjnaa.Ax
