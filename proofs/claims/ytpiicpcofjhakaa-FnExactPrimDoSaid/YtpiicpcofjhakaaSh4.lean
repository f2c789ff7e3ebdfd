/- What the bodies of some functions of the program come to in the abstract machine. -/
import Derived.Test.YtpiicpcofjhakaaProg
import Derived.Test.YtpiicpcofjhakaaAx3
set_option linter.unusedVariables false
namespace Go.Proofs.Ytpiicpcofjhakaa.Ax
open Go
set_option maxRecDepth 100000
/-! 123: slices.Index[[]byte,byte] -/
noncomputable def S123L0 (C : Calling) (L : Body → Body) : Body := fun t H n =>
  (binK .plain .lss (t 8) (t 7)).bind fun v3 =>
  csel v3
    ((idxA 1 (t 0) (t 8)).bind fun v4 =>
     (ld false 1 v4 H).bind fun v5 =>
     (binK .plain .eql (t 1) v5).bind fun v6 =>
     csel v6
       (some ⟨.ret, put (put (put (put (put (put (put (put (put (put (put t 9 v3) 10 (t 8)) 5 (t 8)) 11 (t 1)) 12 (t 0)) 13 (t 8)) 14 v4) 15 v5) 16 v6) 17 (t 8)) 4 (t 8), H, n + 11⟩)
       ((binK .plain .add (t 8) (.int .i64 1)).bind fun v7 =>
        some ⟨.normal, put (put (put (put (put (put (put (put (put (put (put t 9 v3) 10 (t 8)) 5 (t 8)) 11 (t 1)) 12 (t 0)) 13 (t 8)) 14 v4) 15 v5) 16 v6) 18 v7) 8 v7, H, n + 11⟩))
    (some ⟨(.exit 0), put t 9 v3, H, n + 1⟩)
noncomputable def S123 (C : Calling) (L : Body → Body) (t : Tm) (H : Hp) (n : Nat) : Option (Value × Hp × Nat) :=
  (lenV false (t 0)).bind fun v1 =>
  (L (S123L0 C L) (put (put (put (put t 4 (.int .i64 0)) 6 (t 0)) 7 v1) 8 (.int .i64 0)) H (n + 4)).bind fun (o2 : Out) =>
  let o8 := outOf 0 o2
  thenK o8
    (some (.int .i64 (-1), o8.H, o8.n + 1))
    (finE o8.e
       (some (o8.t 4, o8.H, o8.n)))
theorem s123 (C : Calling) (L : Body → Body) (t : Tm) (H : Hp) (n : Nat) : bodyK Try.prog C L Try.f123 t H n = S123 C L t H n := by kernel_rfl
theorem c123 (args : List Value) (H : Hp) (n : Nat) : Call Try.prog 123 args H n = S123 (Call Try.prog) Loop (argsT args) H n := (Call_body Try.func123 args H n).trans (s123 ..)
/-! 124: spec.l2DrawAtom -/
noncomputable def S124 (C : Calling) (L : Body → Body) (t : Tm) (H : Hp) (n : Nat) : Option (Value × Hp × Nat) :=
  let H1 := H.set (n) (some (.row [.int .i64 0, .int .i64 0, .string ⟨#[]⟩, .int .i64 0, .int .i64 0] 0 true))
  (C 56 [t 0, .int .i64 8] H1 (n + 3)).bind fun q2 =>
  (binK .plain .eql q2.1 (.int .i64 0)).bind fun v3 =>
  csel v3
    ((bld [.int .i64 0, .int .i64 0, .string ⟨#[]⟩, .int .i64 0, .int .i64 0] [(0, 1, .int .i64 1)]).bind fun v4 =>
     (st true 5 (ptr (n) 0) v4 q2.2.1).bind fun H5 =>
     (ld true 5 (ptr (n) 0) H5).bind fun v6 =>
     some (v6, H5, q2.2.2 + 4))
    ((binK .plain .eql q2.1 (.int .i64 1)).bind fun v7 =>
     csel v7
       ((C 56 [t 0, .int .i64 2] q2.2.1 (q2.2.2 + 8)).bind fun q8 =>
        (bld [.int .i64 0, .int .i64 0, .string ⟨#[]⟩, .int .i64 0, .int .i64 0] [(0, 1, .int .i64 2), (1, 1, q8.1)]).bind fun v9 =>
        (st true 5 (ptr (n) 0) v9 q8.2.1).bind fun H10 =>
        (ld true 5 (ptr (n) 0) H10).bind fun v11 =>
        some (v11, H10, q8.2.2))
       ((binK .plain .eql q2.1 (.int .i64 2)).bind fun v12 =>
        csel v12
          ((bsl (q2.2.2 + 7) 1 6 [.string ⟨#[]⟩] [(0, 1, .string ⟨#[97]⟩), (1, 1, .string ⟨#[98, 99]⟩), (2, 1, .string ⟨#[120]⟩), (3, 1, .string ⟨#[102]⟩), (4, 1, .string ⟨#[43]⟩), (5, 1, .string ⟨#[108, 105, 115, 116]⟩)] q2.2.1).bind fun p13 =>
           (C 118 [t 0, p13.1] p13.2 (q2.2.2 + 11)).bind fun q14 =>
           (bld [.int .i64 0, .int .i64 0, .string ⟨#[]⟩, .int .i64 0, .int .i64 0] [(0, 1, .int .i64 4), (2, 1, q14.1)]).bind fun v15 =>
           (st true 5 (ptr (n) 0) v15 q14.2.1).bind fun H16 =>
           (ld true 5 (ptr (n) 0) H16).bind fun v17 =>
           some (v17, H16, q14.2.2))
          ((binK .plain .eql q2.1 (.int .i64 3)).bind fun v18 =>
           csel v18
             ((C 56 [t 0, .int .i64 5] q2.2.1 (q2.2.2 + 12)).bind fun q19 =>
              (bld [.int .i64 0, .int .i64 0, .string ⟨#[]⟩, .int .i64 0, .int .i64 0] [(0, 1, .int .i64 9), (1, 1, q19.1)]).bind fun v20 =>
              (st true 5 (ptr (n) 0) v20 q19.2.1).bind fun H21 =>
              (ld true 5 (ptr (n) 0) H21).bind fun v22 =>
              some (v22, H21, q19.2.2))
             ((binK .plain .eql q2.1 (.int .i64 4)).bind fun v23 =>
              csel v23
                ((C 56 [t 0, .int .i64 5] q2.2.1 (q2.2.2 + 14)).bind fun q24 =>
                 (bld [.int .i64 0, .int .i64 0, .string ⟨#[]⟩, .int .i64 0, .int .i64 0] [(0, 1, .int .i64 8), (1, 1, q24.1)]).bind fun v25 =>
                 (st true 5 (ptr (n) 0) v25 q24.2.1).bind fun H26 =>
                 (ld true 5 (ptr (n) 0) H26).bind fun v27 =>
                 some (v27, H26, q24.2.2))
                ((C 56 [t 0, .int .i64 12] q2.2.1 (q2.2.2 + 15)).bind fun q28 =>
                 (binK .plain .sub q28.1 (.int .i64 3)).bind fun v29 =>
                 (bld [.int .i64 0, .int .i64 0, .string ⟨#[]⟩, .int .i64 0, .int .i64 0] [(0, 1, .int .i64 3), (1, 1, v29)]).bind fun v30 =>
                 (st true 5 (ptr (n) 0) v30 q28.2.1).bind fun H31 =>
                 (ld true 5 (ptr (n) 0) H31).bind fun v32 =>
                 some (v32, H31, q28.2.2))))))
theorem s124 (C : Calling) (L : Body → Body) (t : Tm) (H : Hp) (n : Nat) : bodyK Try.prog C L Try.f124 t H n = S124 C L t H n := by kernel_rfl
theorem c124 (args : List Value) (H : Hp) (n : Nat) : Call Try.prog 124 args H n = S124 (Call Try.prog) Loop (argsT args) H n := (Call_body Try.func124 args H n).trans (s124 ..)
/-! 125: impl.classes -/
noncomputable def S125L0 (C : Calling) (L : Body → Body) : Body := fun t H n =>
  (binK .plain .lss (t 14) (t 13)).bind fun v9 =>
  csel v9
    ((idxA 5 (t 12) (t 14)).bind fun v10 =>
     (ld true 5 v10 H).bind fun v11 =>
     let H12 := H.set (n + 4) (some (.row [.int .i64 0, .int .i64 0, .string ⟨#[]⟩, .int .i64 0, .int .i64 0] 0 true))
     (st true 5 (ptr (n + 4) 0) v11 H12).bind fun H13 =>
     (fieldA 0 (ptr (n + 4) 0)).bind fun v14 =>
     (ld false 1 v14 H13).bind fun v15 =>
     (binK .plain .eql v15 (.int .i64 5)).bind fun v16 =>
     let t18 : Tm := put (put (put (put (put (put (put (put (put (put t 15 v9) 16 (t 14)) 17 v10) 18 v11) 6 (ptr (n + 4) 0)) 5 (t 14)) 19 v14) 20 v15) 22 v16) 21 v16
     (csel v16
       ((fieldA 3 (ptr (n + 4) 0)).bind fun v19 =>
        (ld false 1 v19 H13).bind fun v20 =>
        (idxA 1 (t18 4) v20).bind fun v21 =>
        (ld false 1 v21 H13).bind fun v22 =>
        (fieldA 4 (ptr (n + 4) 0)).bind fun v23 =>
        (ld false 1 v23 H13).bind fun v24 =>
        (idxA 1 (t18 4) v24).bind fun v25 =>
        (ld false 1 v25 H13).bind fun v26 =>
        (fieldA 3 (ptr (n + 4) 0)).bind fun v27 =>
        (st false 1 v27 v22 H13).bind fun H28 =>
        ask (ld false 1 v25 H28 = some v26) <|
        (fieldA 4 (ptr (n + 4) 0)).bind fun v29 =>
        (st false 1 v29 v26 H28).bind fun H30 =>
        some ⟨.normal, put (put (put (put (put (put (put (put (put (put (put (put t18 23 (t18 4)) 24 v19) 25 v20) 26 v21) 27 v22) 28 (t18 4)) 29 v23) 30 v24) 31 v25) 32 v26) 33 v27) 34 v29, H30, n + 25⟩)
       ((binK .plain .eql v15 (.int .i64 6)).bind fun v31 =>
        let t33 : Tm := put (put t18 36 v31) 35 v31
        (csel v31
          (some ⟨.normal, t33, H13, n + 13⟩)
          ((binK .plain .eql v15 (.int .i64 7)).bind fun v34 =>
           some ⟨.normal, put (put t33 37 v34) 35 v34, H13, n + 15⟩)
        ).bind fun (o32 : Out) =>
        (csel (o32.t 35)
          ((fieldA 3 (o32.t 6)).bind fun v37 =>
           (ld false 1 v37 o32.H).bind fun v38 =>
           (idxA 1 (o32.t 4) v38).bind fun v39 =>
           (ld false 1 v39 o32.H).bind fun v40 =>
           (fieldA 3 (o32.t 6)).bind fun v41 =>
           (st false 1 v41 v40 o32.H).bind fun H42 =>
           some ⟨.normal, put (put (put (put (put (put o32.t 38 (o32.t 4)) 39 v37) 40 v38) 41 v39) 42 v40) 43 v41, H42, o32.n + 7⟩)
          (some ⟨.normal, o32.t, o32.H, o32.n⟩)
        ).bind fun (o35 : Out) =>
        some ⟨.normal, o35.t, o35.H, o35.n⟩)
     ).bind fun (o17 : Out) =>
     (ld true 5 (o17.t 6) o17.H).bind fun v43 =>
     (lookV [(0, (.int .i64)), (1, (.int .i64)), (2, .string), (3, (.int .i64)), (4, (.int .i64))] (.int .i64 0) true (o17.t 3) v43 o17.H).bind fun v44 =>
     (ext 0 v44).bind fun v45 =>
     (ext 1 v44).bind fun v46 =>
     (un .not v46).bind fun v47 =>
     let t49 : Tm := put (put (put (put (put (put (put (put (put (put o17.t 45 (o17.t 3)) 46 v43) 47 v44) 44 v44) 48 v45) 49 v46) 7 v45) 8 v46) 50 v46) 51 v47
     (csel v47
       ((ld true 5 (t49 6) o17.H).bind fun v50 =>
        (updV [(0, (.int .i64)), (1, (.int .i64)), (2, .string), (3, (.int .i64)), (4, (.int .i64))] (t49 3) v50 (t49 5) o17.H).bind fun H51 =>
        some ⟨.normal, put (put (put (put (put t49 52 (t49 5)) 7 (t49 5)) 53 (t49 3)) 54 v50) 55 (t49 5), H51, o17.n + 16⟩)
       (some ⟨.normal, t49, o17.H, o17.n + 10⟩)
     ).bind fun (o48 : Out) =>
     (bsl (o48.n + 2) 1 1 [.int .i64 0] [(0, 1, o48.t 7)] o48.H).bind fun p52 =>
     (app (o48.n + 3) 1 8 (o48.t 4) p52.1 p52.2).bind fun p53 =>
     (binK .plain .add (o48.t 14) (.int .i64 1)).bind fun v54 =>
     some ⟨.normal, put (put (put (put (put (put (put o48.t 56 (o48.t 4)) 57 (o48.t 7)) 58 p52.1) 59 p53.1) 4 p53.1) 60 v54) 14 v54, p53.2, o48.n + 7⟩)
    (some ⟨(.exit 0), put t 15 v9, H, n + 1⟩)
noncomputable def S125 (C : Calling) (L : Body → Body) (t : Tm) (H : Hp) (n : Nat) : Option (Value × Hp × Nat) :=
  (vcells (t 0)).bind fun c2 =>
  let H1 := H.set (n) (some (.row c2 0 true))
  let H3 := H1.set (n + 2) (some (.map []))
  (bsl (n + 4) 1 0 [.int .i64 0] [] H3).bind fun p4 =>
  (fieldA 0 (ptr (n) 0)).bind fun v5 =>
  (ld false 1 v5 p4.2).bind fun v6 =>
  (lenV false v6).bind fun v7 =>
  (L (S125L0 C L) (put (put (put (put (put (put (put (put (put (put t 1 (ptr (n) 0)) 2 nilS) 9 (.map (some (n + 2)))) 3 (.map (some (n + 2)))) 10 p4.1) 4 p4.1) 11 v5) 12 v6) 13 v7) 14 (.int .i64 0)) p4.2 (n + 10)).bind fun (o8 : Out) =>
  some (o8.t 4, o8.H, o8.n + 2)
theorem s125 (C : Calling) (L : Body → Body) (t : Tm) (H : Hp) (n : Nat) : bodyK Try.prog C L Try.f125 t H n = S125 C L t H n := by kernel_rfl
theorem c125 (args : List Value) (H : Hp) (n : Nat) : Call Try.prog 125 args H n = S125 (Call Try.prog) Loop (argsT args) H n := (Call_body Try.func125 args H n).trans (s125 ..)
end Go.Proofs.Ytpiicpcofjhakaa.Ax
