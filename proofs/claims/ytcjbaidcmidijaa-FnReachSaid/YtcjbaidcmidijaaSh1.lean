/- What the bodies of some functions of the program come to in the abstract machine. -/
import Derived.Test.YtcjbaidcmidijaaProg
import Derived.Test.YtcjbaidcmidijaaAx3
set_option linter.unusedVariables false
namespace Go.Proofs.Ytcjbaidcmidijaa.Ax
open Go
set_option maxRecDepth 100000
/-! 33: laws.markBoolS -/
noncomputable def S33L0 (C : Calling) (L : Body → Body) : Body := fun t H n =>
  (lenV false (t 0)).bind fun v2 =>
  (binK .plain .lss (t 5) v2).bind fun v3 =>
  csel v3
    ((binK .plain .rem (t 1) (.int .i64 3)).bind fun v4 =>
     (binK .plain .eql v4 (.int .i64 0)).bind fun v5 =>
     (idxA 1 (t 0) (t 5)).bind fun v6 =>
     (st false 1 v6 v5 H).bind fun H7 =>
     (binK .plain .add (t 1) (.int .i64 1)).bind fun v8 =>
     (binK .plain .add (t 5) (.int .i64 1)).bind fun v9 =>
     some ⟨.normal, put (put (put (put (put (put (put (put (put (put (put (put (put (put (put (put t 6 (t 5)) 7 (t 0)) 8 v2) 9 v3) 12 (t 0)) 13 (t 5)) 14 (t 1)) 15 v4) 16 v5) 17 v6) 18 (t 1)) 19 v8) 1 v8) 10 (t 5)) 11 v9) 5 v9, H7, n + 17⟩)
    (some ⟨(.exit 0), put (put (put (put t 6 (t 5)) 7 (t 0)) 8 v2) 9 v3, H, n + 4⟩)
noncomputable def S33 (C : Calling) (L : Body → Body) (t : Tm) (H : Hp) (n : Nat) : Option (Value × Hp × Nat) :=
  (L (S33L0 C L) (put (put t 4 (.int .i64 0)) 5 (.int .i64 0)) H (n + 2)).bind fun (o1 : Out) =>
  some (o1.t 1, o1.H, o1.n + 2)
theorem s33 (C : Calling) (L : Body → Body) (t : Tm) (H : Hp) (n : Nat) : bodyK Try.prog C L Try.f33 t H n = S33 C L t H n := by kernel_rfl
theorem c33 (args : List Value) (H : Hp) (n : Nat) : Call Try.prog 33 args H n = S33 (Call Try.prog) Loop (argsT args) H n := (Call_body Try.func33 args H n).trans (s33 ..)
/-! 34: laws.heldBoolS -/
noncomputable def S34L0 (C : Calling) (L : Body → Body) : Body := fun t H n =>
  (lenV false (t 0)).bind fun v2 =>
  (binK .plain .lss (t 5) v2).bind fun v3 =>
  csel v3
    ((idxA 1 (t 0) (t 5)).bind fun v4 =>
     (ld false 1 v4 H).bind fun v5 =>
     (binK .plain .rem (t 1) (.int .i64 3)).bind fun v6 =>
     (binK .plain .eql v6 (.int .i64 0)).bind fun v7 =>
     (binK .bool .neq v5 v7).bind fun v8 =>
     csel v8
       (some ⟨.ret, put (put (put (put (put (put (put (put (put (put (put (put (put t 6 (t 5)) 7 (t 0)) 8 v2) 9 v3) 12 (t 0)) 13 (t 5)) 14 v4) 15 v5) 16 (t 1)) 17 v6) 18 v7) 19 v8) 4 (.int .i64 (-1)), H, n + 13⟩)
       ((binK .plain .add (t 1) (.int .i64 1)).bind fun v9 =>
        (binK .plain .add (t 5) (.int .i64 1)).bind fun v10 =>
        some ⟨.normal, put (put (put (put (put (put (put (put (put (put (put (put (put (put (put (put (put (put t 6 (t 5)) 7 (t 0)) 8 v2) 9 v3) 12 (t 0)) 13 (t 5)) 14 v4) 15 v5) 16 (t 1)) 17 v6) 18 v7) 19 v8) 20 (t 1)) 21 v9) 1 v9) 10 (t 5)) 11 v10) 5 v10, H, n + 18⟩))
    (some ⟨(.exit 0), put (put (put (put t 6 (t 5)) 7 (t 0)) 8 v2) 9 v3, H, n + 4⟩)
noncomputable def S34 (C : Calling) (L : Body → Body) (t : Tm) (H : Hp) (n : Nat) : Option (Value × Hp × Nat) :=
  (L (S34L0 C L) (put (put t 4 (.int .i64 0)) 5 (.int .i64 0)) H (n + 2)).bind fun (o1 : Out) =>
  let o11 := outOf 0 o1
  thenK o11
    (some (o11.t 1, o11.H, o11.n + 2))
    (finE o11.e
       (some (o11.t 4, o11.H, o11.n)))
theorem s34 (C : Calling) (L : Body → Body) (t : Tm) (H : Hp) (n : Nat) : bodyK Try.prog C L Try.f34 t H n = S34 C L t H n := by kernel_rfl
theorem c34 (args : List Value) (H : Hp) (n : Nat) : Call Try.prog 34 args H n = S34 (Call Try.prog) Loop (argsT args) H n := (Call_body Try.func34 args H n).trans (s34 ..)
/-! 35: spec.MakeList -/
noncomputable def S35L0 (C : Calling) (L : Body → Body) : Body := fun t H n =>
  (lenV false (t 1)).bind fun v11 =>
  (binK .plain .lss (t 6) v11).bind fun v12 =>
  csel v12
    ((ld true 1 (t 2) H).bind fun v13 =>
     (idxA 1 (t 1) (t 6)).bind fun v14 =>
     (ld false 1 v14 H).bind fun v15 =>
     (C 60 [v13, v15] H (n + 11)).bind fun q16 =>
     (un .not q16.1).bind fun v17 =>
     csel v17
       ((ld true 1 (t 2) q16.2.1).bind fun v18 =>
        (C 38 [v18] q16.2.1 (q16.2.2 + 4)).bind fun q19 =>
        (st true 1 (t 4) q19.1 q19.2.1).bind fun H20 =>
        some ⟨.ret, put (put (put (put (put (put (put (put (put (put (put (put (put (put t 13 (t 6)) 14 (t 1)) 15 v11) 16 v12) 19 v13) 20 (t 1)) 21 (t 6)) 22 v14) 23 v15) 24 q16.1) 25 v17) 26 v18) 27 q19.1) 5 (.int .i64 (-1)), H20, q19.2.2⟩)
       ((binK .plain .add (t 6) (.int .i64 1)).bind fun v21 =>
        some ⟨.normal, put (put (put (put (put (put (put (put (put (put (put (put (put (put t 13 (t 6)) 14 (t 1)) 15 v11) 16 v12) 19 v13) 20 (t 1)) 21 (t 6)) 22 v14) 23 v15) 24 q16.1) 25 v17) 17 (t 6)) 18 v21) 6 v21, q16.2.1, q16.2.2 + 3⟩))
    (some ⟨(.exit 0), put (put (put (put t 13 (t 6)) 14 (t 1)) 15 v11) 16 v12, H, n + 4⟩)
noncomputable def S35 (C : Calling) (L : Body → Body) (t : Tm) (H : Hp) (n : Nat) : Option (Value × Hp × Nat) :=
  (vcells (t 0)).bind fun c2 =>
  let H1 := H.set (n) (some (.row c2 0 true))
  let H3 := H1.set (n + 1) (some (.row [nilS] 0 true))
  (ld true 1 (ptr (n) 0) H3).bind fun v4 =>
  (C 21 [v4] H3 (n + 6)).bind fun q5 =>
  (un .not q5.1).bind fun v6 =>
  csel v6
    ((bld [nilS] []).bind fun v7 =>
     (st true 1 (ptr (n + 1) 0) v7 q5.2.1).bind fun H8 =>
     (ld true 1 (ptr (n + 1) 0) H8).bind fun v9 =>
     iteK ([v9, .int .i64 (-1)].all notTup) <|
     some (.tuple ⟨[v9, .int .i64 (-1)]⟩, H8, q5.2.2 + 3))
    ((L (S35L0 C L) (put (put (put (put (put (put (put t 2 (ptr (n) 0)) 4 (ptr (n + 1) 0)) 5 (.int .i64 0)) 9 v4) 10 q5.1) 11 v6) 6 (.int .i64 0)) q5.2.1 (q5.2.2 + 1)).bind fun (o10 : Out) =>
     let o22 := outOf 0 o10
     thenK o22
       ((fieldA 0 (o22.t 2)).bind fun v23 =>
        (ld false 1 v23 o22.H).bind fun v24 =>
        (lenV false v24).bind fun v25 =>
        (binK .plain .add v25 (.int .i64 1)).bind fun v26 =>
        (lenV false (o22.t 1)).bind fun v27 =>
        (binK .plain .add v26 v27).bind fun v28 =>
        (binK .plain .gtr v28 (.int .i64 3000)).bind fun v29 =>
        csel v29
          ((ld true 1 (o22.t 2) o22.H).bind fun v30 =>
           (C 38 [v30] o22.H (o22.n + 12)).bind fun q31 =>
           (st true 1 (o22.t 4) q31.1 q31.2.1).bind fun H32 =>
           (ld true 1 (o22.t 4) H32).bind fun v33 =>
           iteK ([v33, .int .i64 (-1)].all notTup) <|
           some (.tuple ⟨[v33, .int .i64 (-1)]⟩, H32, q31.2.2))
          ((ld true 1 (o22.t 2) o22.H).bind fun v34 =>
           (C 38 [v34] o22.H (o22.n + 12)).bind fun q35 =>
           let H36 := q35.2.1.set (o22.n + 10) (some (.row [nilS] 0 true))
           (st true 1 (ptr (o22.n + 10) 0) q35.1 H36).bind fun H37 =>
           (C 64 [ptr (o22.n + 10) 0, o22.t 1] H37 (q35.2.2 + 3)).bind fun q38 =>
           (ld true 1 (ptr (o22.n + 10) 0) q38.2.1).bind fun v39 =>
           (st true 1 (o22.t 4) v39 q38.2.1).bind fun H40 =>
           (ld true 1 (o22.t 4) H40).bind fun v41 =>
           iteK ([v41, q38.1].all notTup) <|
           some (.tuple ⟨[v41, q38.1]⟩, H40, q38.2.2 + 4)))
       (finE o22.e
          ((ld true 1 (o22.t 4) o22.H).bind fun v42 =>
           iteK ([v42, o22.t 5].all notTup) <|
           some (.tuple ⟨[v42, o22.t 5]⟩, o22.H, o22.n))))
theorem s35 (C : Calling) (L : Body → Body) (t : Tm) (H : Hp) (n : Nat) : bodyK Try.prog C L Try.f35 t H n = S35 C L t H n := by kernel_rfl
theorem c35 (args : List Value) (H : Hp) (n : Nat) : Call Try.prog 35 args H n = S35 (Call Try.prog) Loop (argsT args) H n := (Call_body Try.func35 args H n).trans (s35 ..)
/-! 36: impl.MakeList -/
noncomputable def S36 (C : Calling) (L : Body → Body) (t : Tm) (H : Hp) (n : Nat) : Option (Value × Hp × Nat) :=
  (vcells (t 0)).bind fun c2 =>
  let H1 := H.set (n) (some (.row c2 0 true))
  let H3 := H1.set (n + 1) (some (.row [nilS] 0 true))
  (ld true 1 (ptr (n) 0) H3).bind fun v4 =>
  (C 20 [v4] H3 (n + 6)).bind fun q5 =>
  (un .not q5.1).bind fun v6 =>
  csel v6
    ((bld [nilS] []).bind fun v7 =>
     (st true 1 (ptr (n + 1) 0) v7 q5.2.1).bind fun H8 =>
     (ld true 1 (ptr (n + 1) 0) H8).bind fun v9 =>
     iteK ([v9, .int .i64 (-1)].all notTup) <|
     some (.tuple ⟨[v9, .int .i64 (-1)]⟩, H8, q5.2.2 + 3))
    ((ld true 1 (ptr (n) 0) q5.2.1).bind fun v10 =>
     (C 41 [v10] q5.2.1 (q5.2.2 + 4)).bind fun q11 =>
     let H12 := q11.2.1.set (q5.2.2 + 2) (some (.row [nilS] 0 true))
     (st true 1 (ptr (q5.2.2 + 2) 0) q11.1 H12).bind fun H13 =>
     (lenV false (t 1)).bind fun v14 =>
     (binK .plain .gtr v14 (.int .i64 3000)).bind fun v15 =>
     let t17 : Tm := put (put (put (put (put (put (put (put (put (put (put (put (put t 2 (ptr (n) 0)) 4 (ptr (n + 1) 0)) 5 (.int .i64 0)) 8 v4) 9 q5.1) 10 v6) 12 v10) 13 q11.1) 6 (ptr (q5.2.2 + 2) 0)) 14 (t 1)) 15 v14) 16 v15) 17 v15
     (gsel v15 false
       (iteK ([ptr (n) 0].all ptrV) <|
        (C 65 [t17 1, .func (.func 66) #[] ⟨[ptr (n) 0]⟩] H13 (q11.2.2 + 8)).bind fun q18 =>
        some (put (put (put t17 18 (t17 1)) 19 (.func (.func 66) #[] ⟨[ptr (n) 0]⟩)) 20 q18.1, q18.2.1, q18.2.2))
       (some (put (put (put t17 18 (.tuple #[])) 19 (.tuple #[])) 20 (.tuple #[]), H13, q11.2.2 + 8))
     ).bind fun (q16 : R3) =>
     (pickV (q16.1 17) (.bool true) (q16.1 20)).bind fun v19 =>
     csel v19
       ((ld true 1 (q16.1 6) q16.2.1).bind fun v20 =>
        (st true 1 (q16.1 4) v20 q16.2.1).bind fun H21 =>
        (ld true 1 (q16.1 4) H21).bind fun v22 =>
        iteK ([v22, .int .i64 (-1)].all notTup) <|
        some (.tuple ⟨[v22, .int .i64 (-1)]⟩, H21, q16.2.2 + 3))
       ((C 67 [q16.1 6, q16.1 1] q16.2.1 (q16.2.2 + 3)).bind fun q23 =>
        (ld true 1 (q16.1 2) q23.2.1).bind fun v24 =>
        (ld true 1 (q16.1 6) q23.2.1).bind fun v25 =>
        (C 43 [v24, v25, q23.1] q23.2.1 (q23.2.2 + 8)).bind fun q26 =>
        (ext 0 q26.1).bind fun v27 =>
        (ext 1 q26.1).bind fun v28 =>
        (st true 1 (q16.1 4) v27 q26.2.1).bind fun H29 =>
        (ld true 1 (q16.1 4) H29).bind fun v30 =>
        iteK ([v30, v28].all notTup) <|
        some (.tuple ⟨[v30, v28]⟩, H29, q26.2.2)))
theorem s36 (C : Calling) (L : Body → Body) (t : Tm) (H : Hp) (n : Nat) : bodyK Try.prog C L Try.f36 t H n = S36 C L t H n := by kernel_rfl
theorem c36 (args : List Value) (H : Hp) (n : Nat) : Call Try.prog 36 args H n = S36 (Call Try.prog) Loop (argsT args) H n := (Call_body Try.func36 args H n).trans (s36 ..)
/-! 37: laws.szNodeS -/
noncomputable def S37L0 (C : Calling) (L : Body → Body) : Body := fun t H n =>
  (lenV false (t 0)).bind fun v5 =>
  (binK .plain .lss (t 5) v5).bind fun v6 =>
  csel v6
    ((idxA 5 (t 0) (t 5)).bind fun v7 =>
     (ld true 5 v7 H).bind fun v8 =>
     (C 10 [v8, t 1] H (n + 11)).bind fun q9 =>
     (binK .plain .lss q9.1 (.int .i64 0)).bind fun v10 =>
     csel v10
       (some ⟨.ret, put (put (put (put (put (put (put (put (put (put (put (put (put (put t 12 (t 5)) 13 (t 0)) 14 v5) 15 v6) 18 (t 0)) 19 (t 5)) 20 v7) 21 v8) 22 (t 1)) 23 q9.1) 1 q9.1) 24 q9.1) 25 v10) 4 (.int .i64 (-1)), q9.2.1, q9.2.2 + 3⟩)
       ((binK .plain .add (t 5) (.int .i64 1)).bind fun v11 =>
        some ⟨.normal, put (put (put (put (put (put (put (put (put (put (put (put (put (put (put (put t 12 (t 5)) 13 (t 0)) 14 v5) 15 v6) 18 (t 0)) 19 (t 5)) 20 v7) 21 v8) 22 (t 1)) 23 q9.1) 1 q9.1) 24 q9.1) 25 v10) 16 (t 5)) 17 v11) 5 v11, q9.2.1, q9.2.2 + 5⟩))
    (some ⟨(.exit 0), put (put (put (put t 12 (t 5)) 13 (t 0)) 14 v5) 15 v6, H, n + 4⟩)
noncomputable def S37 (C : Calling) (L : Body → Body) (t : Tm) (H : Hp) (n : Nat) : Option (Value × Hp × Nat) :=
  (lenV false (t 0)).bind fun v1 =>
  (binK .plain .sub (t 1) v1).bind fun v2 =>
  (binK .plain .lss v2 (.int .i64 0)).bind fun v3 =>
  csel v3
    (some (.int .i64 (-1), H, n + 9))
    ((L (S37L0 C L) (put (put (put (put (put (put (put (put (put t 4 (.int .i64 0)) 6 (t 1)) 7 (t 0)) 8 v1) 9 v2) 1 v2) 10 v2) 11 v3) 5 (.int .i64 0)) H (n + 9)).bind fun (o4 : Out) =>
     let o12 := outOf 0 o4
     thenK o12
       (some (o12.t 1, o12.H, o12.n + 2))
       (finE o12.e
          (some (o12.t 4, o12.H, o12.n))))
theorem s37 (C : Calling) (L : Body → Body) (t : Tm) (H : Hp) (n : Nat) : bodyK Try.prog C L Try.f37 t H n = S37 C L t H n := by kernel_rfl
theorem c37 (args : List Value) (H : Hp) (n : Nat) : Call Try.prog 37 args H n = S37 (Call Try.prog) Loop (argsT args) H n := (Call_body Try.func37 args H n).trans (s37 ..)
/-! 38: spec.l2Copy -/
noncomputable def S38 (C : Calling) (L : Body → Body) (t : Tm) (H : Hp) (n : Nat) : Option (Value × Hp × Nat) :=
  (vcells (t 0)).bind fun c2 =>
  let H1 := H.set (n) (some (.row c2 0 true))
  let H3 := H1.set (n + 1) (some (.row [nilS] 0 true))
  (bsl (n + 2) 5 0 [.int .i64 0, .int .i64 0, .string ⟨#[]⟩, .int .i64 0, .int .i64 0] [] H3).bind fun p4 =>
  (fieldA 0 (ptr (n) 0)).bind fun v5 =>
  (ld false 1 v5 p4.2).bind fun v6 =>
  (app (n + 5) 5 48 p4.1 v6 p4.2).bind fun p7 =>
  (bld [nilS] [(0, 1, p7.1)]).bind fun v8 =>
  (st true 1 (ptr (n + 1) 0) v8 p7.2).bind fun H9 =>
  (ld true 1 (ptr (n + 1) 0) H9).bind fun v10 =>
  some (v10, H9, n + 8)
theorem s38 (C : Calling) (L : Body → Body) (t : Tm) (H : Hp) (n : Nat) : bodyK Try.prog C L Try.f38 t H n = S38 C L t H n := by kernel_rfl
theorem c38 (args : List Value) (H : Hp) (n : Nat) : Call Try.prog 38 args H n = S38 (Call Try.prog) Loop (argsT args) H n := (Call_body Try.func38 args H n).trans (s38 ..)
/-! 39: spec.l2Node -/
noncomputable def S39 (C : Calling) (L : Body → Body) (t : Tm) (H : Hp) (n : Nat) : Option (Value × Hp × Nat) :=
  (vcells (t 0)).bind fun c2 =>
  let H1 := H.set (n) (some (.row c2 0 true))
  (fieldA 3 (ptr (n) 0)).bind fun v3 =>
  (ld false 1 v3 H1).bind fun v4 =>
  (binK .plain .sub (t 1) (.int .i64 1)).bind fun v5 =>
  (C 68 [v4, .int .i64 0, v5] H1 (n + 8)).bind fun q6 =>
  (fieldA 4 (ptr (n) 0)).bind fun v7 =>
  (ld false 1 v7 q6.2.1).bind fun v8 =>
  (binK .plain .sub (t 1) (.int .i64 1)).bind fun v9 =>
  (C 68 [v8, .int .i64 0, v9] q6.2.1 (q6.2.2 + 6)).bind fun q10 =>
  (fieldA 0 (ptr (n) 0)).bind fun v11 =>
  (ld false 1 v11 q10.2.1).bind fun v12 =>
  (binK .plain .eql v12 (.int .i64 1)).bind fun v13 =>
  csel v13
    ((ld true 5 (ptr (n) 0) q10.2.1).bind fun v14 =>
     (bld [.int .i64 0, .int .i64 0, .string ⟨#[]⟩, .int .i64 0, .int .i64 0] [(0, 1, .int .i64 1)]).bind fun v15 =>
     (binK (.agg [(0, (.int .i64)), (1, (.int .i64)), (2, .string), (3, (.int .i64)), (4, (.int .i64))]) .eql v14 v15).bind fun v16 =>
     some (v16, q10.2.1, q10.2.2 + 8))
    ((binK .plain .eql v12 (.int .i64 2)).bind fun v17 =>
     csel v17
       ((fieldA 1 (ptr (n) 0)).bind fun v18 =>
        (ld false 1 v18 q10.2.1).bind fun v19 =>
        (C 68 [v19, .int .i64 0, .int .i64 1] q10.2.1 (q10.2.2 + 17)).bind fun q20 =>
        let t22 : Tm := put (put (put (put (put (put (put (put (put (put (put (put (put (put (put (put (put (put (put (put (put (put (put (put t 2 (ptr (n) 0)) 4 (.bool false)) 7 v3) 8 v4) 9 (t 1)) 10 v5) 11 q6.1) 5 q6.1) 12 v7) 13 v8) 14 (t 1)) 15 v9) 16 q10.1) 6 q10.1) 17 v11) 18 v12) 20 v13) 19 v13) 25 v17) 24 v17) 26 v18) 27 v19) 28 q20.1) 29 q20.1
        (gsel q20.1 true
          ((ld true 5 (ptr (n) 0) q20.2.1).bind fun v23 =>
           (fieldA 1 (ptr (n) 0)).bind fun v24 =>
           (ld false 1 v24 q20.2.1).bind fun v25 =>
           (bld [.int .i64 0, .int .i64 0, .string ⟨#[]⟩, .int .i64 0, .int .i64 0] [(0, 1, .int .i64 2), (1, 1, v25)]).bind fun v26 =>
           (binK (.agg [(0, (.int .i64)), (1, (.int .i64)), (2, .string), (3, (.int .i64)), (4, (.int .i64))]) .eql v23 v26).bind fun v27 =>
           some (put (put (put (put (put t22 30 v23) 31 v24) 32 v25) 33 v26) 34 v27, q20.2.1, q20.2.2))
          (some (put (put (put (put (put t22 30 (.tuple #[])) 31 (.tuple #[])) 32 (.tuple #[])) 33 (.tuple #[])) 34 (.tuple #[]), q20.2.1, q20.2.2))
        ).bind fun (q21 : R3) =>
        (pickV (q21.1 29) (q21.1 34) (.bool false)).bind fun v28 =>
        some (v28, q21.2.1, q21.2.2))
       ((binK .plain .eql v12 (.int .i64 3)).bind fun v29 =>
        csel v29
          ((fieldA 1 (ptr (n) 0)).bind fun v30 =>
           (ld false 1 v30 q10.2.1).bind fun v31 =>
           (C 68 [v31, .int .i64 (-1000000000), .int .i64 1000000000] q10.2.1 (q10.2.2 + 19)).bind fun q32 =>
           let t34 : Tm := put (put (put (put (put (put (put (put (put (put (put (put (put (put (put (put (put (put (put (put (put (put (put (put (put (put t 2 (ptr (n) 0)) 4 (.bool false)) 7 v3) 8 v4) 9 (t 1)) 10 v5) 11 q6.1) 5 q6.1) 12 v7) 13 v8) 14 (t 1)) 15 v9) 16 q10.1) 6 q10.1) 17 v11) 18 v12) 20 v13) 19 v13) 25 v17) 24 v17) 37 v29) 36 v29) 38 v30) 39 v31) 40 q32.1) 41 q32.1
           (gsel q32.1 true
             ((ld true 5 (ptr (n) 0) q32.2.1).bind fun v35 =>
              (fieldA 1 (ptr (n) 0)).bind fun v36 =>
              (ld false 1 v36 q32.2.1).bind fun v37 =>
              (bld [.int .i64 0, .int .i64 0, .string ⟨#[]⟩, .int .i64 0, .int .i64 0] [(0, 1, .int .i64 3), (1, 1, v37)]).bind fun v38 =>
              (binK (.agg [(0, (.int .i64)), (1, (.int .i64)), (2, .string), (3, (.int .i64)), (4, (.int .i64))]) .eql v35 v38).bind fun v39 =>
              some (put (put (put (put (put t34 42 v35) 43 v36) 44 v37) 45 v38) 46 v39, q32.2.1, q32.2.2))
             (some (put (put (put (put (put t34 42 (.tuple #[])) 43 (.tuple #[])) 44 (.tuple #[])) 45 (.tuple #[])) 46 (.tuple #[]), q32.2.1, q32.2.2))
           ).bind fun (q33 : R3) =>
           (pickV (q33.1 41) (q33.1 46) (.bool false)).bind fun v40 =>
           some (v40, q33.2.1, q33.2.2))
          ((binK .plain .eql v12 (.int .i64 4)).bind fun v41 =>
           csel v41
             ((fieldA 2 (ptr (n) 0)).bind fun v42 =>
              (ld false 1 v42 q10.2.1).bind fun v43 =>
              (C 69 [v43] q10.2.1 (q10.2.2 + 21)).bind fun q44 =>
              let t46 : Tm := put (put (put (put (put (put (put (put (put (put (put (put (put (put (put (put (put (put (put (put (put (put (put (put (put (put (put (put t 2 (ptr (n) 0)) 4 (.bool false)) 7 v3) 8 v4) 9 (t 1)) 10 v5) 11 q6.1) 5 q6.1) 12 v7) 13 v8) 14 (t 1)) 15 v9) 16 q10.1) 6 q10.1) 17 v11) 18 v12) 20 v13) 19 v13) 25 v17) 24 v17) 37 v29) 36 v29) 49 v41) 48 v41) 50 v42) 51 v43) 52 q44.1) 53 q44.1
              (gsel q44.1 true
                ((ld true 5 (ptr (n) 0) q44.2.1).bind fun v47 =>
                 (fieldA 2 (ptr (n) 0)).bind fun v48 =>
                 (ld false 1 v48 q44.2.1).bind fun v49 =>
                 (bld [.int .i64 0, .int .i64 0, .string ⟨#[]⟩, .int .i64 0, .int .i64 0] [(0, 1, .int .i64 4), (2, 1, v49)]).bind fun v50 =>
                 (binK (.agg [(0, (.int .i64)), (1, (.int .i64)), (2, .string), (3, (.int .i64)), (4, (.int .i64))]) .eql v47 v50).bind fun v51 =>
                 some (put (put (put (put (put t46 54 v47) 55 v48) 56 v49) 57 v50) 58 v51, q44.2.1, q44.2.2))
                (some (put (put (put (put (put t46 54 (.tuple #[])) 55 (.tuple #[])) 56 (.tuple #[])) 57 (.tuple #[])) 58 (.tuple #[]), q44.2.1, q44.2.2))
              ).bind fun (q45 : R3) =>
              (pickV (q45.1 53) (q45.1 58) (.bool false)).bind fun v52 =>
              some (v52, q45.2.1, q45.2.2))
             ((binK .plain .eql v12 (.int .i64 5)).bind fun v53 =>
              csel v53
                ((pickV q6.1 (gsel q6.1 true q10.1 (.tuple #[])) (.bool false)).bind fun v54 =>
                 let t56 : Tm := put (put (put (put (put (put (put (put (put (put (put (put (put (put (put (put (put (put (put (put (put (put (put (put (put (put (put (put (put (put (put t 2 (ptr (n) 0)) 4 (.bool false)) 7 v3) 8 v4) 9 (t 1)) 10 v5) 11 q6.1) 5 q6.1) 12 v7) 13 v8) 14 (t 1)) 15 v9) 16 q10.1) 6 q10.1) 17 v11) 18 v12) 20 v13) 19 v13) 25 v17) 24 v17) 37 v29) 36 v29) 49 v41) 48 v41) 61 v53) 60 v53) 62 q6.1) 63 q6.1) 64 (gsel q6.1 true q10.1 (.tuple #[]))) 65 v54) 66 v54
                 (gsel v54 true
                   ((fieldA 1 (ptr (n) 0)).bind fun v57 =>
                    (ld false 1 v57 q10.2.1).bind fun v58 =>
                    (binK .plain .eql v58 (.int .i64 0)).bind fun v59 =>
                    some (put (put (put t56 67 v57) 68 v58) 69 v59, q10.2.1, q10.2.2 + 27))
                   (some (put (put (put t56 67 (.tuple #[])) 68 (.tuple #[])) 69 (.tuple #[]), q10.2.1, q10.2.2 + 27))
                 ).bind fun (q55 : R3) =>
                 (pickV (q55.1 66) (q55.1 69) (.bool false)).bind fun v60 =>
                 let t62 : Tm := put (put q55.1 70 v60) 71 v60
                 (gsel v60 true
                   ((fieldA 2 (t62 2)).bind fun v63 =>
                    (ld false 1 v63 q55.2.1).bind fun v64 =>
                    (binK .plain .eql v64 (.string ⟨#[]⟩)).bind fun v65 =>
                    some (put (put (put t62 72 v63) 73 v64) 74 v65, q55.2.1, q55.2.2))
                   (some (put (put (put t62 72 (.tuple #[])) 73 (.tuple #[])) 74 (.tuple #[]), q55.2.1, q55.2.2))
                 ).bind fun (q61 : R3) =>
                 (pickV (q61.1 71) (q61.1 74) (.bool false)).bind fun v66 =>
                 some (v66, q61.2.1, q61.2.2))
                ((binK .plain .eql v12 (.int .i64 6)).bind fun v67 =>
                 csel v67
                   (let t69 : Tm := put (put (put (put (put (put (put (put (put (put (put (put (put (put (put (put (put (put (put (put (put (put (put (put (put (put (put (put (put (put t 2 (ptr (n) 0)) 4 (.bool false)) 7 v3) 8 v4) 9 (t 1)) 10 v5) 11 q6.1) 5 q6.1) 12 v7) 13 v8) 14 (t 1)) 15 v9) 16 q10.1) 6 q10.1) 17 v11) 18 v12) 20 v13) 19 v13) 25 v17) 24 v17) 37 v29) 36 v29) 49 v41) 48 v41) 61 v53) 60 v53) 77 v67) 76 v67) 78 q6.1) 79 q6.1
                    (gsel q6.1 true
                      ((fieldA 1 (ptr (n) 0)).bind fun v70 =>
                       (ld false 1 v70 q10.2.1).bind fun v71 =>
                       (C 68 [v71, .int .i64 0, .int .i64 1000000000] q10.2.1 (q10.2.2 + 31)).bind fun q72 =>
                       some (put (put (put t69 80 v70) 81 v71) 82 q72.1, q72.2.1, q72.2.2))
                      (some (put (put (put t69 80 (.tuple #[])) 81 (.tuple #[])) 82 (.tuple #[]), q10.2.1, q10.2.2 + 31))
                    ).bind fun (q68 : R3) =>
                    (pickV (q68.1 79) (q68.1 82) (.bool false)).bind fun v73 =>
                    let t75 : Tm := put (put q68.1 83 v73) 84 v73
                    (gsel v73 true
                      ((fieldA 4 (t75 2)).bind fun v76 =>
                       (ld false 1 v76 q68.2.1).bind fun v77 =>
                       (binK .plain .eql v77 (.int .i64 0)).bind fun v78 =>
                       some (put (put (put t75 85 v76) 86 v77) 87 v78, q68.2.1, q68.2.2))
                      (some (put (put (put t75 85 (.tuple #[])) 86 (.tuple #[])) 87 (.tuple #[]), q68.2.1, q68.2.2))
                    ).bind fun (q74 : R3) =>
                    (pickV (q74.1 84) (q74.1 87) (.bool false)).bind fun v79 =>
                    let t81 : Tm := put (put q74.1 88 v79) 89 v79
                    (gsel v79 true
                      ((fieldA 2 (t81 2)).bind fun v82 =>
                       (ld false 1 v82 q74.2.1).bind fun v83 =>
                       (binK .plain .eql v83 (.string ⟨#[]⟩)).bind fun v84 =>
                       some (put (put (put t81 90 v82) 91 v83) 92 v84, q74.2.1, q74.2.2))
                      (some (put (put (put t81 90 (.tuple #[])) 91 (.tuple #[])) 92 (.tuple #[]), q74.2.1, q74.2.2))
                    ).bind fun (q80 : R3) =>
                    (pickV (q80.1 89) (q80.1 92) (.bool false)).bind fun v85 =>
                    some (v85, q80.2.1, q80.2.2))
                   ((binK .plain .eql v12 (.int .i64 7)).bind fun v86 =>
                    csel v86
                      (let t88 : Tm := put (put (put (put (put (put (put (put (put (put (put (put (put (put (put (put (put (put (put (put (put (put (put (put (put (put (put (put (put (put (put (put t 2 (ptr (n) 0)) 4 (.bool false)) 7 v3) 8 v4) 9 (t 1)) 10 v5) 11 q6.1) 5 q6.1) 12 v7) 13 v8) 14 (t 1)) 15 v9) 16 q10.1) 6 q10.1) 17 v11) 18 v12) 20 v13) 19 v13) 25 v17) 24 v17) 37 v29) 36 v29) 49 v41) 48 v41) 61 v53) 60 v53) 77 v67) 76 v67) 95 v86) 94 v86) 96 q6.1) 97 q6.1
                       (gsel q6.1 true
                         ((fieldA 1 (ptr (n) 0)).bind fun v89 =>
                          (ld false 1 v89 q10.2.1).bind fun v90 =>
                          (binK .plain .eql v90 (.int .i64 0)).bind fun v91 =>
                          some (put (put (put t88 98 v89) 99 v90) 100 v91, q10.2.1, q10.2.2 + 33))
                         (some (put (put (put t88 98 (.tuple #[])) 99 (.tuple #[])) 100 (.tuple #[]), q10.2.1, q10.2.2 + 33))
                       ).bind fun (q87 : R3) =>
                       (pickV (q87.1 97) (q87.1 100) (.bool false)).bind fun v92 =>
                       let t94 : Tm := put (put q87.1 101 v92) 102 v92
                       (gsel v92 true
                         ((fieldA 4 (t94 2)).bind fun v95 =>
                          (ld false 1 v95 q87.2.1).bind fun v96 =>
                          (binK .plain .eql v96 (.int .i64 0)).bind fun v97 =>
                          some (put (put (put t94 103 v95) 104 v96) 105 v97, q87.2.1, q87.2.2))
                         (some (put (put (put t94 103 (.tuple #[])) 104 (.tuple #[])) 105 (.tuple #[]), q87.2.1, q87.2.2))
                       ).bind fun (q93 : R3) =>
                       (pickV (q93.1 102) (q93.1 105) (.bool false)).bind fun v98 =>
                       let t100 : Tm := put (put q93.1 106 v98) 107 v98
                       (gsel v98 true
                         ((fieldA 2 (t100 2)).bind fun v101 =>
                          (ld false 1 v101 q93.2.1).bind fun v102 =>
                          (binK .plain .eql v102 (.string ⟨#[]⟩)).bind fun v103 =>
                          some (put (put (put t100 108 v101) 109 v102) 110 v103, q93.2.1, q93.2.2))
                         (some (put (put (put t100 108 (.tuple #[])) 109 (.tuple #[])) 110 (.tuple #[]), q93.2.1, q93.2.2))
                       ).bind fun (q99 : R3) =>
                       (pickV (q99.1 107) (q99.1 110) (.bool false)).bind fun v104 =>
                       some (v104, q99.2.1, q99.2.2))
                      ((binK .plain .eql v12 (.int .i64 8)).bind fun v105 =>
                       csel v105
                         ((fieldA 1 (ptr (n) 0)).bind fun v106 =>
                          (ld false 1 v106 q10.2.1).bind fun v107 =>
                          (C 68 [v107, .int .i64 0, .int .i64 99] q10.2.1 (q10.2.2 + 29)).bind fun q108 =>
                          let t110 : Tm := put (put (put (put (put (put (put (put (put (put (put (put (put (put (put (put (put (put (put (put (put (put (put (put (put (put (put (put (put (put (put (put (put (put (put (put t 2 (ptr (n) 0)) 4 (.bool false)) 7 v3) 8 v4) 9 (t 1)) 10 v5) 11 q6.1) 5 q6.1) 12 v7) 13 v8) 14 (t 1)) 15 v9) 16 q10.1) 6 q10.1) 17 v11) 18 v12) 20 v13) 19 v13) 25 v17) 24 v17) 37 v29) 36 v29) 49 v41) 48 v41) 61 v53) 60 v53) 77 v67) 76 v67) 95 v86) 94 v86) 113 v105) 112 v105) 114 v106) 115 v107) 116 q108.1) 117 q108.1
                          (gsel q108.1 true
                            ((ld true 5 (ptr (n) 0) q108.2.1).bind fun v111 =>
                             (fieldA 1 (ptr (n) 0)).bind fun v112 =>
                             (ld false 1 v112 q108.2.1).bind fun v113 =>
                             (bld [.int .i64 0, .int .i64 0, .string ⟨#[]⟩, .int .i64 0, .int .i64 0] [(0, 1, .int .i64 8), (1, 1, v113)]).bind fun v114 =>
                             (binK (.agg [(0, (.int .i64)), (1, (.int .i64)), (2, .string), (3, (.int .i64)), (4, (.int .i64))]) .eql v111 v114).bind fun v115 =>
                             some (put (put (put (put (put t110 118 v111) 119 v112) 120 v113) 121 v114) 122 v115, q108.2.1, q108.2.2))
                            (some (put (put (put (put (put t110 118 (.tuple #[])) 119 (.tuple #[])) 120 (.tuple #[])) 121 (.tuple #[])) 122 (.tuple #[]), q108.2.1, q108.2.2))
                          ).bind fun (q109 : R3) =>
                          (pickV (q109.1 117) (q109.1 122) (.bool false)).bind fun v116 =>
                          some (v116, q109.2.1, q109.2.2))
                         ((binK .plain .eql v12 (.int .i64 9)).bind fun v117 =>
                          csel v117
                            ((fieldA 1 (ptr (n) 0)).bind fun v118 =>
                             (ld false 1 v118 q10.2.1).bind fun v119 =>
                             (C 68 [v119, .int .i64 0, .int .i64 1000000000] q10.2.1 (q10.2.2 + 31)).bind fun q120 =>
                             let t122 : Tm := put (put (put (put (put (put (put (put (put (put (put (put (put (put (put (put (put (put (put (put (put (put (put (put (put (put (put (put (put (put (put (put (put (put (put (put (put (put t 2 (ptr (n) 0)) 4 (.bool false)) 7 v3) 8 v4) 9 (t 1)) 10 v5) 11 q6.1) 5 q6.1) 12 v7) 13 v8) 14 (t 1)) 15 v9) 16 q10.1) 6 q10.1) 17 v11) 18 v12) 20 v13) 19 v13) 25 v17) 24 v17) 37 v29) 36 v29) 49 v41) 48 v41) 61 v53) 60 v53) 77 v67) 76 v67) 95 v86) 94 v86) 113 v105) 112 v105) 125 v117) 124 v117) 126 v118) 127 v119) 128 q120.1) 129 q120.1
                             (gsel q120.1 true
                               ((ld true 5 (ptr (n) 0) q120.2.1).bind fun v123 =>
                                (fieldA 1 (ptr (n) 0)).bind fun v124 =>
                                (ld false 1 v124 q120.2.1).bind fun v125 =>
                                (bld [.int .i64 0, .int .i64 0, .string ⟨#[]⟩, .int .i64 0, .int .i64 0] [(0, 1, .int .i64 9), (1, 1, v125)]).bind fun v126 =>
                                (binK (.agg [(0, (.int .i64)), (1, (.int .i64)), (2, .string), (3, (.int .i64)), (4, (.int .i64))]) .eql v123 v126).bind fun v127 =>
                                some (put (put (put (put (put t122 130 v123) 131 v124) 132 v125) 133 v126) 134 v127, q120.2.1, q120.2.2))
                               (some (put (put (put (put (put t122 130 (.tuple #[])) 131 (.tuple #[])) 132 (.tuple #[])) 133 (.tuple #[])) 134 (.tuple #[]), q120.2.1, q120.2.2))
                             ).bind fun (q121 : R3) =>
                             (pickV (q121.1 129) (q121.1 134) (.bool false)).bind fun v128 =>
                             some (v128, q121.2.1, q121.2.2))
                            (some (.bool false, q10.2.1, q10.2.2 + 21))))))))))
theorem s39 (C : Calling) (L : Body → Body) (t : Tm) (H : Hp) (n : Nat) : bodyK Try.prog C L Try.f39 t H n = S39 C L t H n := by kernel_rfl
theorem c39 (args : List Value) (H : Hp) (n : Nat) : Call Try.prog 39 args H n = S39 (Call Try.prog) Loop (argsT args) H n := (Call_body Try.func39 args H n).trans (s39 ..)
/-! 40: laws.toNodeS -/
noncomputable def S40L0 (C : Calling) (L : Body → Body) : Body := fun t H n =>
  (lenV false (t 0)).bind fun v4 =>
  (binK .plain .lss (t 4) v4).bind fun v5 =>
  csel v5
    ((idxA 5 (t 0) (t 4)).bind fun v6 =>
     (ld true 5 v6 H).bind fun v7 =>
     (C 13 [v7] H (n + 13)).bind fun q8 =>
     (idxA 5 (t 3) (t 4)).bind fun v9 =>
     (st true 5 v9 q8.1 q8.2.1).bind fun H10 =>
     (binK .plain .add (t 4) (.int .i64 1)).bind fun v11 =>
     some ⟨.normal, put (put (put (put (put (put (put (put (put (put (put (put (put (put (put t 8 (t 4)) 9 (t 0)) 10 v4) 11 v5) 14 (t 3)) 15 (t 4)) 16 (t 0)) 17 (t 4)) 18 v6) 19 v7) 20 q8.1) 21 v9) 12 (t 4)) 13 v11) 4 v11, H10, q8.2.2 + 3⟩)
    (some ⟨(.exit 0), put (put (put (put t 8 (t 4)) 9 (t 0)) 10 v4) 11 v5, H, n + 4⟩)
noncomputable def S40 (C : Calling) (L : Body → Body) (t : Tm) (H : Hp) (n : Nat) : Option (Value × Hp × Nat) :=
  (lenV false (t 0)).bind fun v1 =>
  (mks (n + 3) 5 48 [.int .i64 0, .int .i64 0, .string ⟨#[]⟩, .int .i64 0, .int .i64 0] v1 v1 H).bind fun p2 =>
  (L (S40L0 C L) (put (put (put (put (put (put t 2 nilS) 5 (t 0)) 6 v1) 7 p2.1) 3 p2.1) 4 (.int .i64 0)) p2.2 (n + 6)).bind fun (o3 : Out) =>
  some (o3.t 3, o3.H, o3.n + 2)
theorem s40 (C : Calling) (L : Body → Body) (t : Tm) (H : Hp) (n : Nat) : bodyK Try.prog C L Try.f40 t H n = S40 C L t H n := by kernel_rfl
theorem c40 (args : List Value) (H : Hp) (n : Nat) : Call Try.prog 40 args H n = S40 (Call Try.prog) Loop (argsT args) H n := (Call_body Try.func40 args H n).trans (s40 ..)
/-! 41: impl.copyPool -/
noncomputable def S41 (C : Calling) (L : Body → Body) (t : Tm) (H : Hp) (n : Nat) : Option (Value × Hp × Nat) :=
  (vcells (t 0)).bind fun c2 =>
  let H1 := H.set (n) (some (.row c2 0 true))
  let H3 := H1.set (n + 1) (some (.row [nilS] 0 true))
  (fieldA 0 (ptr (n) 0)).bind fun v4 =>
  (ld false 1 v4 H3).bind fun v5 =>
  (C 70 [v5] H3 (n + 7)).bind fun q6 =>
  (bld [nilS] [(0, 1, q6.1)]).bind fun v7 =>
  (st true 1 (ptr (n + 1) 0) v7 q6.2.1).bind fun H8 =>
  (ld true 1 (ptr (n + 1) 0) H8).bind fun v9 =>
  some (v9, H8, q6.2.2)
theorem s41 (C : Calling) (L : Body → Body) (t : Tm) (H : Hp) (n : Nat) : bodyK Try.prog C L Try.f41 t H n = S41 C L t H n := by kernel_rfl
theorem c41 (args : List Value) (H : Hp) (n : Nat) : Call Try.prog 41 args H n = S41 (Call Try.prog) Loop (argsT args) H n := (Call_body Try.func41 args H n).trans (s41 ..)
/-! 42: impl.Pool).add -/
noncomputable def S42 (C : Calling) (L : Body → Body) (t : Tm) (H : Hp) (n : Nat) : Option (Value × Hp × Nat) :=
  (vcells (t 1)).bind fun c2 =>
  let H1 := H.set (n) (some (.row c2 0 true))
  (nilchk (t 0)).bind fun v3 =>
  (fieldA 0 v3).bind fun v4 =>
  (ld false 1 v4 H1).bind fun v5 =>
  (ld true 5 (ptr (n) 0) H1).bind fun v6 =>
  (bsl (n + 8) 5 1 [.int .i64 0, .int .i64 0, .string ⟨#[]⟩, .int .i64 0, .int .i64 0] [(0, 5, v6)] H1).bind fun p7 =>
  (app (n + 9) 5 48 v5 p7.1 p7.2).bind fun p8 =>
  (nilchk (t 0)).bind fun v9 =>
  (fieldA 0 v9).bind fun v10 =>
  (st false 1 v10 p8.1 p8.2).bind fun H11 =>
  (nilchk (t 0)).bind fun v12 =>
  (fieldA 0 v12).bind fun v13 =>
  (ld false 1 v13 H11).bind fun v14 =>
  (lenV false v14).bind fun v15 =>
  (binK .plain .sub v15 (.int .i64 1)).bind fun v16 =>
  some (v16, H11, n + 20)
theorem s42 (C : Calling) (L : Body → Body) (t : Tm) (H : Hp) (n : Nat) : bodyK Try.prog C L Try.f42 t H n = S42 C L t H n := by kernel_rfl
theorem c42 (args : List Value) (H : Hp) (n : Nat) : Call Try.prog 42 args H n = S42 (Call Try.prog) Loop (argsT args) H n := (Call_body Try.func42 args H n).trans (s42 ..)
/-! 43: impl.settled -/
noncomputable def S43 (C : Calling) (L : Body → Body) (t : Tm) (H : Hp) (n : Nat) : Option (Value × Hp × Nat) :=
  (vcells (t 0)).bind fun c2 =>
  let H1 := H.set (n) (some (.row c2 0 true))
  (vcells (t 1)).bind fun c4 =>
  let H3 := H1.set (n + 1) (some (.row c4 0 true))
  let H5 := H3.set (n + 2) (some (.row [nilS] 0 true))
  (ld true 1 (ptr (n + 1) 0) H5).bind fun v6 =>
  (C 20 [v6] H5 (n + 7)).bind fun q7 =>
  (un .not q7.1).bind fun v8 =>
  csel v8
    ((ld true 1 (ptr (n) 0) q7.2.1).bind fun v9 =>
     (C 41 [v9] q7.2.1 (q7.2.2 + 4)).bind fun q10 =>
     (st true 1 (ptr (n + 2) 0) q10.1 q10.2.1).bind fun H11 =>
     (ld true 1 (ptr (n + 2) 0) H11).bind fun v12 =>
     iteK ([v12, .int .i64 (-1)].all notTup) <|
     some (.tuple ⟨[v12, .int .i64 (-1)]⟩, H11, q10.2.2))
    ((ld true 1 (ptr (n + 1) 0) q7.2.1).bind fun v13 =>
     (st true 1 (ptr (n + 2) 0) v13 q7.2.1).bind fun H14 =>
     (ld true 1 (ptr (n + 2) 0) H14).bind fun v15 =>
     iteK ([v15, t 2].all notTup) <|
     some (.tuple ⟨[v15, t 2]⟩, H14, q7.2.2 + 4))
theorem s43 (C : Calling) (L : Body → Body) (t : Tm) (H : Hp) (n : Nat) : bodyK Try.prog C L Try.f43 t H n = S43 C L t H n := by kernel_rfl
theorem c43 (args : List Value) (H : Hp) (n : Nat) : Call Try.prog 43 args H n = S43 (Call Try.prog) Loop (argsT args) H n := (Call_body Try.func43 args H n).trans (s43 ..)
/-! 44: laws.eqNodeS -/
noncomputable def S44L0 (C : Calling) (L : Body → Body) : Body := fun t H n =>
  (lenV false (t 0)).bind fun v5 =>
  (binK .plain .lss (t 5) v5).bind fun v6 =>
  csel v6
    ((idxA 5 (t 0) (t 5)).bind fun v7 =>
     (ld true 5 v7 H).bind fun v8 =>
     (idxA 5 (t 1) (t 5)).bind fun v9 =>
     (ld true 5 v9 H).bind fun v10 =>
     (C 71 [v8, v10] H (n + 14)).bind fun q11 =>
     (un .not q11.1).bind fun v12 =>
     csel v12
       (some ⟨.ret, put (put (put (put (put (put (put (put (put (put (put (put (put (put (put t 11 (t 5)) 12 (t 0)) 13 v5) 14 v6) 17 (t 0)) 18 (t 5)) 19 v7) 20 v8) 21 (t 1)) 22 (t 5)) 23 v9) 24 v10) 25 q11.1) 26 v12) 4 (.bool false), q11.2.1, q11.2.2 + 1⟩)
       ((binK .plain .add (t 5) (.int .i64 1)).bind fun v13 =>
        some ⟨.normal, put (put (put (put (put (put (put (put (put (put (put (put (put (put (put (put (put t 11 (t 5)) 12 (t 0)) 13 v5) 14 v6) 17 (t 0)) 18 (t 5)) 19 v7) 20 v8) 21 (t 1)) 22 (t 5)) 23 v9) 24 v10) 25 q11.1) 26 v12) 15 (t 5)) 16 v13) 5 v13, q11.2.1, q11.2.2 + 3⟩))
    (some ⟨(.exit 0), put (put (put (put t 11 (t 5)) 12 (t 0)) 13 v5) 14 v6, H, n + 4⟩)
noncomputable def S44 (C : Calling) (L : Body → Body) (t : Tm) (H : Hp) (n : Nat) : Option (Value × Hp × Nat) :=
  (lenV false (t 0)).bind fun v1 =>
  (lenV false (t 1)).bind fun v2 =>
  (binK .plain .neq v1 v2).bind fun v3 =>
  csel v3
    (some (.bool false, H, n + 7))
    ((L (S44L0 C L) (put (put (put (put (put (put (put t 4 (.bool false)) 6 (t 0)) 7 v1) 8 (t 1)) 9 v2) 10 v3) 5 (.int .i64 0)) H (n + 7)).bind fun (o4 : Out) =>
     let o14 := outOf 0 o4
     thenK o14
       (some (.bool true, o14.H, o14.n + 1))
       (finE o14.e
          (some (o14.t 4, o14.H, o14.n))))
theorem s44 (C : Calling) (L : Body → Body) (t : Tm) (H : Hp) (n : Nat) : bodyK Try.prog C L Try.f44 t H n = S44 C L t H n := by kernel_rfl
theorem c44 (args : List Value) (H : Hp) (n : Nat) : Call Try.prog 44 args H n = S44 (Call Try.prog) Loop (argsT args) H n := (Call_body Try.func44 args H n).trans (s44 ..)
/-! 45: laws.markNodeS -/
noncomputable def S45L0 (C : Calling) (L : Body → Body) : Body := fun t H n =>
  (lenV false (t 0)).bind fun v2 =>
  (binK .plain .lss (t 5) v2).bind fun v3 =>
  csel v3
    ((idxA 5 (t 0) (t 5)).bind fun v4 =>
     (fieldA 0 v4).bind fun v5 =>
     (st false 1 v5 (t 1) H).bind fun H6 =>
     (binK .plain .add (t 1) (.int .i64 1)).bind fun v7 =>
     (idxA 5 (t 0) (t 5)).bind fun v8 =>
     (fieldA 1 v8).bind fun v9 =>
     (st false 1 v9 v7 H6).bind fun H10 =>
     (binK .plain .add v7 (.int .i64 1)).bind fun v11 =>
     (C 72 [v11] H10 (n + 29)).bind fun q12 =>
     (idxA 5 (t 0) (t 5)).bind fun v13 =>
     (fieldA 2 v13).bind fun v14 =>
     (st false 1 v14 q12.1 q12.2.1).bind fun H15 =>
     (binK .plain .add v11 (.int .i64 1)).bind fun v16 =>
     (idxA 5 (t 0) (t 5)).bind fun v17 =>
     (fieldA 3 v17).bind fun v18 =>
     (st false 1 v18 v16 H15).bind fun H19 =>
     (binK .plain .add v16 (.int .i64 1)).bind fun v20 =>
     (idxA 5 (t 0) (t 5)).bind fun v21 =>
     (fieldA 4 v21).bind fun v22 =>
     (st false 1 v22 v20 H19).bind fun H23 =>
     (binK .plain .add v20 (.int .i64 1)).bind fun v24 =>
     (binK .plain .add (t 5) (.int .i64 1)).bind fun v25 =>
     some ⟨.normal, put (put (put (put (put (put (put (put (put (put (put (put (put (put (put (put (put (put (put (put (put (put (put (put (put (put (put (put (put (put (put (put (put (put (put (put (put (put (put (put (put (put (put (put (put (put (put (put t 6 (t 5)) 7 (t 0)) 8 v2) 9 v3) 12 (t 0)) 13 (t 5)) 14 (t 1)) 15 v4) 16 v5) 17 (t 1)) 18 v7) 1 v7) 19 (t 0)) 20 (t 5)) 21 v7) 22 v8) 23 v9) 24 v7) 25 v11) 1 v11) 26 (t 0)) 27 (t 5)) 28 v11) 29 q12.1) 30 v13) 31 v14) 32 v11) 33 v16) 1 v16) 34 (t 0)) 35 (t 5)) 36 v16) 37 v17) 38 v18) 39 v16) 40 v20) 1 v20) 41 (t 0)) 42 (t 5)) 43 v20) 44 v21) 45 v22) 46 v20) 47 v24) 1 v24) 10 (t 5)) 11 v25) 5 v25, H23, q12.2.2 + 24⟩)
    (some ⟨(.exit 0), put (put (put (put t 6 (t 5)) 7 (t 0)) 8 v2) 9 v3, H, n + 4⟩)
noncomputable def S45 (C : Calling) (L : Body → Body) (t : Tm) (H : Hp) (n : Nat) : Option (Value × Hp × Nat) :=
  (L (S45L0 C L) (put (put t 4 (.int .i64 0)) 5 (.int .i64 0)) H (n + 2)).bind fun (o1 : Out) =>
  some (o1.t 1, o1.H, o1.n + 2)
theorem s45 (C : Calling) (L : Body → Body) (t : Tm) (H : Hp) (n : Nat) : bodyK Try.prog C L Try.f45 t H n = S45 C L t H n := by kernel_rfl
theorem c45 (args : List Value) (H : Hp) (n : Nat) : Call Try.prog 45 args H n = S45 (Call Try.prog) Loop (argsT args) H n := (Call_body Try.func45 args H n).trans (s45 ..)
/-! 46: laws.heldNodeS -/
noncomputable def S46L0 (C : Calling) (L : Body → Body) : Body := fun t H n =>
  (lenV false (t 0)).bind fun v2 =>
  (binK .plain .lss (t 5) v2).bind fun v3 =>
  csel v3
    ((idxA 5 (t 0) (t 5)).bind fun v4 =>
     (fieldA 0 v4).bind fun v5 =>
     (ld false 1 v5 H).bind fun v6 =>
     (binK .plain .neq v6 (t 1)).bind fun v7 =>
     csel v7
       (some ⟨.ret, put (put (put (put (put (put (put (put (put (put (put (put t 6 (t 5)) 7 (t 0)) 8 v2) 9 v3) 12 (t 0)) 13 (t 5)) 14 v4) 15 v5) 16 v6) 17 (t 1)) 18 v7) 4 (.int .i64 (-1)), H, n + 12⟩)
       ((binK .plain .add (t 1) (.int .i64 1)).bind fun v8 =>
        (idxA 5 (t 0) (t 5)).bind fun v9 =>
        (fieldA 1 v9).bind fun v10 =>
        (ld false 1 v10 H).bind fun v11 =>
        (binK .plain .neq v11 v8).bind fun v12 =>
        csel v12
          (some ⟨.ret, put (put (put (put (put (put (put (put (put (put (put (put (put (put (put (put (put (put (put (put (put (put t 6 (t 5)) 7 (t 0)) 8 v2) 9 v3) 12 (t 0)) 13 (t 5)) 14 v4) 15 v5) 16 v6) 17 (t 1)) 18 v7) 19 (t 1)) 20 v8) 1 v8) 21 (t 0)) 22 (t 5)) 23 v9) 24 v10) 25 v11) 26 v8) 27 v12) 4 (.int .i64 (-1)), H, n + 22⟩)
          ((binK .plain .add v8 (.int .i64 1)).bind fun v13 =>
           (idxA 5 (t 0) (t 5)).bind fun v14 =>
           (fieldA 2 v14).bind fun v15 =>
           (ld false 1 v15 H).bind fun v16 =>
           (C 72 [v13] H (n + 32)).bind fun q17 =>
           ask (ld false 1 v15 q17.2.1 = some v16) <|
           (binK .plain .neq v16 q17.1).bind fun v18 =>
           csel v18
             (some ⟨.ret, put (put (put (put (put (put (put (put (put (put (put (put (put (put (put (put (put (put (put (put (put (put (put (put (put (put (put (put (put (put (put (put (put t 6 (t 5)) 7 (t 0)) 8 v2) 9 v3) 12 (t 0)) 13 (t 5)) 14 v4) 15 v5) 16 v6) 17 (t 1)) 18 v7) 19 (t 1)) 20 v8) 1 v8) 21 (t 0)) 22 (t 5)) 23 v9) 24 v10) 25 v11) 26 v8) 27 v12) 28 v8) 29 v13) 1 v13) 30 (t 0)) 31 (t 5)) 32 v14) 33 v15) 34 v16) 35 v13) 36 q17.1) 37 v18) 4 (.int .i64 (-1)), q17.2.1, q17.2.2 + 1⟩)
             ((binK .plain .add v13 (.int .i64 1)).bind fun v19 =>
              (idxA 5 (t 0) (t 5)).bind fun v20 =>
              (fieldA 3 v20).bind fun v21 =>
              (ld false 1 v21 q17.2.1).bind fun v22 =>
              (binK .plain .neq v22 v19).bind fun v23 =>
              csel v23
                (some ⟨.ret, put (put (put (put (put (put (put (put (put (put (put (put (put (put (put (put (put (put (put (put (put (put (put (put (put (put (put (put (put (put (put (put (put (put (put (put (put (put (put (put (put (put (put t 6 (t 5)) 7 (t 0)) 8 v2) 9 v3) 12 (t 0)) 13 (t 5)) 14 v4) 15 v5) 16 v6) 17 (t 1)) 18 v7) 19 (t 1)) 20 v8) 1 v8) 21 (t 0)) 22 (t 5)) 23 v9) 24 v10) 25 v11) 26 v8) 27 v12) 28 v8) 29 v13) 1 v13) 30 (t 0)) 31 (t 5)) 32 v14) 33 v15) 34 v16) 35 v13) 36 q17.1) 37 v18) 38 v13) 39 v19) 1 v19) 40 (t 0)) 41 (t 5)) 42 v20) 43 v21) 44 v22) 45 v19) 46 v23) 4 (.int .i64 (-1)), q17.2.1, q17.2.2 + 11⟩)
                ((binK .plain .add v19 (.int .i64 1)).bind fun v24 =>
                 (idxA 5 (t 0) (t 5)).bind fun v25 =>
                 (fieldA 4 v25).bind fun v26 =>
                 (ld false 1 v26 q17.2.1).bind fun v27 =>
                 (binK .plain .neq v27 v24).bind fun v28 =>
                 csel v28
                   (some ⟨.ret, put (put (put (put (put (put (put (put (put (put (put (put (put (put (put (put (put (put (put (put (put (put (put (put (put (put (put (put (put (put (put (put (put (put (put (put (put (put (put (put (put (put (put (put (put (put (put (put (put (put (put (put (put t 6 (t 5)) 7 (t 0)) 8 v2) 9 v3) 12 (t 0)) 13 (t 5)) 14 v4) 15 v5) 16 v6) 17 (t 1)) 18 v7) 19 (t 1)) 20 v8) 1 v8) 21 (t 0)) 22 (t 5)) 23 v9) 24 v10) 25 v11) 26 v8) 27 v12) 28 v8) 29 v13) 1 v13) 30 (t 0)) 31 (t 5)) 32 v14) 33 v15) 34 v16) 35 v13) 36 q17.1) 37 v18) 38 v13) 39 v19) 1 v19) 40 (t 0)) 41 (t 5)) 42 v20) 43 v21) 44 v22) 45 v19) 46 v23) 47 v19) 48 v24) 1 v24) 49 (t 0)) 50 (t 5)) 51 v25) 52 v26) 53 v27) 54 v24) 55 v28) 4 (.int .i64 (-1)), q17.2.1, q17.2.2 + 21⟩)
                   ((binK .plain .add v24 (.int .i64 1)).bind fun v29 =>
                    (binK .plain .add (t 5) (.int .i64 1)).bind fun v30 =>
                    some ⟨.normal, put (put (put (put (put (put (put (put (put (put (put (put (put (put (put (put (put (put (put (put (put (put (put (put (put (put (put (put (put (put (put (put (put (put (put (put (put (put (put (put (put (put (put (put (put (put (put (put (put (put (put (put (put (put (put (put (put (put t 6 (t 5)) 7 (t 0)) 8 v2) 9 v3) 12 (t 0)) 13 (t 5)) 14 v4) 15 v5) 16 v6) 17 (t 1)) 18 v7) 19 (t 1)) 20 v8) 1 v8) 21 (t 0)) 22 (t 5)) 23 v9) 24 v10) 25 v11) 26 v8) 27 v12) 28 v8) 29 v13) 1 v13) 30 (t 0)) 31 (t 5)) 32 v14) 33 v15) 34 v16) 35 v13) 36 q17.1) 37 v18) 38 v13) 39 v19) 1 v19) 40 (t 0)) 41 (t 5)) 42 v20) 43 v21) 44 v22) 45 v19) 46 v23) 47 v19) 48 v24) 1 v24) 49 (t 0)) 50 (t 5)) 51 v25) 52 v26) 53 v27) 54 v24) 55 v28) 56 v24) 57 v29) 1 v29) 10 (t 5)) 11 v30) 5 v30, q17.2.1, q17.2.2 + 26⟩))))))
    (some ⟨(.exit 0), put (put (put (put t 6 (t 5)) 7 (t 0)) 8 v2) 9 v3, H, n + 4⟩)
noncomputable def S46 (C : Calling) (L : Body → Body) (t : Tm) (H : Hp) (n : Nat) : Option (Value × Hp × Nat) :=
  (L (S46L0 C L) (put (put t 4 (.int .i64 0)) 5 (.int .i64 0)) H (n + 2)).bind fun (o1 : Out) =>
  let o31 := outOf 0 o1
  thenK o31
    (some (o31.t 1, o31.H, o31.n + 2))
    (finE o31.e
       (some (o31.t 4, o31.H, o31.n)))
theorem s46 (C : Calling) (L : Body → Body) (t : Tm) (H : Hp) (n : Nat) : bodyK Try.prog C L Try.f46 t H n = S46 C L t H n := by kernel_rfl
theorem c46 (args : List Value) (H : Hp) (n : Nat) : Call Try.prog 46 args H n = S46 (Call Try.prog) Loop (argsT args) H n := (Call_body Try.func46 args H n).trans (s46 ..)
/-! 47: spec.l1New -/
noncomputable def S47L0 (C : Calling) (L : Body → Body) : Body := fun t H n =>
  (lenV false (t 0)).bind fun v4 =>
  (binK .plain .lss (t 4) v4).bind fun v5 =>
  let t7 : Tm := put (put (put (put (put t 8 (t 4)) 9 (t 0)) 10 v4) 11 v5) 12 v5
  (gsel v5 true
    ((binK .plain .lss (t7 4) (.int .i64 4000)).bind fun v8 =>
     some (put (put t7 13 (t7 4)) 14 v8, H, n + 8))
    (some (put (put t7 13 (.tuple #[])) 14 (.tuple #[]), H, n + 8))
  ).bind fun (q6 : R3) =>
  (pickV (q6.1 12) (q6.1 14) (.bool false)).bind fun v9 =>
  csel v9
    ((binK .plain .mul (q6.1 3) (.int .i64 131)).bind fun v10 =>
     (idxA 1 (q6.1 0) (q6.1 4)).bind fun v11 =>
     (ld false 1 v11 q6.2.1).bind fun v12 =>
     (conv (.toInt .i64) (q6.2.2 + 6) v12 q6.2.1).bind fun p13 =>
     (binK .plain .add v10 p13.1).bind fun v14 =>
     (binK .plain .add v14 (.int .i64 7)).bind fun v15 =>
     (binK .plain .and v15 (.int .i64 1073741823)).bind fun v16 =>
     (binK .plain .add (q6.1 4) (.int .i64 1)).bind fun v17 =>
     some ⟨.normal, put (put (put (put (put (put (put (put (put (put (put (put (put (put (put q6.1 15 v9) 18 (q6.1 3)) 19 v10) 20 (q6.1 0)) 21 (q6.1 4)) 22 v11) 23 v12) 24 p13.1) 25 v14) 26 v15) 27 v16) 3 v16) 16 (q6.1 4)) 17 v17) 4 v17, p13.2, q6.2.2 + 14⟩)
    (some ⟨(.exit 0), put q6.1 15 v9, q6.2.1, q6.2.2⟩)
noncomputable def S47 (C : Calling) (L : Body → Body) (t : Tm) (H : Hp) (n : Nat) : Option (Value × Hp × Nat) :=
  (lenV false (t 0)).bind fun v1 =>
  (binK .plain .add (.int .i64 17000) v1).bind fun v2 =>
  (L (S47L0 C L) (put (put (put (put (put (put t 2 (.pointer none)) 5 (t 0)) 6 v1) 7 v2) 3 v2) 4 (.int .i64 0)) H (n + 6)).bind fun (o3 : Out) =>
  (bld [nilS, .int .i64 0, .int .i64 0] [(0, 1, o3.t 0), (2, 1, o3.t 3)]).bind fun v18 =>
  (vcells v18).bind fun c20 =>
  let H19 := o3.H.set (o3.n + 3) (some (.row c20 0 true))
  some (ptr (o3.n + 3) 0, H19, o3.n + 5)
theorem s47 (C : Calling) (L : Body → Body) (t : Tm) (H : Hp) (n : Nat) : bodyK Try.prog C L Try.f47 t H n = S47 C L t H n := by kernel_rfl
theorem c47 (args : List Value) (H : Hp) (n : Nat) : Call Try.prog 47 args H n = S47 (Call Try.prog) Loop (argsT args) H n := (Call_body Try.func47 args H n).trans (s47 ..)
/-! 48: spec.l2Draw -/
noncomputable def S48L0 (C : Calling) (L : Body → Body) : Body := fun t H n =>
  (fieldA 0 (t 3)).bind fun v37 =>
  (ld false 1 v37 H).bind fun v38 =>
  (lenV false v38).bind fun v39 =>
  (binK .plain .lss (t 5) v39).bind fun v40 =>
  csel v40
    ((fieldA 0 (t 3)).bind fun v41 =>
     (ld false 1 v41 H).bind fun v42 =>
     (idxA 5 v42 (t 5)).bind fun v43 =>
     (fieldA 0 v43).bind fun v44 =>
     (st false 1 v44 (.int .i64 1) H).bind fun H45 =>
     (binK .plain .add (t 5) (.int .i64 1)).bind fun v46 =>
     some ⟨.normal, put (put (put (put (put (put (put (put (put (put (put (put (put t 39 (t 5)) 40 v37) 41 v38) 42 v39) 43 v40) 46 v41) 47 v42) 48 (t 5)) 49 v43) 50 v44) 44 (t 5)) 45 v46) 5 v46, H45, n + 14⟩)
    (some ⟨(.exit 0), put (put (put (put (put t 39 (t 5)) 40 v37) 41 v38) 42 v39) 43 v40, H, n + 5⟩)
noncomputable def S48 (C : Calling) (L : Body → Body) (t : Tm) (H : Hp) (n : Nat) : Option (Value × Hp × Nat) :=
  let H1 := H.set (n) (some (.row [nilS] 0 true))
  (C 73 [t 0] H1 (n + 5)).bind fun q2 =>
  let H3 := q2.2.1.set (n + 3) (some (.row [nilS] 0 true))
  (st true 1 (ptr (n + 3) 0) q2.1 H3).bind fun H4 =>
  (fieldA 0 (ptr (n + 3) 0)).bind fun v5 =>
  (ld false 1 v5 H4).bind fun v6 =>
  (lenV false v6).bind fun v7 =>
  (binK .plain .gtr v7 (.int .i64 0)).bind fun v8 =>
  let t10 : Tm := put (put (put (put (put (put (put (put (put t 2 (ptr (n) 0)) 6 (t 0)) 7 q2.1) 3 (ptr (n + 3) 0)) 8 v5) 9 v6) 10 v7) 11 v8) 12 v8
  (gsel v8 true
    ((C 50 [t10 0, .int .i64 12] H4 (q2.2.2 + 8)).bind fun q11 =>
     some (put (put t10 13 (t10 0)) 14 q11.1, q11.2.1, q11.2.2))
    (some (put (put t10 13 (.tuple #[])) 14 (.tuple #[]), H4, q2.2.2 + 8))
  ).bind fun (q9 : R3) =>
  (pickV (q9.1 12) (q9.1 14) (.bool false)).bind fun v12 =>
  let t14 : Tm := put q9.1 15 v12
  (csel v12
    ((fieldA 0 (t14 3)).bind fun v15 =>
     (ld false 1 v15 q9.2.1).bind fun v16 =>
     (lenV false v16).bind fun v17 =>
     (C 74 [t14 0, v17] q9.2.1 (q9.2.2 + 6)).bind fun q18 =>
     (fieldA 0 (t14 3)).bind fun v19 =>
     (ld false 1 v19 q18.2.1).bind fun v20 =>
     (fieldA 0 (t14 3)).bind fun v21 =>
     (ld false 1 v21 q18.2.1).bind fun v22 =>
     (idxA 5 v22 q18.1).bind fun v23 =>
     (ld true 5 v23 q18.2.1).bind fun v24 =>
     (C 51 [t14 0, v24] q18.2.1 (q18.2.2 + 12)).bind fun q25 =>
     ask (ld false 1 v19 q25.2.1 = some v20) <|
     (idxA 5 v20 q18.1).bind fun v26 =>
     (st true 5 v26 q25.1 q25.2.1).bind fun H27 =>
     some ⟨.normal, put (put (put (put (put (put (put (put (put (put (put (put (put (put (put (put (put t14 16 (t14 0)) 17 v15) 18 v16) 19 v17) 20 q18.1) 4 q18.1) 21 v19) 22 v20) 23 q18.1) 24 (t14 0)) 25 v21) 26 v22) 27 q18.1) 28 v23) 29 v24) 30 q25.1) 31 v26, H27, q25.2.2⟩)
    (some ⟨.normal, t14, q9.2.1, q9.2.2⟩)
  ).bind fun (o13 : Out) =>
  (C 50 [o13.t 0, .int .i64 60] o13.H (o13.n + 2)).bind fun q28 =>
  let t30 : Tm := put (put o13.t 32 (o13.t 0)) 33 q28.1
  (csel q28.1
    ((C 74 [t30 0, .int .i64 2] q28.2.1 (q28.2.2 + 6)).bind fun q31 =>
     (binK .plain .add (.int .i64 3000) q31.1).bind fun v32 =>
     (mks (q28.2.2 + 3) 5 48 [.int .i64 0, .int .i64 0, .string ⟨#[]⟩, .int .i64 0, .int .i64 0] v32 v32 q31.2.1).bind fun p33 =>
     (fieldA 0 (t30 3)).bind fun v34 =>
     (st false 1 v34 p33.1 p33.2).bind fun H35 =>
     (L (S48L0 C L) (put (put (put (put (put (put t30 34 (t30 0)) 35 q31.1) 36 v32) 37 p33.1) 38 v34) 5 (.int .i64 0)) H35 (q31.2.2 + 1)).bind fun (o36 : Out) =>
     some ⟨.normal, o36.t, o36.H, o36.n⟩)
    (some ⟨.normal, t30, q28.2.1, q28.2.2⟩)
  ).bind fun (o29 : Out) =>
  (ld true 1 (o29.t 3) o29.H).bind fun v47 =>
  (st true 1 (o29.t 2) v47 o29.H).bind fun H48 =>
  (ld true 1 (o29.t 2) H48).bind fun v49 =>
  some (v49, H48, o29.n + 2)
theorem s48 (C : Calling) (L : Body → Body) (t : Tm) (H : Hp) (n : Nat) : bodyK Try.prog C L Try.f48 t H n = S48 C L t H n := by kernel_rfl
theorem c48 (args : List Value) (H : Hp) (n : Nat) : Call Try.prog 48 args H n = S48 (Call Try.prog) Loop (argsT args) H n := (Call_body Try.func48 args H n).trans (s48 ..)
/-! 49: spec.l2DrawNode -/
noncomputable def S49 (C : Calling) (L : Body → Body) (t : Tm) (H : Hp) (n : Nat) : Option (Value × Hp × Nat) :=
  let H1 := H.set (n) (some (.row [.int .i64 0, .int .i64 0, .string ⟨#[]⟩, .int .i64 0, .int .i64 0] 0 true))
  (binK .plain .eql (t 1) (.int .i64 0)).bind fun v2 =>
  let t4 : Tm := put (put (put (put t 4 (ptr (n) 0)) 6 (t 1)) 7 v2) 8 v2
  (gsel v2 false
    ((C 50 [t4 0, .int .i64 2] H1 (n + 7)).bind fun q5 =>
     some (put (put t4 9 (t4 0)) 10 q5.1, q5.2.1, q5.2.2))
    (some (put (put t4 9 (.tuple #[])) 10 (.tuple #[]), H1, n + 7))
  ).bind fun (q3 : R3) =>
  (pickV (q3.1 8) (.bool true) (q3.1 10)).bind fun v6 =>
  csel v6
    ((C 75 [q3.1 0] q3.2.1 (q3.2.2 + 3)).bind fun q7 =>
     (st true 5 (q3.1 4) q7.1 q7.2.1).bind fun H8 =>
     (ld true 5 (q3.1 4) H8).bind fun v9 =>
     some (v9, H8, q7.2.2))
    ((binK .plain .sub (q3.1 1) (.int .i64 1)).bind fun v10 =>
     (C 76 [q3.1 1, .int .i64 5] q3.2.1 (q3.2.2 + 8)).bind fun q11 =>
     (C 74 [q3.1 0, q11.1] q11.2.1 (q11.2.2)).bind fun q12 =>
     (binK .plain .sub v10 q12.1).bind fun v13 =>
     (C 74 [q3.1 0, .int .i64 8] q12.2.1 (q12.2.2 + 2)).bind fun q14 =>
     (binK .plain .eql q14.1 (.int .i64 0)).bind fun v15 =>
     csel v15
       ((C 74 [q3.1 0, .int .i64 9] q14.2.1 (q14.2.2 + 7)).bind fun q16 =>
        (bld [.int .i64 0, .int .i64 0, .string ⟨#[]⟩, .int .i64 0, .int .i64 0] [(0, 1, .int .i64 6), (1, 1, q16.1), (3, 1, v13)]).bind fun v17 =>
        (st true 5 (q3.1 4) v17 q16.2.1).bind fun H18 =>
        (ld true 5 (q3.1 4) H18).bind fun v19 =>
        some (v19, H18, q16.2.2))
       ((binK .plain .eql q14.1 (.int .i64 1)).bind fun v20 =>
        csel v20
          ((bld [.int .i64 0, .int .i64 0, .string ⟨#[]⟩, .int .i64 0, .int .i64 0] [(0, 1, .int .i64 7), (3, 1, v13)]).bind fun v21 =>
           (st true 5 (q3.1 4) v21 q14.2.1).bind fun H22 =>
           (ld true 5 (q3.1 4) H22).bind fun v23 =>
           some (v23, H22, q14.2.2 + 7))
          ((binK .plain .sub (q3.1 1) (.int .i64 1)).bind fun v24 =>
           (C 76 [q3.1 1, .int .i64 4] q14.2.1 (q14.2.2 + 14)).bind fun q25 =>
           (C 74 [q3.1 0, q25.1] q25.2.1 (q25.2.2)).bind fun q26 =>
           (binK .plain .sub v24 q26.1).bind fun v27 =>
           (bld [.int .i64 0, .int .i64 0, .string ⟨#[]⟩, .int .i64 0, .int .i64 0] [(0, 1, .int .i64 5), (3, 1, v13), (4, 1, v27)]).bind fun v28 =>
           (st true 5 (q3.1 4) v28 q26.2.1).bind fun H29 =>
           (ld true 5 (q3.1 4) H29).bind fun v30 =>
           some (v30, H29, q26.2.2))))
theorem s49 (C : Calling) (L : Body → Body) (t : Tm) (H : Hp) (n : Nat) : bodyK Try.prog C L Try.f49 t H n = S49 C L t H n := by kernel_rfl
theorem c49 (args : List Value) (H : Hp) (n : Nat) : Call Try.prog 49 args H n = S49 (Call Try.prog) Loop (argsT args) H n := (Call_body Try.func49 args H n).trans (s49 ..)
/-! 50: spec.l1Once -/
noncomputable def S50 (C : Calling) (L : Body → Body) (t : Tm) (H : Hp) (n : Nat) : Option (Value × Hp × Nat) :=
  (C 74 [t 0, t 1] H (n + 6)).bind fun q1 =>
  (binK .plain .eql q1.1 (.int .i64 0)).bind fun v2 =>
  some (v2, q1.2.1, q1.2.2)
theorem s50 (C : Calling) (L : Body → Body) (t : Tm) (H : Hp) (n : Nat) : bodyK Try.prog C L Try.f50 t H n = S50 C L t H n := by kernel_rfl
theorem c50 (args : List Value) (H : Hp) (n : Nat) : Call Try.prog 50 args H n = S50 (Call Try.prog) Loop (argsT args) H n := (Call_body Try.func50 args H n).trans (s50 ..)
/-! 51: spec.l2Spoil -/
noncomputable def S51 (C : Calling) (L : Body → Body) (t : Tm) (H : Hp) (n : Nat) : Option (Value × Hp × Nat) :=
  (vcells (t 1)).bind fun c2 =>
  let H1 := H.set (n) (some (.row c2 0 true))
  let H3 := H1.set (n + 1) (some (.row [.int .i64 0, .int .i64 0, .string ⟨#[]⟩, .int .i64 0, .int .i64 0] 0 true))
  (C 74 [t 0, .int .i64 8] H3 (n + 4)).bind fun q4 =>
  (binK .plain .eql q4.1 (.int .i64 0)).bind fun v5 =>
  let t7 : Tm := put (put (put (put (put (put t 3 (ptr (n) 0)) 4 (ptr (n + 1) 0)) 5 (t 0)) 6 q4.1) 8 v5) 7 v5
  (csel v5
    ((C 74 [t7 0, .int .i64 11] q4.2.1 (q4.2.2 + 6)).bind fun q8 =>
     (fieldA 0 (ptr (n) 0)).bind fun v9 =>
     (st false 1 v9 q8.1 q8.2.1).bind fun H10 =>
     some ⟨.normal, put (put (put t7 9 (t7 0)) 10 q8.1) 11 v9, H10, q8.2.2⟩)
    ((binK .plain .eql q4.1 (.int .i64 1)).bind fun v11 =>
     let t13 : Tm := put (put t7 13 v11) 12 v11
     (csel v11
       ((C 74 [t13 0, .int .i64 20] q4.2.1 (q4.2.2 + 9)).bind fun q14 =>
        (binK .plain .sub q14.1 (.int .i64 1)).bind fun v15 =>
        (fieldA 3 (ptr (n) 0)).bind fun v16 =>
        (st false 1 v16 v15 q14.2.1).bind fun H17 =>
        some ⟨.normal, put (put (put (put t13 14 (t13 0)) 15 q14.1) 16 v15) 17 v16, H17, q14.2.2⟩)
       ((binK .plain .eql q4.1 (.int .i64 2)).bind fun v18 =>
        let t20 : Tm := put (put t13 19 v18) 18 v18
        (csel v18
          ((C 74 [t20 0, .int .i64 20] q4.2.1 (q4.2.2 + 11)).bind fun q21 =>
           (binK .plain .sub q21.1 (.int .i64 1)).bind fun v22 =>
           (fieldA 4 (ptr (n) 0)).bind fun v23 =>
           (st false 1 v23 v22 q21.2.1).bind fun H24 =>
           some ⟨.normal, put (put (put (put t20 20 (t20 0)) 21 q21.1) 22 v22) 23 v23, H24, q21.2.2⟩)
          ((binK .plain .eql q4.1 (.int .i64 3)).bind fun v25 =>
           let t27 : Tm := put (put t20 25 v25) 24 v25
           (csel v25
             ((bsl (q4.2.2 + 9) 1 8 [.int .i64 0] [(0, 1, .int .i64 (-1)), (1, 1, .int .i64 2), (2, 1, .int .i64 99), (3, 1, .int .i64 100), (4, 1, .int .i64 1000000000), (5, 1, .int .i64 1000000001), (6, 1, .int .i64 (-1000000000)), (7, 1, .int .i64 (-1000000001))] q4.2.1).bind fun p28 =>
              (C 77 [t27 0, p28.1] p28.2 (q4.2.2 + 13)).bind fun q29 =>
              (fieldA 1 (ptr (n) 0)).bind fun v30 =>
              (st false 1 v30 q29.1 q29.2.1).bind fun H31 =>
              some ⟨.normal, put (put (put (put t27 26 (t27 0)) 27 p28.1) 28 q29.1) 29 v30, H31, q29.2.2⟩)
             ((binK .plain .eql q4.1 (.int .i64 4)).bind fun v32 =>
              let t34 : Tm := put (put t27 31 v32) 30 v32
              (csel v32
                ((bsl (q4.2.2 + 11) 1 6 [.string ⟨#[]⟩] [(0, 1, .string ⟨#[]⟩), (1, 1, .string ⟨#[97]⟩), (2, 1, .string ⟨#[65, 98]⟩), (3, 1, .string ⟨#[97, 98, 99, 100, 101, 102, 103, 104, 105, 106, 107, 108]⟩), (4, 1, .string ⟨#[97, 98, 99, 100, 101, 102, 103, 104, 105, 106, 107, 108, 109]⟩), (5, 1, .string ⟨#[97, 49]⟩)] q4.2.1).bind fun p35 =>
                 (C 78 [t34 0, p35.1] p35.2 (q4.2.2 + 15)).bind fun q36 =>
                 (fieldA 2 (ptr (n) 0)).bind fun v37 =>
                 (st false 1 v37 q36.1 q36.2.1).bind fun H38 =>
                 some ⟨.normal, put (put (put (put t34 32 (t34 0)) 33 p35.1) 34 q36.1) 35 v37, H38, q36.2.2⟩)
                (some ⟨.normal, t34, q4.2.1, q4.2.2 + 10⟩)
              ).bind fun (o33 : Out) =>
              some ⟨.normal, o33.t, o33.H, o33.n⟩)
           ).bind fun (o26 : Out) =>
           some ⟨.normal, o26.t, o26.H, o26.n⟩)
        ).bind fun (o19 : Out) =>
        some ⟨.normal, o19.t, o19.H, o19.n⟩)
     ).bind fun (o12 : Out) =>
     some ⟨.normal, o12.t, o12.H, o12.n⟩)
  ).bind fun (o6 : Out) =>
  (ld true 5 (o6.t 3) o6.H).bind fun v39 =>
  (st true 5 (o6.t 4) v39 o6.H).bind fun H40 =>
  (ld true 5 (o6.t 4) H40).bind fun v41 =>
  some (v41, H40, o6.n + 2)
theorem s51 (C : Calling) (L : Body → Body) (t : Tm) (H : Hp) (n : Nat) : bodyK Try.prog C L Try.f51 t H n = S51 C L t H n := by kernel_rfl
theorem c51 (args : List Value) (H : Hp) (n : Nat) : Call Try.prog 51 args H n = S51 (Call Try.prog) Loop (argsT args) H n := (Call_body Try.func51 args H n).trans (s51 ..)
/-! 52: impl.nodeOk -/
noncomputable def S52 (C : Calling) (L : Body → Body) (t : Tm) (H : Hp) (n : Nat) : Option (Value × Hp × Nat) :=
  (vcells (t 0)).bind fun c2 =>
  let H1 := H.set (n) (some (.row c2 0 true))
  (fieldA 2 (ptr (n) 0)).bind fun v3 =>
  (ld false 1 v3 H1).bind fun v4 =>
  (binK .plain .eql v4 (.string ⟨#[]⟩)).bind fun v5 =>
  (fieldA 3 (ptr (n) 0)).bind fun v6 =>
  (ld false 1 v6 H1).bind fun v7 =>
  (binK .plain .eql v7 (.int .i64 0)).bind fun v8 =>
  (fieldA 4 (ptr (n) 0)).bind fun v9 =>
  (ld false 1 v9 H1).bind fun v10 =>
  (binK .plain .eql v10 (.int .i64 0)).bind fun v11 =>
  (fieldA 0 (ptr (n) 0)).bind fun v12 =>
  (ld false 1 v12 H1).bind fun v13 =>
  (binK .plain .eql v13 (.int .i64 1)).bind fun v14 =>
  let t16 : Tm := put (put (put (put (put (put (put (put (put (put (put (put (put (put (put (put (put (put (put (put t 2 (ptr (n) 0)) 4 (.bool false)) 10 v3) 11 v4) 12 v5) 5 (.int .i64 0)) 6 (.int .i64 0)) 7 v5) 13 v6) 14 v7) 15 v8) 16 v9) 17 v10) 18 v11) 8 v8) 9 v11) 19 v12) 20 v13) 22 v14) 21 v14
  (csel v14
    (some ⟨.normal, t16, H1, n + 20⟩)
    ((binK .plain .eql v13 (.int .i64 2)).bind fun v17 =>
     let t19 : Tm := put (put t16 24 v17) 23 v17
     (csel v17
       (some ⟨.normal, put t19 6 (.int .i64 1), H1, n + 23⟩)
       ((binK .plain .eql v13 (.int .i64 3)).bind fun v20 =>
        let t22 : Tm := put (put t19 26 v20) 25 v20
        (csel v20
          (some ⟨.normal, put (put t22 5 (.int .i64 (-1000000000))) 6 (.int .i64 1000000000), H1, n + 26⟩)
          ((binK .plain .eql v13 (.int .i64 4)).bind fun v23 =>
           let t25 : Tm := put (put t22 28 v23) 27 v23
           (csel v23
             ((fieldA 2 (ptr (n) 0)).bind fun v26 =>
              (ld false 1 v26 H1).bind fun v27 =>
              (C 79 [v27] H1 (n + 30)).bind fun q28 =>
              some ⟨.normal, put (put (put (put t25 29 v26) 30 v27) 31 q28.1) 7 q28.1, q28.2.1, q28.2.2⟩)
             ((binK .plain .eql v13 (.int .i64 5)).bind fun v29 =>
              let t31 : Tm := put (put t25 33 v29) 32 v29
              (csel v29
                ((fieldA 3 (ptr (n) 0)).bind fun v32 =>
                 (ld false 1 v32 H1).bind fun v33 =>
                 (binK .plain .sub (t31 1) (.int .i64 1)).bind fun v34 =>
                 (C 80 [v33, .int .i64 0, v34] H1 (n + 40)).bind fun q35 =>
                 (fieldA 4 (ptr (n) 0)).bind fun v36 =>
                 (ld false 1 v36 q35.2.1).bind fun v37 =>
                 ask (ld false 1 v36 H1 = some v37) <|
                 (binK .plain .sub (t31 1) (.int .i64 1)).bind fun v38 =>
                 (C 80 [v37, .int .i64 0, v38] q35.2.1 (q35.2.2)).bind fun q39 =>
                 some ⟨.normal, put (put (put (put (put (put (put (put (put (put (put (put t31 34 v32) 35 v33) 36 (t31 1)) 37 v34) 38 q35.1) 39 v36) 40 v37) 41 (t31 1)) 42 v38) 43 q39.1) 8 q35.1) 9 q39.1, q39.2.1, q39.2.2⟩)
                ((binK .plain .eql v13 (.int .i64 6)).bind fun v40 =>
                 let t42 : Tm := put (put t31 45 v40) 44 v40
                 (csel v40
                   ((fieldA 3 (ptr (n) 0)).bind fun v43 =>
                    (ld false 1 v43 H1).bind fun v44 =>
                    (binK .plain .sub (t42 1) (.int .i64 1)).bind fun v45 =>
                    (C 80 [v44, .int .i64 0, v45] H1 (n + 37)).bind fun q46 =>
                    some ⟨.normal, put (put (put (put (put (put (put t42 46 v43) 47 v44) 48 (t42 1)) 49 v45) 50 q46.1) 6 (.int .i64 1000000000)) 8 q46.1, q46.2.1, q46.2.2⟩)
                   ((binK .plain .eql v13 (.int .i64 7)).bind fun v47 =>
                    let t49 : Tm := put (put t42 52 v47) 51 v47
                    (csel v47
                      ((fieldA 3 (ptr (n) 0)).bind fun v50 =>
                       (ld false 1 v50 H1).bind fun v51 =>
                       (binK .plain .sub (t49 1) (.int .i64 1)).bind fun v52 =>
                       (C 80 [v51, .int .i64 0, v52] H1 (n + 38)).bind fun q53 =>
                       some ⟨.normal, put (put (put (put (put (put t49 53 v50) 54 v51) 55 (t49 1)) 56 v52) 57 q53.1) 8 q53.1, q53.2.1, q53.2.2⟩)
                      ((binK .plain .eql v13 (.int .i64 8)).bind fun v54 =>
                       let t56 : Tm := put (put t49 59 v54) 58 v54
                       (csel v54
                         (some ⟨.normal, put t56 6 (.int .i64 99), H1, n + 35⟩)
                         ((binK .plain .eql v13 (.int .i64 9)).bind fun v57 =>
                          csel v57
                            (some ⟨.normal, put (put (put t56 61 v57) 60 v57) 6 (.int .i64 1000000000), H1, n + 37⟩)
                            (some ⟨.ret, put (put (put t56 61 v57) 60 v57) 4 (.bool false), H1, n + 37⟩))
                       ).bind fun (o55 : Out) =>
                       some o55)
                    ).bind fun (o48 : Out) =>
                    some o48)
                 ).bind fun (o41 : Out) =>
                 some o41)
              ).bind fun (o30 : Out) =>
              some o30)
           ).bind fun (o24 : Out) =>
           some o24)
        ).bind fun (o21 : Out) =>
        some o21)
     ).bind fun (o18 : Out) =>
     some o18)
  ).bind fun (o15 : Out) =>
  let o58 := outOf 0 o15
  thenK o58
    ((fieldA 1 (o58.t 2)).bind fun v59 =>
     (ld false 1 v59 o58.H).bind fun v60 =>
     (C 80 [v60, o58.t 5, o58.t 6] o58.H (o58.n + 15)).bind fun q61 =>
     (pickV q61.1 (gsel q61.1 true (o58.t 7) (.tuple #[])) (.bool false)).bind fun v62 =>
     (pickV v62 (gsel v62 true (o58.t 8) (.tuple #[])) (.bool false)).bind fun v63 =>
     (pickV v63 (gsel v63 true (o58.t 9) (.tuple #[])) (.bool false)).bind fun v64 =>
     some (v64, q61.2.1, q61.2.2))
    (finE o58.e
       (some (o58.t 4, o58.H, o58.n)))
theorem s52 (C : Calling) (L : Body → Body) (t : Tm) (H : Hp) (n : Nat) : bodyK Try.prog C L Try.f52 t H n = S52 C L t H n := by kernel_rfl
theorem c52 (args : List Value) (H : Hp) (n : Nat) : Call Try.prog 52 args H n = S52 (Call Try.prog) Loop (argsT args) H n := (Call_body Try.func52 args H n).trans (s52 ..)
/-! 53: impl.isNode -/
noncomputable def S53 (C : Calling) (L : Body → Body) (t : Tm) (H : Hp) (n : Nat) : Option (Value × Hp × Nat) :=
  (vcells (t 0)).bind fun c2 =>
  let H1 := H.set (n) (some (.row c2 0 true))
  (fieldA 0 (ptr (n) 0)).bind fun v3 =>
  (ld false 1 v3 H1).bind fun v4 =>
  (lenV false v4).bind fun v5 =>
  (binK .plain .sub v5 (.int .i64 1)).bind fun v6 =>
  (C 80 [t 1, .int .i64 0, v6] H1 (n + 9)).bind fun q7 =>
  some (q7.1, q7.2.1, q7.2.2)
theorem s53 (C : Calling) (L : Body → Body) (t : Tm) (H : Hp) (n : Nat) : bodyK Try.prog C L Try.f53 t H n = S53 C L t H n := by kernel_rfl
theorem c53 (args : List Value) (H : Hp) (n : Nat) : Call Try.prog 53 args H n = S53 (Call Try.prog) Loop (argsT args) H n := (Call_body Try.func53 args H n).trans (s53 ..)
/-! 54: impl.classes -/
noncomputable def S54L0 (C : Calling) (L : Body → Body) : Body := fun t H n =>
  (binK .plain .lss (t 14) (t 13)).bind fun v9 =>
  csel v9
    ((idxA 5 (t 12) (t 14)).bind fun v10 =>
     (ld true 5 v10 H).bind fun v11 =>
     let H12 := H.set (n + 4) (some (.row [.int .i64 0, .int .i64 0, .string ⟨#[]⟩, .int .i64 0, .int .i64 0] 0 true))
     (st true 5 (ptr (n + 4) 0) v11 H12).bind fun H13 =>
     (fieldA 0 (ptr (n + 4) 0)).bind fun v14 =>
     (ld false 1 v14 H13).bind fun v15 =>
     (binK .plain .eql v15 (.int .i64 5)).bind fun v16 =>
     let t18 : Tm := put (put (put (put (put (put (put (put (put (put t 15 v9) 16 (t 14)) 17 v10) 18 v11) 6 (ptr (n + 4) 0)) 5 (t 14)) 19 v14) 20 v15) 22 v16) 21 v16
     (csel v16
       ((fieldA 3 (ptr (n + 4) 0)).bind fun v19 =>
        (ld false 1 v19 H13).bind fun v20 =>
        (idxA 1 (t18 4) v20).bind fun v21 =>
        (ld false 1 v21 H13).bind fun v22 =>
        (fieldA 4 (ptr (n + 4) 0)).bind fun v23 =>
        (ld false 1 v23 H13).bind fun v24 =>
        (idxA 1 (t18 4) v24).bind fun v25 =>
        (ld false 1 v25 H13).bind fun v26 =>
        (fieldA 3 (ptr (n + 4) 0)).bind fun v27 =>
        (st false 1 v27 v22 H13).bind fun H28 =>
        ask (ld false 1 v25 H28 = some v26) <|
        (fieldA 4 (ptr (n + 4) 0)).bind fun v29 =>
        (st false 1 v29 v26 H28).bind fun H30 =>
        some ⟨.normal, put (put (put (put (put (put (put (put (put (put (put (put t18 23 (t18 4)) 24 v19) 25 v20) 26 v21) 27 v22) 28 (t18 4)) 29 v23) 30 v24) 31 v25) 32 v26) 33 v27) 34 v29, H30, n + 25⟩)
       ((binK .plain .eql v15 (.int .i64 6)).bind fun v31 =>
        let t33 : Tm := put (put t18 36 v31) 35 v31
        (csel v31
          (some ⟨.normal, t33, H13, n + 13⟩)
          ((binK .plain .eql v15 (.int .i64 7)).bind fun v34 =>
           some ⟨.normal, put (put t33 37 v34) 35 v34, H13, n + 15⟩)
        ).bind fun (o32 : Out) =>
        (csel (o32.t 35)
          ((fieldA 3 (o32.t 6)).bind fun v37 =>
           (ld false 1 v37 o32.H).bind fun v38 =>
           (idxA 1 (o32.t 4) v38).bind fun v39 =>
           (ld false 1 v39 o32.H).bind fun v40 =>
           (fieldA 3 (o32.t 6)).bind fun v41 =>
           (st false 1 v41 v40 o32.H).bind fun H42 =>
           some ⟨.normal, put (put (put (put (put (put o32.t 38 (o32.t 4)) 39 v37) 40 v38) 41 v39) 42 v40) 43 v41, H42, o32.n + 7⟩)
          (some ⟨.normal, o32.t, o32.H, o32.n⟩)
        ).bind fun (o35 : Out) =>
        some ⟨.normal, o35.t, o35.H, o35.n⟩)
     ).bind fun (o17 : Out) =>
     (ld true 5 (o17.t 6) o17.H).bind fun v43 =>
     (lookV [(0, (.int .i64)), (1, (.int .i64)), (2, .string), (3, (.int .i64)), (4, (.int .i64))] (.int .i64 0) true (o17.t 3) v43 o17.H).bind fun v44 =>
     (ext 0 v44).bind fun v45 =>
     (ext 1 v44).bind fun v46 =>
     (un .not v46).bind fun v47 =>
     let t49 : Tm := put (put (put (put (put (put (put (put (put (put o17.t 45 (o17.t 3)) 46 v43) 47 v44) 44 v44) 48 v45) 49 v46) 7 v45) 8 v46) 50 v46) 51 v47
     (csel v47
       ((ld true 5 (t49 6) o17.H).bind fun v50 =>
        (updV [(0, (.int .i64)), (1, (.int .i64)), (2, .string), (3, (.int .i64)), (4, (.int .i64))] (t49 3) v50 (t49 5) o17.H).bind fun H51 =>
        some ⟨.normal, put (put (put (put (put t49 52 (t49 5)) 7 (t49 5)) 53 (t49 3)) 54 v50) 55 (t49 5), H51, o17.n + 16⟩)
       (some ⟨.normal, t49, o17.H, o17.n + 10⟩)
     ).bind fun (o48 : Out) =>
     (bsl (o48.n + 2) 1 1 [.int .i64 0] [(0, 1, o48.t 7)] o48.H).bind fun p52 =>
     (app (o48.n + 3) 1 8 (o48.t 4) p52.1 p52.2).bind fun p53 =>
     (binK .plain .add (o48.t 14) (.int .i64 1)).bind fun v54 =>
     some ⟨.normal, put (put (put (put (put (put (put o48.t 56 (o48.t 4)) 57 (o48.t 7)) 58 p52.1) 59 p53.1) 4 p53.1) 60 v54) 14 v54, p53.2, o48.n + 7⟩)
    (some ⟨(.exit 0), put t 15 v9, H, n + 1⟩)
noncomputable def S54 (C : Calling) (L : Body → Body) (t : Tm) (H : Hp) (n : Nat) : Option (Value × Hp × Nat) :=
  (vcells (t 0)).bind fun c2 =>
  let H1 := H.set (n) (some (.row c2 0 true))
  let H3 := H1.set (n + 2) (some (.map []))
  (bsl (n + 4) 1 0 [.int .i64 0] [] H3).bind fun p4 =>
  (fieldA 0 (ptr (n) 0)).bind fun v5 =>
  (ld false 1 v5 p4.2).bind fun v6 =>
  (lenV false v6).bind fun v7 =>
  (L (S54L0 C L) (put (put (put (put (put (put (put (put (put (put t 1 (ptr (n) 0)) 2 nilS) 9 (.map (some (n + 2)))) 3 (.map (some (n + 2)))) 10 p4.1) 4 p4.1) 11 v5) 12 v6) 13 v7) 14 (.int .i64 0)) p4.2 (n + 10)).bind fun (o8 : Out) =>
  some (o8.t 4, o8.H, o8.n + 2)
theorem s54 (C : Calling) (L : Body → Body) (t : Tm) (H : Hp) (n : Nat) : bodyK Try.prog C L Try.f54 t H n = S54 C L t H n := by kernel_rfl
theorem c54 (args : List Value) (H : Hp) (n : Nat) : Call Try.prog 54 args H n = S54 (Call Try.prog) Loop (argsT args) H n := (Call_body Try.func54 args H n).trans (s54 ..)
/-! 55: spec.l7DrawRoots -/
noncomputable def S55L0 (C : Calling) (L : Body → Body) : Body := fun t H n =>
  (C 74 [t 0, .int .i64 4] H (n + 4)).bind fun q5 =>
  (binK .plain .lss (t 6) q5.1).bind fun v6 =>
  csel v6
    ((ld true 1 (t 3) q5.2.1).bind fun v7 =>
     (C 81 [t 0, v7] q5.2.1 (q5.2.2 + 7)).bind fun q8 =>
     (bsl (q5.2.2 + 4) 1 1 [.int .i64 0] [(0, 1, q8.1)] q8.2.1).bind fun p9 =>
     (app (q5.2.2 + 5) 1 8 (t 5) p9.1 p9.2).bind fun p10 =>
     (binK .plain .add (t 6) (.int .i64 1)).bind fun v11 =>
     some ⟨.normal, put (put (put (put (put (put (put (put (put (put (put (put (put (put t 8 (t 6)) 9 (t 0)) 10 q5.1) 11 v6) 14 (t 5)) 15 (t 0)) 16 v7) 17 q8.1) 18 p9.1) 19 p10.1) 5 p10.1) 12 (t 6)) 13 v11) 6 v11, p10.2, q8.2.2 + 3⟩)
    (some ⟨(.exit 0), put (put (put (put t 8 (t 6)) 9 (t 0)) 10 q5.1) 11 v6, q5.2.1, q5.2.2⟩)
noncomputable def S55 (C : Calling) (L : Body → Body) (t : Tm) (H : Hp) (n : Nat) : Option (Value × Hp × Nat) :=
  (vcells (t 1)).bind fun c2 =>
  let H1 := H.set (n) (some (.row c2 0 true))
  (bsl (n + 2) 1 0 [.int .i64 0] [] H1).bind fun p3 =>
  (L (S55L0 C L) (put (put (put (put (put t 3 (ptr (n) 0)) 4 nilS) 7 p3.1) 5 p3.1) 6 (.int .i64 0)) p3.2 (n + 5)).bind fun (o4 : Out) =>
  some (o4.t 5, o4.H, o4.n + 2)
theorem s55 (C : Calling) (L : Body → Body) (t : Tm) (H : Hp) (n : Nat) : bodyK Try.prog C L Try.f55 t H n = S55 C L t H n := by kernel_rfl
theorem c55 (args : List Value) (H : Hp) (n : Nat) : Call Try.prog 55 args H n = S55 (Call Try.prog) Loop (argsT args) H n := (Call_body Try.func55 args H n).trans (s55 ..)
/-! 56: impl.rootsOk -/
noncomputable def S56 (C : Calling) (L : Body → Body) (t : Tm) (H : Hp) (n : Nat) : Option (Value × Hp × Nat) :=
  (vcells (t 0)).bind fun c2 =>
  let H1 := H.set (n) (some (.row c2 0 true))
  (ld true 1 (ptr (n) 0) H1).bind fun v3 =>
  (C 20 [v3] H1 (n + 11)).bind fun q4 =>
  let t6 : Tm := put (put (put (put (put t 2 (ptr (n) 0)) 4 (.bool false)) 5 v3) 6 q4.1) 7 q4.1
  (gsel q4.1 true
    (iteK ([ptr (n) 0].all ptrV) <|
     (C 65 [t6 1, .func (.func 82) #[] ⟨[ptr (n) 0]⟩] q4.2.1 (q4.2.2)).bind fun q7 =>
     (un .not q7.1).bind fun v8 =>
     some (put (put (put (put t6 8 (t6 1)) 9 (.func (.func 82) #[] ⟨[ptr (n) 0]⟩)) 10 q7.1) 11 v8, q7.2.1, q7.2.2))
    (some (put (put (put (put t6 8 (.tuple #[])) 9 (.tuple #[])) 10 (.tuple #[])) 11 (.tuple #[]), q4.2.1, q4.2.2))
  ).bind fun (q5 : R3) =>
  (pickV (q5.1 7) (q5.1 11) (.bool false)).bind fun v9 =>
  some (v9, q5.2.1, q5.2.2)
theorem s56 (C : Calling) (L : Body → Body) (t : Tm) (H : Hp) (n : Nat) : bodyK Try.prog C L Try.f56 t H n = S56 C L t H n := by kernel_rfl
theorem c56 (args : List Value) (H : Hp) (n : Nat) : Call Try.prog 56 args H n = S56 (Call Try.prog) Loop (argsT args) H n := (Call_body Try.func56 args H n).trans (s56 ..)
/-! 57: impl.reach -/
noncomputable def S57L1 (C : Calling) (L : Body → Body) : Body := fun t H n =>
  (binK .plain .geq (t 8) (.int .i64 0)).bind fun v20 =>
  csel v20
    (let t22 : Tm := put (put t 28 (t 8)) 29 v20
     Option.bind
       ((idxA 1 (t22 5) (t22 8)).bind fun v23 =>
        (ld false 1 v23 H).bind fun v24 =>
        (un .not v24).bind fun v25 =>
        csel v25
          (some ⟨(.exit 3), put (put (put (put (put t22 32 (t22 5)) 33 (t22 8)) 34 v23) 35 v24) 36 v25, H, n + 7⟩)
          ((fieldA 0 (t22 2)).bind fun v26 =>
           (ld false 1 v26 H).bind fun v27 =>
           (idxA 5 v27 (t22 8)).bind fun v28 =>
           (ld true 5 v28 H).bind fun v29 =>
           let H30 := H.set (n + 12) (some (.row [.int .i64 0, .int .i64 0, .string ⟨#[]⟩, .int .i64 0, .int .i64 0] 0 true))
           (st true 5 (ptr (n + 12) 0) v29 H30).bind fun H31 =>
           (fieldA 0 (ptr (n + 12) 0)).bind fun v32 =>
           (ld false 1 v32 H31).bind fun v33 =>
           (binK .plain .eql v33 (.int .i64 5)).bind fun v34 =>
           let t36 : Tm := put (put (put (put (put (put (put (put (put (put (put (put (put (put (put t22 32 (t22 5)) 33 (t22 8)) 34 v23) 35 v24) 36 v25) 37 v26) 38 v27) 39 (t22 8)) 40 v28) 41 v29) 9 (ptr (n + 12) 0)) 42 v32) 43 v33) 45 v34) 44 v34
           (csel v34
             ((fieldA 3 (ptr (n + 12) 0)).bind fun v37 =>
              (ld false 1 v37 H31).bind fun v38 =>
              (idxA 1 (t36 5) v38).bind fun v39 =>
              (st false 1 v39 (.bool true) H31).bind fun H40 =>
              (fieldA 4 (ptr (n + 12) 0)).bind fun v41 =>
              (ld false 1 v41 H40).bind fun v42 =>
              (idxA 1 (t36 5) v42).bind fun v43 =>
              (st false 1 v43 (.bool true) H40).bind fun H44 =>
              some ⟨.normal, put (put (put (put (put (put (put (put t36 46 (t36 5)) 47 v37) 48 v38) 49 v39) 50 (t36 5)) 51 v41) 52 v42) 53 v43, H44, n + 28⟩)
             ((binK .plain .eql v33 (.int .i64 6)).bind fun v45 =>
              let t47 : Tm := put (put t36 55 v45) 54 v45
              (csel v45
                (some ⟨.normal, t47, H31, n + 20⟩)
                ((binK .plain .eql v33 (.int .i64 7)).bind fun v48 =>
                 some ⟨.normal, put (put t47 56 v48) 54 v48, H31, n + 22⟩)
              ).bind fun (o46 : Out) =>
              (csel (o46.t 54)
                ((fieldA 3 (o46.t 9)).bind fun v51 =>
                 (ld false 1 v51 o46.H).bind fun v52 =>
                 (idxA 1 (o46.t 5) v52).bind fun v53 =>
                 (st false 1 v53 (.bool true) o46.H).bind fun H54 =>
                 some ⟨.normal, put (put (put (put o46.t 57 (o46.t 5)) 58 v51) 59 v52) 60 v53, H54, o46.n + 5⟩)
                (some ⟨.normal, o46.t, o46.H, o46.n⟩)
              ).bind fun (o49 : Out) =>
              some ⟨.normal, o49.t, o49.H, o49.n⟩)
           ).bind fun (o35 : Out) =>
           some ⟨.normal, o35.t, o35.H, o35.n⟩))
     fun (o21 : Out) =>
     (binK .plain .sub (o21.t 8) (.int .i64 1)).bind fun v55 =>
     some ⟨.normal, put (put (put o21.t 30 (o21.t 8)) 31 v55) 8 v55, o21.H, o21.n + 3⟩)
    (some ⟨(.exit 2), put (put t 28 (t 8)) 29 v20, H, n + 2⟩)
noncomputable def S57L0 (C : Calling) (L : Body → Body) : Body := fun t H n =>
  (binK .plain .lss (t 16) (t 15)).bind fun v9 =>
  csel v9
    ((idxA 1 (t 14) (t 16)).bind fun v10 =>
     (ld false 1 v10 H).bind fun v11 =>
     (idxA 1 (t 5) v11).bind fun v12 =>
     (st false 1 v12 (.bool true) H).bind fun H13 =>
     (binK .plain .add (t 16) (.int .i64 1)).bind fun v14 =>
     some ⟨.normal, put (put (put (put (put (put (put (put (put t 17 v9) 18 v10) 19 v11) 7 v11) 20 (t 5)) 21 v11) 22 v12) 23 v14) 16 v14, H13, n + 10⟩)
    (some ⟨(.exit 0), put t 17 v9, H, n + 1⟩)
noncomputable def S57 (C : Calling) (L : Body → Body) (t : Tm) (H : Hp) (n : Nat) : Option (Value × Hp × Nat) :=
  (vcells (t 0)).bind fun c2 =>
  let H1 := H.set (n) (some (.row c2 0 true))
  (fieldA 0 (ptr (n) 0)).bind fun v3 =>
  (ld false 1 v3 H1).bind fun v4 =>
  (lenV false v4).bind fun v5 =>
  (mks (n + 5) 1 1 [.bool false] v5 v5 H1).bind fun p6 =>
  (lenV false (t 1)).bind fun v7 =>
  (L (S57L0 C L) (put (put (put (put (put (put (put (put (put (put t 2 (ptr (n) 0)) 4 nilS) 10 v3) 11 v4) 12 v5) 13 p6.1) 5 p6.1) 14 (t 1)) 15 v7) 16 (.int .i64 0)) p6.2 (n + 10)).bind fun (o8 : Out) =>
  (fieldA 0 (o8.t 2)).bind fun v15 =>
  (ld false 1 v15 o8.H).bind fun v16 =>
  (lenV false v16).bind fun v17 =>
  (binK .plain .sub v17 (.int .i64 1)).bind fun v18 =>
  (L (S57L1 C L) (put (put (put (put (put o8.t 24 v15) 25 v16) 26 v17) 27 v18) 8 v18) o8.H (o8.n + 5)).bind fun (o19 : Out) =>
  some (o19.t 5, o19.H, o19.n + 2)
theorem s57 (C : Calling) (L : Body → Body) (t : Tm) (H : Hp) (n : Nat) : bodyK Try.prog C L Try.f57 t H n = S57 C L t H n := by kernel_rfl
theorem c57 (args : List Value) (H : Hp) (n : Nat) : Call Try.prog 57 args H n = S57 (Call Try.prog) Loop (argsT args) H n := (Call_body Try.func57 args H n).trans (s57 ..)
/-! 58: spec.l7Roots -/
noncomputable def S58L0 (C : Calling) (L : Body → Body) : Body := fun t H n =>
  (lenV false (t 1)).bind fun v4 =>
  (binK .plain .lss (t 5) v4).bind fun v5 =>
  csel v5
    ((ld true 1 (t 2) H).bind fun v6 =>
     (idxA 1 (t 1) (t 5)).bind fun v7 =>
     (ld false 1 v7 H).bind fun v8 =>
     (C 60 [v6, v8] H (n + 11)).bind fun q9 =>
     (un .not q9.1).bind fun v10 =>
     csel v10
       (some ⟨.ret, put (put (put (put (put (put (put (put (put (put (put (put t 6 (t 5)) 7 (t 1)) 8 v4) 9 v5) 12 v6) 13 (t 1)) 14 (t 5)) 15 v7) 16 v8) 17 q9.1) 18 v10) 4 (.bool false), q9.2.1, q9.2.2 + 1⟩)
       ((binK .plain .add (t 5) (.int .i64 1)).bind fun v11 =>
        some ⟨.normal, put (put (put (put (put (put (put (put (put (put (put (put (put (put t 6 (t 5)) 7 (t 1)) 8 v4) 9 v5) 12 v6) 13 (t 1)) 14 (t 5)) 15 v7) 16 v8) 17 q9.1) 18 v10) 10 (t 5)) 11 v11) 5 v11, q9.2.1, q9.2.2 + 3⟩))
    (some ⟨(.exit 0), put (put (put (put t 6 (t 5)) 7 (t 1)) 8 v4) 9 v5, H, n + 4⟩)
noncomputable def S58 (C : Calling) (L : Body → Body) (t : Tm) (H : Hp) (n : Nat) : Option (Value × Hp × Nat) :=
  (vcells (t 0)).bind fun c2 =>
  let H1 := H.set (n) (some (.row c2 0 true))
  (L (S58L0 C L) (put (put (put t 2 (ptr (n) 0)) 4 (.bool false)) 5 (.int .i64 0)) H1 (n + 3)).bind fun (o3 : Out) =>
  let o12 := outOf 0 o3
  thenK o12
    ((ld true 1 (o12.t 2) o12.H).bind fun v13 =>
     (C 21 [v13] o12.H (o12.n + 3)).bind fun q14 =>
     some (q14.1, q14.2.1, q14.2.2))
    (finE o12.e
       (some (o12.t 4, o12.H, o12.n)))
theorem s58 (C : Calling) (L : Body → Body) (t : Tm) (H : Hp) (n : Nat) : bodyK Try.prog C L Try.f58 t H n = S58 C L t H n := by kernel_rfl
theorem c58 (args : List Value) (H : Hp) (n : Nat) : Call Try.prog 58 args H n = S58 (Call Try.prog) Loop (argsT args) H n := (Call_body Try.func58 args H n).trans (s58 ..)
/-! 59: spec.l7Reach -/
noncomputable def S59L1 (C : Calling) (L : Body → Body) : Body := fun t H n =>
  (binK .plain .geq (t 7) (.int .i64 0)).bind fun v20 =>
  csel v20
    (let t22 : Tm := put (put t 29 (t 7)) 30 v20
     Option.bind
       ((fieldA 0 (t22 2)).bind fun v23 =>
        (ld false 1 v23 H).bind fun v24 =>
        (idxA 5 v24 (t22 7)).bind fun v25 =>
        (ld true 5 v25 H).bind fun v26 =>
        let H27 := H.set (n + 7) (some (.row [.int .i64 0, .int .i64 0, .string ⟨#[]⟩, .int .i64 0, .int .i64 0] 0 true))
        (st true 5 (ptr (n + 7) 0) v26 H27).bind fun H28 =>
        (idxA 1 (t22 5) (t22 7)).bind fun v29 =>
        (ld false 1 v29 H28).bind fun v30 =>
        (un .not v30).bind fun v31 =>
        csel v31
          (some ⟨(.exit 3), put (put (put (put (put (put (put (put (put (put (put t22 33 v23) 34 v24) 35 (t22 7)) 36 v25) 37 v26) 8 (ptr (n + 7) 0)) 38 (t22 5)) 39 (t22 7)) 40 v29) 41 v30) 42 v31, H28, n + 14⟩)
          ((fieldA 0 (ptr (n + 7) 0)).bind fun v32 =>
           (ld false 1 v32 H28).bind fun v33 =>
           (binK .plain .eql v33 (.int .i64 5)).bind fun v34 =>
           let t36 : Tm := put (put (put (put (put (put (put (put (put (put (put (put (put (put (put t22 33 v23) 34 v24) 35 (t22 7)) 36 v25) 37 v26) 8 (ptr (n + 7) 0)) 38 (t22 5)) 39 (t22 7)) 40 v29) 41 v30) 42 v31) 43 v32) 44 v33) 46 v34) 45 v34
           (csel v34
             ((fieldA 3 (ptr (n + 7) 0)).bind fun v37 =>
              (ld false 1 v37 H28).bind fun v38 =>
              (idxA 1 (t36 5) v38).bind fun v39 =>
              (st false 1 v39 (.bool true) H28).bind fun H40 =>
              (fieldA 4 (ptr (n + 7) 0)).bind fun v41 =>
              (ld false 1 v41 H40).bind fun v42 =>
              (idxA 1 (t36 5) v42).bind fun v43 =>
              (st false 1 v43 (.bool true) H40).bind fun H44 =>
              some ⟨.normal, put (put (put (put (put (put (put (put t36 47 (t36 5)) 48 v37) 49 v38) 50 v39) 51 (t36 5)) 52 v41) 53 v42) 54 v43, H44, n + 28⟩)
             ((binK .plain .eql v33 (.int .i64 6)).bind fun v45 =>
              let t47 : Tm := put (put t36 56 v45) 55 v45
              (csel v45
                (some ⟨.normal, t47, H28, n + 20⟩)
                ((binK .plain .eql v33 (.int .i64 7)).bind fun v48 =>
                 some ⟨.normal, put (put t47 57 v48) 55 v48, H28, n + 22⟩)
              ).bind fun (o46 : Out) =>
              (csel (o46.t 55)
                ((fieldA 3 (o46.t 8)).bind fun v51 =>
                 (ld false 1 v51 o46.H).bind fun v52 =>
                 (idxA 1 (o46.t 5) v52).bind fun v53 =>
                 (st false 1 v53 (.bool true) o46.H).bind fun H54 =>
                 some ⟨.normal, put (put (put (put o46.t 58 (o46.t 5)) 59 v51) 60 v52) 61 v53, H54, o46.n + 5⟩)
                (some ⟨.normal, o46.t, o46.H, o46.n⟩)
              ).bind fun (o49 : Out) =>
              some ⟨.normal, o49.t, o49.H, o49.n⟩)
           ).bind fun (o35 : Out) =>
           some ⟨.normal, o35.t, o35.H, o35.n⟩))
     fun (o21 : Out) =>
     (binK .plain .sub (o21.t 7) (.int .i64 1)).bind fun v55 =>
     some ⟨.normal, put (put (put o21.t 31 (o21.t 7)) 32 v55) 7 v55, o21.H, o21.n + 3⟩)
    (some ⟨(.exit 2), put (put t 29 (t 7)) 30 v20, H, n + 2⟩)
noncomputable def S59L0 (C : Calling) (L : Body → Body) : Body := fun t H n =>
  (lenV false (t 1)).bind fun v8 =>
  (binK .plain .lss (t 6) v8).bind fun v9 =>
  csel v9
    ((idxA 1 (t 1) (t 6)).bind fun v10 =>
     (ld false 1 v10 H).bind fun v11 =>
     (idxA 1 (t 5) v11).bind fun v12 =>
     (st false 1 v12 (.bool true) H).bind fun H13 =>
     (binK .plain .add (t 6) (.int .i64 1)).bind fun v14 =>
     some ⟨.normal, put (put (put (put (put (put (put (put (put (put (put (put (put t 13 (t 6)) 14 (t 1)) 15 v8) 16 v9) 19 (t 5)) 20 (t 1)) 21 (t 6)) 22 v10) 23 v11) 24 v12) 17 (t 6)) 18 v14) 6 v14, H13, n + 14⟩)
    (some ⟨(.exit 0), put (put (put (put t 13 (t 6)) 14 (t 1)) 15 v8) 16 v9, H, n + 4⟩)
noncomputable def S59 (C : Calling) (L : Body → Body) (t : Tm) (H : Hp) (n : Nat) : Option (Value × Hp × Nat) :=
  (vcells (t 0)).bind fun c2 =>
  let H1 := H.set (n) (some (.row c2 0 true))
  (fieldA 0 (ptr (n) 0)).bind fun v3 =>
  (ld false 1 v3 H1).bind fun v4 =>
  (lenV false v4).bind fun v5 =>
  (mks (n + 5) 1 1 [.bool false] v5 v5 H1).bind fun p6 =>
  (L (S59L0 C L) (put (put (put (put (put (put (put (put t 2 (ptr (n) 0)) 4 nilS) 9 v3) 10 v4) 11 v5) 12 p6.1) 5 p6.1) 6 (.int .i64 0)) p6.2 (n + 8)).bind fun (o7 : Out) =>
  (fieldA 0 (o7.t 2)).bind fun v15 =>
  (ld false 1 v15 o7.H).bind fun v16 =>
  (lenV false v16).bind fun v17 =>
  (binK .plain .sub v17 (.int .i64 1)).bind fun v18 =>
  (L (S59L1 C L) (put (put (put (put (put o7.t 25 v15) 26 v16) 27 v17) 28 v18) 7 v18) o7.H (o7.n + 5)).bind fun (o19 : Out) =>
  some (o19.t 5, o19.H, o19.n + 2)
theorem s59 (C : Calling) (L : Body → Body) (t : Tm) (H : Hp) (n : Nat) : bodyK Try.prog C L Try.f59 t H n = S59 C L t H n := by kernel_rfl
theorem c59 (args : List Value) (H : Hp) (n : Nat) : Call Try.prog 59 args H n = S59 (Call Try.prog) Loop (argsT args) H n := (Call_body Try.func59 args H n).trans (s59 ..)
/-! 60: spec.l2Has -/
noncomputable def S60 (C : Calling) (L : Body → Body) (t : Tm) (H : Hp) (n : Nat) : Option (Value × Hp × Nat) :=
  (vcells (t 0)).bind fun c2 =>
  let H1 := H.set (n) (some (.row c2 0 true))
  (fieldA 0 (ptr (n) 0)).bind fun v3 =>
  (ld false 1 v3 H1).bind fun v4 =>
  (lenV false v4).bind fun v5 =>
  (binK .plain .sub v5 (.int .i64 1)).bind fun v6 =>
  (C 68 [t 1, .int .i64 0, v6] H1 (n + 9)).bind fun q7 =>
  some (q7.1, q7.2.1, q7.2.2)
theorem s60 (C : Calling) (L : Body → Body) (t : Tm) (H : Hp) (n : Nat) : bodyK Try.prog C L Try.f60 t H n = S60 C L t H n := by kernel_rfl
theorem c60 (args : List Value) (H : Hp) (n : Nat) : Call Try.prog 60 args H n = S60 (Call Try.prog) Loop (argsT args) H n := (Call_body Try.func60 args H n).trans (s60 ..)
/-! 61: spec.l3Write -/
noncomputable def S61L0 (C : Calling) (L : Body → Body) : Body := fun t H n =>
  (fieldA 0 (t 3)).bind fun v60 =>
  (ld false 1 v60 H).bind fun v61 =>
  (fieldA 4 (t 7)).bind fun v62 =>
  (ld false 1 v62 H).bind fun v63 =>
  (idxA 5 v61 v63).bind fun v64 =>
  (fieldA 0 v64).bind fun v65 =>
  (ld false 1 v65 H).bind fun v66 =>
  (binK .plain .eql v66 (.int .i64 5)).bind fun v67 =>
  let t69 : Tm := put (put (put (put (put (put (put (put (put t 83 v60) 84 v61) 85 v62) 86 v63) 87 v64) 88 v65) 89 v66) 90 v67) 91 v67
  (gsel v67 true
    ((lenV true (t69 2)).bind fun v70 =>
     (binK .plain .leq v70 (.int .i64 400)).bind fun v71 =>
     some (put (put (put t69 92 (t69 2)) 93 v70) 94 v71, H, n + 13))
    (some (put (put (put t69 92 (.tuple #[])) 93 (.tuple #[])) 94 (.tuple #[]), H, n + 13))
  ).bind fun (q68 : R3) =>
  (pickV (q68.1 91) (q68.1 94) (.bool false)).bind fun v72 =>
  csel v72
    ((fieldA 0 (q68.1 3)).bind fun v73 =>
     (ld false 1 v73 q68.2.1).bind fun v74 =>
     (fieldA 4 (q68.1 7)).bind fun v75 =>
     (ld false 1 v75 q68.2.1).bind fun v76 =>
     (idxA 5 v74 v76).bind fun v77 =>
     (ld true 5 v77 q68.2.1).bind fun v78 =>
     (st true 5 (q68.1 7) v78 q68.2.1).bind fun H79 =>
     (ld true 1 (q68.1 3) H79).bind fun v80 =>
     (fieldA 3 (q68.1 7)).bind fun v81 =>
     (ld false 1 v81 H79).bind fun v82 =>
     (binK .plain .add (q68.1 2) (.string ⟨#[32]⟩)).bind fun v83 =>
     (C 61 [v80, v82, v83] H79 (q68.2.2 + 14)).bind fun q84 =>
     some ⟨.normal, put (put (put (put (put (put (put (put (put (put (put (put (put (put q68.1 95 v72) 96 v73) 97 v74) 98 v75) 99 v76) 100 v77) 101 v78) 102 v80) 103 v81) 104 v82) 105 (q68.1 2)) 106 v83) 107 q84.1) 2 q84.1, q84.2.1, q84.2.2⟩)
    (some ⟨(.exit 1), put q68.1 95 v72, q68.2.1, q68.2.2⟩)
noncomputable def S61 (C : Calling) (L : Body → Body) (t : Tm) (H : Hp) (n : Nat) : Option (Value × Hp × Nat) :=
  (vcells (t 0)).bind fun c2 =>
  let H1 := H.set (n) (some (.row c2 0 true))
  (lenV true (t 2)).bind fun v3 =>
  (binK .plain .gtr v3 (.int .i64 400)).bind fun v4 =>
  csel v4
    (some (t 2, H1, n + 7))
    ((fieldA 0 (ptr (n) 0)).bind fun v5 =>
     (ld false 1 v5 H1).bind fun v6 =>
     (idxA 5 v6 (t 1)).bind fun v7 =>
     (ld true 5 v7 H1).bind fun v8 =>
     let H9 := H1.set (n + 10) (some (.row [.int .i64 0, .int .i64 0, .string ⟨#[]⟩, .int .i64 0, .int .i64 0] 0 true))
     (st true 5 (ptr (n + 10) 0) v8 H9).bind fun H10 =>
     (fieldA 0 (ptr (n + 10) 0)).bind fun v11 =>
     (ld false 1 v11 H10).bind fun v12 =>
     (binK .plain .eql v12 (.int .i64 1)).bind fun v13 =>
     csel v13
       ((binK .plain .add (t 2) (.string ⟨#[40, 41]⟩)).bind fun v14 =>
        some (v14, H10, n + 19))
       ((binK .plain .eql v12 (.int .i64 2)).bind fun v15 =>
        csel v15
          ((fieldA 1 (ptr (n + 10) 0)).bind fun v16 =>
           (ld false 1 v16 H10).bind fun v17 =>
           (binK .plain .eql v17 (.int .i64 1)).bind fun v18 =>
           csel v18
             ((binK .plain .add (t 2) (.string ⟨#[35, 116]⟩)).bind fun v19 =>
              some (v19, H10, n + 24))
             ((binK .plain .add (t 2) (.string ⟨#[35, 102]⟩)).bind fun v20 =>
              some (v20, H10, n + 24)))
          ((binK .plain .eql v12 (.int .i64 3)).bind fun v21 =>
           csel v21
             ((fieldA 1 (ptr (n + 10) 0)).bind fun v22 =>
              (ld false 1 v22 H10).bind fun v23 =>
              (C 83 [v23] H10 (n + 26)).bind fun q24 =>
              (binK .plain .add (t 2) q24.1).bind fun v25 =>
              some (v25, q24.2.1, q24.2.2))
             ((binK .plain .eql v12 (.int .i64 4)).bind fun v26 =>
              csel v26
                ((fieldA 2 (ptr (n + 10) 0)).bind fun v27 =>
                 (ld false 1 v27 H10).bind fun v28 =>
                 (binK .plain .add (t 2) v28).bind fun v29 =>
                 some (v29, H10, n + 27))
                ((binK .plain .eql v12 (.int .i64 6)).bind fun v30 =>
                 csel v30
                   ((binK .plain .add (t 2) (.string ⟨#[35, 102, 117, 110]⟩)).bind fun v31 =>
                    (fieldA 1 (ptr (n + 10) 0)).bind fun v32 =>
                    (ld false 1 v32 H10).bind fun v33 =>
                    (C 83 [v33] H10 (n + 31)).bind fun q34 =>
                    (binK .plain .add v31 q34.1).bind fun v35 =>
                    some (v35, q34.2.1, q34.2.2))
                   ((binK .plain .eql v12 (.int .i64 7)).bind fun v36 =>
                    csel v36
                      ((binK .plain .add (t 2) (.string ⟨#[35, 107, 111, 110, 116]⟩)).bind fun v37 =>
                       (fieldA 1 (ptr (n + 10) 0)).bind fun v38 =>
                       (ld false 1 v38 H10).bind fun v39 =>
                       (C 83 [v39] H10 (n + 33)).bind fun q40 =>
                       (binK .plain .add v37 q40.1).bind fun v41 =>
                       some (v41, q40.2.1, q40.2.2))
                      ((binK .plain .eql v12 (.int .i64 8)).bind fun v42 =>
                       csel v42
                         ((binK .plain .add (t 2) (.string ⟨#[35, 112, 114, 105, 109]⟩)).bind fun v43 =>
                          (fieldA 1 (ptr (n + 10) 0)).bind fun v44 =>
                          (ld false 1 v44 H10).bind fun v45 =>
                          (C 83 [v45] H10 (n + 35)).bind fun q46 =>
                          (binK .plain .add v43 q46.1).bind fun v47 =>
                          some (v47, q46.2.1, q46.2.2))
                         ((binK .plain .eql v12 (.int .i64 9)).bind fun v48 =>
                          csel v48
                            ((binK .plain .add (t 2) (.string ⟨#[35, 112, 105, 100]⟩)).bind fun v49 =>
                             (fieldA 1 (ptr (n + 10) 0)).bind fun v50 =>
                             (ld false 1 v50 H10).bind fun v51 =>
                             (C 83 [v51] H10 (n + 37)).bind fun q52 =>
                             (binK .plain .add v49 q52.1).bind fun v53 =>
                             some (v53, q52.2.1, q52.2.2))
                            ((ld true 1 (ptr (n) 0) H10).bind fun v54 =>
                             (fieldA 3 (ptr (n + 10) 0)).bind fun v55 =>
                             (ld false 1 v55 H10).bind fun v56 =>
                             (binK .plain .add (t 2) (.string ⟨#[40]⟩)).bind fun v57 =>
                             (C 61 [v54, v56, v57] H10 (n + 37)).bind fun q58 =>
                             (L (S61L0 C L) (put (put (put (put (put (put (put (put (put (put (put (put (put (put (put (put (put (put (put (put (put (put (put (put (put (put (put (put (put (put (put (put (put (put (put (put t 3 (ptr (n) 0)) 6 (.string ⟨#[]⟩)) 8 (t 2)) 9 v3) 10 v4) 12 v5) 13 v6) 14 (t 1)) 15 v7) 16 v8) 7 (ptr (n + 10) 0)) 17 v11) 18 v12) 20 v13) 19 v13) 24 v15) 23 v15) 33 v21) 32 v21) 40 v26) 39 v26) 46 v30) 45 v30) 54 v36) 53 v36) 62 v42) 61 v42) 70 v48) 69 v48) 77 v54) 78 v55) 79 v56) 80 (t 2)) 81 v57) 82 q58.1) 2 q58.1) q58.2.1 (q58.2.2)).bind fun (o59 : Out) =>
                             (fieldA 0 (o59.t 3)).bind fun v85 =>
                             (ld false 1 v85 o59.H).bind fun v86 =>
                             (fieldA 4 (o59.t 7)).bind fun v87 =>
                             (ld false 1 v87 o59.H).bind fun v88 =>
                             (idxA 5 v86 v88).bind fun v89 =>
                             (fieldA 0 v89).bind fun v90 =>
                             (ld false 1 v90 o59.H).bind fun v91 =>
                             (binK .plain .neq v91 (.int .i64 1)).bind fun v92 =>
                             let t94 : Tm := put (put (put (put (put (put (put (put o59.t 108 v85) 109 v86) 110 v87) 111 v88) 112 v89) 113 v90) 114 v91) 115 v92
                             (csel v92
                               ((ld true 1 (t94 3) o59.H).bind fun v95 =>
                                (fieldA 4 (t94 7)).bind fun v96 =>
                                (ld false 1 v96 o59.H).bind fun v97 =>
                                (binK .plain .add (t94 2) (.string ⟨#[32, 46, 32]⟩)).bind fun v98 =>
                                (C 61 [v95, v97, v98] o59.H (o59.n + 15)).bind fun q99 =>
                                some ⟨.normal, put (put (put (put (put (put (put t94 116 v95) 117 v96) 118 v97) 119 (t94 2)) 120 v98) 121 q99.1) 2 q99.1, q99.2.1, q99.2.2⟩)
                               (some ⟨.normal, t94, o59.H, o59.n + 8⟩)
                             ).bind fun (o93 : Out) =>
                             (binK .plain .add (o93.t 2) (.string ⟨#[41]⟩)).bind fun v100 =>
                             some (v100, o93.H, o93.n + 3))))))))))
theorem s61 (C : Calling) (L : Body → Body) (t : Tm) (H : Hp) (n : Nat) : bodyK Try.prog C L Try.f61 t H n = S61 C L t H n := by kernel_rfl
theorem c61 (args : List Value) (H : Hp) (n : Nat) : Call Try.prog 61 args H n = S61 (Call Try.prog) Loop (argsT args) H n := (Call_body Try.func61 args H n).trans (s61 ..)
/-! 62: impl.writing).value -/
noncomputable def S62 (C : Calling) (L : Body → Body) (t : Tm) (H : Hp) (n : Nat) : Option (Value × Hp × Nat) :=
  (nilchk (t 0)).bind fun v1 =>
  (fieldA 0 v1).bind fun v2 =>
  (fieldA 0 v2).bind fun v3 =>
  (ld false 1 v3 H).bind fun v4 =>
  (idxA 5 v4 (t 1)).bind fun v5 =>
  (ld true 5 v5 H).bind fun v6 =>
  let H7 := H.set (n + 8) (some (.row [.int .i64 0, .int .i64 0, .string ⟨#[]⟩, .int .i64 0, .int .i64 0] 0 true))
  (st true 5 (ptr (n + 8) 0) v6 H7).bind fun H8 =>
  (C 63 [t 0] H8 (n + 13)).bind fun q9 =>
  let t11 : Tm := put (put (put (put (put (put (put (put (put (put (put (put t 5 (t 0)) 6 v1) 7 v2) 8 v3) 9 v4) 10 (t 1)) 11 v5) 12 v6) 4 (ptr (n + 8) 0)) 26 (t 0)) 27 q9.1) 25 q9.1
  (csel q9.1
    (some ⟨.normal, t11, q9.2.1, q9.2.2⟩)
    ((fieldA 0 (ptr (n + 8) 0)).bind fun v12 =>
     (ld false 1 v12 q9.2.1).bind fun v13 =>
     (binK .plain .eql v13 (.int .i64 1)).bind fun v14 =>
     let t16 : Tm := put (put (put (put t11 29 v12) 30 v13) 31 v14) 32 v14
     (gsel v14 false
       ((fieldA 0 (ptr (n + 8) 0)).bind fun v17 =>
        (ld false 1 v17 q9.2.1).bind fun v18 =>
        (binK .plain .eql v18 (.int .i64 5)).bind fun v19 =>
        some (put (put (put t16 33 v17) 34 v18) 35 v19, q9.2.1, q9.2.2 + 9))
       (some (put (put (put t16 33 (.tuple #[])) 34 (.tuple #[])) 35 (.tuple #[]), q9.2.1, q9.2.2 + 9))
     ).bind fun (q15 : R3) =>
     (pickV (q15.1 32) (.bool true) (q15.1 35)).bind fun v20 =>
     let t22 : Tm := put (put q15.1 36 v20) 28 v20
     (csel v20
       ((C 84 [t22 0, .string ⟨#[40]⟩] q15.2.1 (q15.2.2 + 2)).bind fun q23 =>
        (C 85 [t22 0, t22 1] q23.2.1 (q23.2.2 + 3)).bind fun q24 =>
        (C 84 [t22 0, .string ⟨#[41]⟩] q24.2.1 (q24.2.2 + 2)).bind fun q25 =>
        some ⟨.normal, put (put (put (put (put (put (put t22 37 (t22 0)) 38 q23.1) 39 (t22 0)) 40 (t22 1)) 41 q24.1) 42 (t22 0)) 43 q25.1, q25.2.1, q25.2.2⟩)
       ((fieldA 0 (t22 4)).bind fun v26 =>
        (ld false 1 v26 q15.2.1).bind fun v27 =>
        (binK .plain .eql v27 (.int .i64 2)).bind fun v28 =>
        let t30 : Tm := put (put (put (put t22 45 v26) 46 v27) 47 v28) 48 v28
        (gsel v28 true
          ((fieldA 1 (t30 4)).bind fun v31 =>
           (ld false 1 v31 q15.2.1).bind fun v32 =>
           (binK .plain .eql v32 (.int .i64 1)).bind fun v33 =>
           some (put (put (put t30 49 v31) 50 v32) 51 v33, q15.2.1, q15.2.2 + 9))
          (some (put (put (put t30 49 (.tuple #[])) 50 (.tuple #[])) 51 (.tuple #[]), q15.2.1, q15.2.2 + 9))
        ).bind fun (q29 : R3) =>
        (pickV (q29.1 48) (q29.1 51) (.bool false)).bind fun v34 =>
        let t36 : Tm := put (put q29.1 52 v34) 44 v34
        (csel v34
          ((C 84 [t36 0, .string ⟨#[35, 116]⟩] q29.2.1 (q29.2.2 + 2)).bind fun q37 =>
           some ⟨.normal, put (put t36 53 (t36 0)) 54 q37.1, q37.2.1, q37.2.2⟩)
          ((fieldA 0 (t36 4)).bind fun v38 =>
           (ld false 1 v38 q29.2.1).bind fun v39 =>
           (binK .plain .eql v39 (.int .i64 2)).bind fun v40 =>
           let t42 : Tm := put (put (put (put t36 56 v38) 57 v39) 58 v40) 55 v40
           (csel v40
             ((C 84 [t42 0, .string ⟨#[35, 102]⟩] q29.2.1 (q29.2.2 + 6)).bind fun q43 =>
              some ⟨.normal, put (put t42 59 (t42 0)) 60 q43.1, q43.2.1, q43.2.2⟩)
             ((fieldA 0 (t42 4)).bind fun v44 =>
              (ld false 1 v44 q29.2.1).bind fun v45 =>
              (binK .plain .eql v45 (.int .i64 3)).bind fun v46 =>
              let t48 : Tm := put (put (put (put t42 62 v44) 63 v45) 64 v46) 61 v46
              (csel v46
                ((fieldA 1 (t48 4)).bind fun v49 =>
                 (ld false 1 v49 q29.2.1).bind fun v50 =>
                 (C 86 [v50] q29.2.1 (q29.2.2 + 13)).bind fun q51 =>
                 (C 84 [t48 0, q51.1] q51.2.1 (q51.2.2)).bind fun q52 =>
                 some ⟨.normal, put (put (put (put (put t48 65 (t48 0)) 66 v49) 67 v50) 68 q51.1) 69 q52.1, q52.2.1, q52.2.2⟩)
                ((fieldA 0 (t48 4)).bind fun v53 =>
                 (ld false 1 v53 q29.2.1).bind fun v54 =>
                 (binK .plain .eql v54 (.int .i64 4)).bind fun v55 =>
                 let t57 : Tm := put (put (put (put t48 71 v53) 72 v54) 73 v55) 70 v55
                 (csel v55
                   ((fieldA 2 (t57 4)).bind fun v58 =>
                    (ld false 1 v58 q29.2.1).bind fun v59 =>
                    (C 84 [t57 0, v59] q29.2.1 (q29.2.2 + 16)).bind fun q60 =>
                    some ⟨.normal, put (put (put (put t57 74 (t57 0)) 75 v58) 76 v59) 77 q60.1, q60.2.1, q60.2.2⟩)
                   ((bsl (q29.2.2 + 13) 1 4 [.string ⟨#[]⟩] [(0, 1, .string ⟨#[35, 102, 117, 110]⟩), (1, 1, .string ⟨#[35, 107, 111, 110, 116]⟩), (2, 1, .string ⟨#[35, 112, 114, 105, 109]⟩), (3, 1, .string ⟨#[35, 112, 105, 100]⟩)] q29.2.1).bind fun p61 =>
                    (fieldA 0 (t57 4)).bind fun v62 =>
                    (ld false 1 v62 p61.2).bind fun v63 =>
                    (binK .plain .sub v63 (.int .i64 6)).bind fun v64 =>
                    (idxA 1 p61.1 v64).bind fun v65 =>
                    (ld false 1 v65 p61.2).bind fun v66 =>
                    (fieldA 1 (t57 4)).bind fun v67 =>
                    (ld false 1 v67 p61.2).bind fun v68 =>
                    (C 86 [v68] p61.2 (q29.2.2 + 24)).bind fun q69 =>
                    ask (ld false 1 v65 q69.2.1 = some v66) <|
                    ask (ld false 1 v62 q69.2.1 = some v63) <|
                    (binK .plain .add v66 q69.1).bind fun v70 =>
                    (C 84 [t57 0, v70] q69.2.1 (q69.2.2)).bind fun q71 =>
                    some ⟨.normal, put (put (put (put (put (put (put (put (put (put (put (put t57 13 (t57 0)) 14 p61.1) 15 v62) 16 v63) 17 v64) 18 v65) 19 v66) 20 v67) 21 v68) 22 q69.1) 23 v70) 24 q71.1, q71.2.1, q71.2.2⟩)
                 ).bind fun (o56 : Out) =>
                 some ⟨.normal, o56.t, o56.H, o56.n⟩)
              ).bind fun (o47 : Out) =>
              some ⟨.normal, o47.t, o47.H, o47.n⟩)
           ).bind fun (o41 : Out) =>
           some ⟨.normal, o41.t, o41.H, o41.n⟩)
        ).bind fun (o35 : Out) =>
        some ⟨.normal, o35.t, o35.H, o35.n⟩)
     ).bind fun (o21 : Out) =>
     some ⟨.normal, o21.t, o21.H, o21.n⟩)
  ).bind fun (o10 : Out) =>
  some (.tuple ⟨[]⟩, o10.H, o10.n)
theorem s62 (C : Calling) (L : Body → Body) (t : Tm) (H : Hp) (n : Nat) : bodyK Try.prog C L Try.f62 t H n = S62 C L t H n := by kernel_rfl
theorem c62 (args : List Value) (H : Hp) (n : Nat) : Call Try.prog 62 args H n = S62 (Call Try.prog) Loop (argsT args) H n := (Call_body Try.func62 args H n).trans (s62 ..)
end Go.Proofs.Ytcjbaidcmidijaa.Ax
